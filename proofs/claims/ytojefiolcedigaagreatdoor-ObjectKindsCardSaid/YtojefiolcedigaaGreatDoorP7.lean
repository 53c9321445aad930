/- Texts on which the proof of this claim stands: Ob6. -/
import Derived.Test.YtojefiolcedigaaGreatDoorP3
import Derived.Test.YtojefiolcedigaaGreatDoorP4
import Derived.Test.YtojefiolcedigaaGreatDoorP6
namespace Go.Proofs.YtojefiolcedigaaGreatDoor
open K
set_option linter.unusedVariables false
abbrev zob : Obj := .cells (oc ⟨0,m0,c0,t0⟩).toArray 38 (0,0)
abbrev mob (m : MM) : Obj := .cells (mc m).toArray 28 (0,0)
abbrev cob (c : CM) : Obj := .cells (cc c).toArray 34 (0,0)
abbrev tob (t : TM) : Obj := .cells (tc t).toArray 36 (0,0)
abbrev oob (o : OM) : Obj := .cells (oc o).toArray 38 (0,0)
theorem awakeK {w : World} {t : TypeId} {fr : Nat × Nat} (hb : w.heap[0]? = some (.cells (wv Kc) t fr)) : Calls Tryz.prog 6 #[] w fun e w' => e = .returned (.bool true) ∧ Ext [] w w' := by
 rw [show wv Kc = (roundsL.map fun z => Value.int .u32 z).toArray from by kernel_rfl] at hb
 exact awake12 hb
def cN (c : CM) : CM := { c with n := (c.n + 1) % 18446744073709551616 }
def tB (t : TM) : TM := { t with t := t.t ++ ⟨#[33]⟩ }
theorem cc_setn {c : CM} (hd : c.d.length = 32) : ((cc c).toArray.setIfInBounds 33 (.int .u64 (((c.n : Int) + 1) % 18446744073709551616))) = (cc (cN c)).toArray := by
 rw [List.setIfInBounds_toArray]
 congr 1
 have e : (((c.n : Int) + 1) % 18446744073709551616) = (((c.n + 1) % 18446744073709551616 : Nat) : Int) := by omega
 rw [e]
 unfold cc
 rw [List.set_append_right _ _ (by rw [dgc_len hd]; decide),dgc_len hd]
 rfl
theorem tc_sett {t : TM} (hd : t.d.length = 32) : ((tc t).toArray.setIfInBounds 32 (.string (t.t ++ (⟨#[33]⟩ : ByteArray)))) = (tc (tB t)).toArray := by
 rw [List.setIfInBounds_toArray]
 congr 1
 unfold tc
 rw [List.set_append_right _ _ (by rw [dgc_len hd]; exact Nat.le_refl _),dgc_len hd]
 rfl
theorem same_ab {xa xb : MO} {m n : MM} (ha : MOk xa m) (hb : MOk xb n) : osame (oA xa m) (oA xb n) = msame m n := by
 rw [os_map (a := oA xa m) (b := oA xb n) rfl rfl]
 show ((decide (m.vs = n.vs) && decide (m.es = n.es)) && decide ((mMO xa m).rs.map RowU.xs = (mMO xb n).rs.map RowU.xs)) = _
 rw [ha.xs,hb.xs]; rfl
theorem msame_refl (m : MM) : msame m m = true := by unfold msame; simp
theorem csame_refl (c : CM) : csame c c = true := by unfold csame; simp
theorem tsame_refl (t : TM) : tsame t t = true := by unfold tsame; simp
theorem osame_refl (o : OM) : osame o o = true := by
 unfold osame
 rw [if_neg (fun e => e rfl),msame_refl,csame_refl,tsame_refl]
 repeat' split
 all_goals rfl
theorem same_ac (xa : MO) (m : MM) (o : K.Own) (c : CM) : osame (oA xa m) (oC o c) = false := os_kind (by show (109 : Int) ≠ 99; decide)
theorem same_ct (o : K.Own) (c : CM) (t : TM) : osame (oC o c) (oT t) = false := os_kind (by show (99 : Int) ≠ 116; decide)
theorem same_cc (o q : K.Own) (c : CM) : osame (oC o c) (oC q (cN c)) = false := by
 rw [os_com (a := oC o c) (b := oC q (cN c)) rfl (by show (99 : Int) ≠ 109; decide) rfl]
 have e : ((c.n : Int) == (((c.n + 1) % 18446744073709551616 : Nat) : Int)) = false := beq_eq_false_iff_ne.2 (by omega)
 show ((((c.d == c.d) && decide (c.ps = c.ps)) && ((c.n : Int) == (((c.n + 1) % 18446744073709551616 : Nat) : Int))) && (c.t.toList == c.t.toList)) = false
 rw [e,Bool.and_false,Bool.false_and]
theorem same_tt (t : TM) : osame (oT t) (oT (tB t)) = false := by
 rw [os_tag (a := oT t) (b := oT (tB t)) rfl (by show (116 : Int) ≠ 109; decide) (by show (116 : Int) ≠ 99; decide) rfl]
 have e : (t.t.toList == (t.t ++ (⟨#[33]⟩ : ByteArray)).toList) = false := beq_eq_false_iff_ne.2 (fun h => by
  rw [Go.ByteArray.toList_eq,Go.ByteArray.toList_eq] at h
  have := congrArg List.length h
  simp [ByteArray.data_append] at this)
 show ((t.d == t.d) && (t.t.toList == (t.t ++ (⟨#[33]⟩ : ByteArray)).toList)) = false
 rw [e,Bool.and_false]
theorem cC_in {o : K.Own} {c : CM} {Rl : List (Nat × Obj)} (hC : InC Rl c) (h : OwnOk o 32 c.ps.length (c.ps.flatMap dgc)) : InC (Own.o 30 (c.ps.flatMap dgc) o) (cC o c) := ⟨hC.d,own_inf h,hC.w,hC.n⟩
theorem cN_in {c : CM} {Rl : List (Nat × Obj)} (hC : InC Rl c) : InC Rl (cN c) := ⟨hC.d,hC.p,hC.w,hC.n⟩
theorem hp_all {w0 w : World} {M : List Nat} {R O : List (Nat × Obj)} (h : HP w0 M R O w) : Has w (R ++ O) := fun e he => (List.mem_append.1 he).elim (fun h1 => h.ro e h1) (fun h1 => h.own e h1)
theorem od_sub (L X T : List (Nat × Obj)) : (L ++ T).Sublist (L ++ (X ++ T)) := List.Sublist.append (List.Sublist.refl L) (List.sublist_append_right X T)
set_option maxRecDepth 100000 in
set_option maxHeartbeats 16000000 in
theorem kindsWalk (m n : MM) (c : CM) (t : TM) (Rl : List (Nat × Obj)) (tt0 : TypeId) (fr0 : Nat × Nat) (w : World) (hM : InM Rl m) (hN : InM Rl n) (hC : InC Rl c) (hd : t.d.length = 32) (hR : Has w ((0,Obj.cells (wv Kc) tt0 fr0) :: Rl)) :
  Calls Tryz.prog 4 #[.agg (mc m).toArray,.agg (mc n).toArray,.agg (cc c).toArray,.agg (tc t).toArray] w fun e w' => e = .returned (.bool true) ∧ Ext [] w w' := by
 have hcd := hC.d
 refine enter (vs := [.agg (mc m).toArray,.agg (mc n).toArray,.agg (cc c).toArray,.agg (tc t).toArray]) [] ((0,Obj.cells (wv Kc) tt0 fr0) :: Rl) [] Tryz.func4 rfl (by kernel_rfl) (HP.ofHas hR) ?_
 refine Cfg.begL rfl ?_
 refine CfgL.eff (o := _) rfl (by kernel_rfl) (by kernel_rfl) (Eff.box (v := .agg (mc m).toArray) rfl (by kernel_rfl)) ?_
 rintro mb ⟨hmb,nmb⟩
 refine CfgL.eff (o := _) rfl (by kernel_rfl) (by kernel_rfl) (Eff.box (v := .agg (mc n).toArray) rfl (by kernel_rfl)) ?_
 rintro nb ⟨hnb,nnb⟩
 refine CfgL.eff (o := _) rfl (by kernel_rfl) (by kernel_rfl) (Eff.box (v := .agg (cc c).toArray) rfl (by kernel_rfl)) ?_
 rintro cb ⟨hcb,ncb⟩
 refine CfgL.eff (o := _) rfl (by kernel_rfl) (by kernel_rfl) (Eff.box (v := .agg (tc t).toArray) rfl (by kernel_rfl)) ?_
 rintro tb ⟨htb,ntb⟩
 refine CfgL.pure 1 [] (some [4,5,6,7]) (Γ' := [(7,[],.pointer (some ⟨tb,0,none⟩)),(6,[],.pointer (some ⟨cb,0,none⟩)),(5,[],.pointer (some ⟨nb,0,none⟩)),(4,[],.pointer (some ⟨mb,0,none⟩))]) (nd := (fun _ => [])) (by kernel_rfl) (fun _ => by kernel_rfl) trivial ?_
 refine CfgL.done rfl ?_
 refine Cfg.begL rfl ?_
 refine CfgL.eff (o := _) rfl (by kernel_rfl) (by kernel_rfl) (Eff.callA (vs := []) (.bool true) rfl Tryz.func6 rfl rfl (by kernel_rfl) (fun w1 h => awakeK (h.ro (0,_) (List.mem_cons_self ..)))) ?_
 rintro ⟨⟩ -
 refine CfgL.pure 1 [] (some [4,5,6,7,16]) (Γ' := [(16,[],.bool false),(7,[],.pointer (some ⟨tb,0,none⟩)),(6,[],.pointer (some ⟨cb,0,none⟩)),(5,[],.pointer (some ⟨nb,0,none⟩)),(4,[],.pointer (some ⟨mb,0,none⟩))]) (nd := (fun _ => [])) (by kernel_rfl) (fun _ => by kernel_rfl) trivial ?_
 refine CfgL.done rfl ?_
 refine Cfg.condF rfl (b := false) (by kernel_rfl) rfl ?_
 refine Cfg.begL rfl ?_
 refine CfgL.pure 1 [(0,false,some (.agg (mc m).toArray))] (some [4,5,6,7,17]) (Γ' := [(17,[],.agg (mc m).toArray),(7,[],.pointer (some ⟨tb,0,none⟩)),(6,[],.pointer (some ⟨cb,0,none⟩)),(5,[],.pointer (some ⟨nb,0,none⟩)),(4,[],.pointer (some ⟨mb,0,none⟩))]) (nd := (fun S => [(∀ w1,S w1 → (loadVar 28 ⟨mb,0,none⟩).run Tryz.prog w1 = .ok (.agg (mc m).toArray) w1)])) (by kernel_rfl) (fun _ => by kernel_rfl) ⟨(fun w1 h => load_list Tryz.underlying28 rfl (by kernel_rfl) rfl (fun j v hj => h.ocell 3 rfl (by rw [List.getElem?_toArray]; exact (fun j v hj => by rw [Nat.zero_add]; exact hj) j v hj))),trivial⟩ ?_
 refine CfgL.eff (o := _) rfl (by kernel_rfl) (by kernel_rfl) (Eff.callA (vs := [.agg (mc m).toArray]) (.bool (fewF m)) rfl Tryz.func17 rfl rfl (by kernel_rfl) (fun w1 _ => oFew m w1)) ?_
 rintro ⟨⟩ -
 refine CfgL.pure 2 [] (some [4,5,6,7,20]) (Γ' := [(20,[],.bool (!(fewF m))),(7,[],.pointer (some ⟨tb,0,none⟩)),(6,[],.pointer (some ⟨cb,0,none⟩)),(5,[],.pointer (some ⟨nb,0,none⟩)),(4,[],.pointer (some ⟨mb,0,none⟩))]) (nd := (fun _ => [])) (by kernel_rfl) (fun _ => by kernel_rfl) trivial ?_
 by_cases c2 : (!(fewF m)) = true
 ·have c2k : (!(fewF m)) = true := c2
  have c2q : ((fewF m) = false) := (notT c2k)
  refine CfgL.known 20 (b := (!(fewF m))) (by kernel_rfl) true c2k ?_
  refine CfgL.pure 22 [(2,false,none),(2,false,none),(2,false,none),dZ,dZ,(2,false,none),(2,false,none),(2,false,none),(2,false,none),dZ,dZ,(2,false,none),(2,false,none),(2,false,none),(2,false,none),dZ,dZ,(2,false,none),(2,false,none),(2,false,none),(2,false,none)] (some [4,5,6,7,42]) (Γ' := [(42,[],.bool true),(7,[],.pointer (some ⟨tb,0,none⟩)),(6,[],.pointer (some ⟨cb,0,none⟩)),(5,[],.pointer (some ⟨nb,0,none⟩)),(4,[],.pointer (some ⟨mb,0,none⟩))]) (nd := (fun _ => [((.bool true : Value) ≠ .bool false),((.bool true : Value) ≠ .bool false),((.bool true : Value) ≠ .bool false),((.bool true : Value) ≠ .bool false),((.bool true : Value) ≠ .bool false),((.bool true : Value) ≠ .bool false),((.bool true : Value) ≠ .bool false),((.bool true : Value) ≠ .bool false),((.bool true : Value) ≠ .bool false),((.bool true : Value) ≠ .bool false),((.bool true : Value) ≠ .bool false),((.bool true : Value) ≠ .bool false),((.bool true : Value) ≠ .bool false),((.bool true : Value) ≠ .bool false),((.bool true : Value) ≠ .bool false)])) (by kernel_rfl) (fun _ => by kernel_rfl) ⟨(by simp),(by simp),(by simp),(by simp),(by simp),(by simp),(by simp),(by simp),(by simp),(by simp),(by simp),(by simp),(by simp),(by simp),(by simp),trivial⟩ ?_
  refine CfgL.done rfl ?_
  refine Cfg.condT rfl (b := true) (by kernel_rfl) rfl ?_
  refine Cfg.reg rfl [8] [] (Γ' := [(8,[],.bool true)]) (nd := (fun _ => [])) (fun _ => by kernel_rfl) trivial ?_
  refine Cfg.ret rfl (rs := [.tmp 8]) rfl [.bool true] ⟨by kernel_rfl,trivial⟩ (fun w1 hp => ?_)
  exact ⟨by simp [resOf],hp.ext⟩
 ·have c2k : (!(fewF m)) = false := (by simpa using c2)
  have c2q : ((fewF m) = true) := (notF c2k)
  refine CfgL.known 20 (b := (!(fewF m))) (by kernel_rfl) false c2k ?_
  refine CfgL.pure 1 [(1,false,some (.agg (mc n).toArray))] none (Γ' := [(21,[],.agg (mc n).toArray),(20,[],.bool false),(7,[],.pointer (some ⟨tb,0,none⟩)),(6,[],.pointer (some ⟨cb,0,none⟩)),(5,[],.pointer (some ⟨nb,0,none⟩)),(4,[],.pointer (some ⟨mb,0,none⟩))]) (nd := (fun S => [((.bool false : Value) = .bool false),(∀ w1,S w1 → (loadVar 28 ⟨nb,0,none⟩).run Tryz.prog w1 = .ok (.agg (mc n).toArray) w1)])) (by kernel_rfl) (fun _ => by kernel_rfl) ⟨rfl,(fun w1 h => load_list Tryz.underlying28 rfl (by kernel_rfl) rfl (fun j v hj => h.ocell 2 rfl (by rw [List.getElem?_toArray]; exact (fun j v hj => by rw [Nat.zero_add]; exact hj) j v hj))),trivial⟩ ?_
  refine CfgL.eff (o := _) rfl (by kernel_rfl) (by kernel_rfl) (Eff.callA (vs := [.agg (mc n).toArray]) (.bool (fewF n)) rfl Tryz.func17 rfl rfl (by kernel_rfl) (fun w1 _ => oFew n w1)) ?_
  rintro ⟨⟩ -
  refine CfgL.pure 20 [(1,false,none),dZ,dZ,dZ,(0,false,some (.slice c.pa c.ps.length c.pc)),dZ,dZ,dZ,dZ,dZ,(0,false,some (.string c.t)),dZ,dZ,dZ,dZ,dZ,(0,false,some (.string t.t))] (some [4,5,6,7,42]) (Γ' := [(42,[],.bool ((((!(fewF n)) || (decide ((c.ps.length : Int) > (9 : Int)))) || (decide ((c.t.size : Int) > (300 : Int)))) || (decide ((t.t.size : Int) > (300 : Int))))),(7,[],.pointer (some ⟨tb,0,none⟩)),(6,[],.pointer (some ⟨cb,0,none⟩)),(5,[],.pointer (some ⟨nb,0,none⟩)),(4,[],.pointer (some ⟨mb,0,none⟩))]) (nd := (fun S => [((.bool false : Value) = .bool false),((.bool (!(fewF n)) : Value) = .bool false → (∀ w1,S w1 → w1.cell? ⟨cb,32,none⟩ = some (.slice c.pa c.ps.length c.pc))),((.bool ((!(fewF n)) || (decide ((c.ps.length : Int) > (9 : Int)))) : Value) = .bool false → (∀ w1,S w1 → w1.cell? ⟨cb,34,none⟩ = some (.string c.t))),((.bool (((!(fewF n)) || (decide ((c.ps.length : Int) > (9 : Int)))) || (decide ((c.t.size : Int) > (300 : Int)))) : Value) = .bool false → (∀ w1,S w1 → w1.cell? ⟨tb,32,none⟩ = some (.string t.t)))])) (by kernel_rfl) (fun _ => by kernel_rfl) ⟨rfl,(fun g0 => have q0 : ((fewF n) = true) := (notF (boolV g0)); (fun w1 h => h.ocell 1 rfl (by rw [List.getElem?_toArray]; exact (cc_p hcd)))),(fun g0 => have q0 : (((fewF n) = true) ∧ (¬ ((c.ps.length : Int) > (9 : Int)))) := ⟨(notF (orF1 (boolV g0))),(of_decide_eq_false (orF2 (boolV g0)))⟩; (fun w1 h => h.ocell 1 rfl (by rw [List.getElem?_toArray]; exact (cc_t hcd)))),(fun g0 => have q0 : ((((fewF n) = true) ∧ (¬ ((c.ps.length : Int) > (9 : Int)))) ∧ (¬ ((c.t.size : Int) > (300 : Int)))) := ⟨⟨(notF (orF1 (orF1 (boolV g0)))),(of_decide_eq_false (orF2 (orF1 (boolV g0))))⟩,(of_decide_eq_false (orF2 (boolV g0)))⟩; (fun w1 h => h.ocell 0 rfl (by rw [List.getElem?_toArray]; exact (tc_t hd)))),trivial⟩ ?_
  refine CfgL.done rfl ?_
  refine Cfg.cond rfl (b := ((((!(fewF n)) || (decide ((c.ps.length : Int) > (9 : Int)))) || (decide ((c.t.size : Int) > (300 : Int)))) || (decide ((t.t.size : Int) > (300 : Int))))) (by kernel_rfl) (fun c4r => ?_) (fun c4r => ?_)
  ·have c4 : (((((fewF n) = false) ∨ ((c.ps.length : Int) > (9 : Int))) ∨ ((c.t.size : Int) > (300 : Int))) ∨ ((t.t.size : Int) > (300 : Int))) := ((orT c4r).elim (fun h => Or.inl ((orT h).elim (fun h => Or.inl ((orT h).elim (fun h => Or.inl (notT h)) (fun h => Or.inr (of_decide_eq_true h)))) (fun h => Or.inr (of_decide_eq_true h)))) (fun h => Or.inr (of_decide_eq_true h)))
   refine Cfg.reg rfl [8] [] (Γ' := [(8,[],.bool true)]) (nd := (fun _ => [])) (fun _ => by kernel_rfl) trivial ?_
   refine Cfg.ret rfl (rs := [.tmp 8]) rfl [.bool true] ⟨by kernel_rfl,trivial⟩ (fun w1 hp => ?_)
   exact ⟨by simp [resOf],hp.ext⟩
  ·have c4 : (((((fewF n) = true) ∧ (¬ ((c.ps.length : Int) > (9 : Int)))) ∧ (¬ ((c.t.size : Int) > (300 : Int)))) ∧ (¬ ((t.t.size : Int) > (300 : Int)))) := ⟨⟨⟨(notF (orF1 (orF1 (orF1 c4r)))),(of_decide_eq_false (orF2 (orF1 (orF1 c4r))))⟩,(of_decide_eq_false (orF2 (orF1 c4r)))⟩,(of_decide_eq_false (orF2 c4r))⟩
   refine Cfg.begA rfl (by kernel_rfl) [(tb,tob t),(cb,cob c),(nb,mob n),(mb,mob m)] ?_
   refine CfgA.pure [0,2,4,6] [(0,false,some (.agg (mc m).toArray)),(0,false,some (.agg (mc n).toArray)),(0,false,some (.agg (cc c).toArray)),(0,false,some (.agg (tc t).toArray))] (some [4,5,6,7,43,45,47,49]) (l' := #[true,false,true,false,true,false,true,false,false,false,false,false,false,false,false,false]) (by kernel_rfl) (by kernel_rfl) (.cons_cons _ (.cons_cons _ (.cons_cons _ (.cons_cons _ .slnil)))) 12 rfl (Γ' := [(49,[],.agg (tc t).toArray),(47,[],.agg (cc c).toArray),(45,[],.agg (mc n).toArray),(43,[],.agg (mc m).toArray),(7,[],.pointer (some ⟨tb,0,none⟩)),(6,[],.pointer (some ⟨cb,0,none⟩)),(5,[],.pointer (some ⟨nb,0,none⟩)),(4,[],.pointer (some ⟨mb,0,none⟩))]) (nd := (fun S => [(∀ w1,S w1 → (loadVar 28 ⟨mb,0,none⟩).run Tryz.prog w1 = .ok (.agg (mc m).toArray) w1),(∀ w1,S w1 → (loadVar 28 ⟨nb,0,none⟩).run Tryz.prog w1 = .ok (.agg (mc n).toArray) w1),(∀ w1,S w1 → (loadVar 34 ⟨cb,0,none⟩).run Tryz.prog w1 = .ok (.agg (cc c).toArray) w1),(∀ w1,S w1 → (loadVar 36 ⟨tb,0,none⟩).run Tryz.prog w1 = .ok (.agg (tc t).toArray) w1)])) (fun _ => by kernel_rfl) ⟨(fun w1 h => load_list Tryz.underlying28 rfl (by kernel_rfl) rfl (fun j v hj => h.ocell 3 rfl (by rw [List.getElem?_toArray]; exact (fun j v hj => by rw [Nat.zero_add]; exact hj) j v hj))),(fun w1 h => load_list Tryz.underlying28 rfl (by kernel_rfl) rfl (fun j v hj => h.ocell 2 rfl (by rw [List.getElem?_toArray]; exact (fun j v hj => by rw [Nat.zero_add]; exact hj) j v hj))),(fun w1 h => load_list Tryz.underlying34 rfl (by kernel_rfl) (cc_len hcd) (fun j v hj => h.ocell 1 rfl (by rw [List.getElem?_toArray]; exact (fun j v hj => by rw [Nat.zero_add]; exact hj) j v hj))),(fun w1 h => load_list Tryz.underlying36 rfl (by kernel_rfl) (tc_len hd) (fun j v hj => h.ocell 0 rfl (by rw [List.getElem?_toArray]; exact (fun j v hj => by rw [Nat.zero_add]; exact hj) j v hj))),trivial⟩ ?_
   refine CfgA.fam (ι := Option (MO) × Option (MO) × Option (K.Own) × Option (Unit) × Option (Nat) × Option (Nat) × Option (Nat) × Option (Nat)) (fun (zq : Option (MO) × Option (MO) × Option (K.Own) × Option (Unit) × Option (Nat) × Option (Nat) × Option (Nat) × Option (Nat)) => match zq with | (oo1,oo3,oo5,oo7,oo8,oo9,oo10,oo11) => (optL oo1 (fun (xa : MO) => [(44,[],.agg (oc (oA xa m)).toArray)]) ++ (optL oo3 (fun (xb : MO) => [(46,[],.agg (oc (oA xb n)).toArray)]) ++ (optL oo5 (fun (oc5 : K.Own) => [(48,[],.agg (oc (oC oc5 c)).toArray)]) ++ (optL oo7 (fun (_ : Unit) => [(50,[],.agg (oc (oT t)).toArray)]) ++ (optL oo8 (fun (o9 : Nat) => [(9,[],.pointer (some ⟨o9,0,none⟩))]) ++ (optL oo9 (fun (o10 : Nat) => [(10,[],.pointer (some ⟨o10,0,none⟩))]) ++ (optL oo10 (fun (o11 : Nat) => [(11,[],.pointer (some ⟨o11,0,none⟩))]) ++ (optL oo11 (fun (o12 : Nat) => [(12,[],.pointer (some ⟨o12,0,none⟩))]) ++ [(49,[],.agg (tc t).toArray),(47,[],.agg (cc c).toArray),(45,[],.agg (mc n).toArray),(43,[],.agg (mc m).toArray),(7,[],.pointer (some ⟨tb,0,none⟩)),(6,[],.pointer (some ⟨cb,0,none⟩)),(5,[],.pointer (some ⟨nb,0,none⟩)),(4,[],.pointer (some ⟨mb,0,none⟩))]))))))))) (fun (zq : Option (MO) × Option (MO) × Option (K.Own) × Option (Unit) × Option (Nat) × Option (Nat) × Option (Nat) × Option (Nat)) => match zq with | (oo1,oo3,oo5,oo7,oo8,oo9,oo10,oo11) => (optL oo8 (fun (o9 : Nat) => [(o9,zob)]) ++ (optL oo9 (fun (o10 : Nat) => [(o10,zob)]) ++ (optL oo10 (fun (o11 : Nat) => [(o11,zob)]) ++ (optL oo11 (fun (o12 : Nat) => [(o12,zob)]) ++ ([(tb,tob t),(cb,cob c),(nb,mob n),(mb,mob m)] ++ (optL oo5 (fun (oc5 : K.Own) => Own.o 30 (c.ps.flatMap dgc) oc5) ++ (optL oo3 (fun (xb : MO) => memMO xb n) ++ (optL oo1 (fun (xa : MO) => memMO xa m) ++ []))))))))) (fun (zq : Option (MO) × Option (MO) × Option (K.Own) × Option (Unit) × Option (Nat) × Option (Nat) × Option (Nat) × Option (Nat)) => match zq with | (oo1,oo3,oo5,oo7,oo8,oo9,oo10,oo11) => #[true,oo1.isSome,true,oo3.isSome,true,oo5.isSome,true,oo7.isSome,oo8.isSome,oo9.isSome,oo10.isSome,oo11.isSome,false,false,false,false]) (fun (zq : Option (MO) × Option (MO) × Option (K.Own) × Option (Unit) × Option (Nat) × Option (Nat) × Option (Nat) × Option (Nat)) => match zq with | (oo1,oo3,oo5,oo7,oo8,oo9,oo10,oo11) => 12 - (optN oo1 + optN oo3 + optN oo5 + optN oo7 + optN oo8 + optN oo9 + optN oo10 + optN oo11)) (fun (zq : Option (MO) × Option (MO) × Option (K.Own) × Option (Unit) × Option (Nat) × Option (Nat) × Option (Nat) × Option (Nat)) => match zq with | (oo1,oo3,oo5,oo7,oo8,oo9,oo10,oo11) => optP oo1 (fun (xa : MO) => MOk xa m) ∧ optP oo3 (fun (xb : MO) => MOk xb n) ∧ optP oo5 (fun (oc5 : K.Own) => OwnOk oc5 32 c.ps.length (c.ps.flatMap dgc)) ∧ (oo3.isSome = true → oo1.isSome = true) ∧ (oo5.isSome = true → oo3.isSome = true) ∧ (oo7.isSome = true → oo5.isSome = true) ∧ True) (none,none,none,none,none,none,none,none) ⟨trivial,trivial,trivial,nofun,nofun,nofun,trivial⟩ (by kernel_rfl) (by kernel_rfl) (List.Perm.refl _) (Conv.mk (by kernel_rfl)) ?_
   rintro ⟨oo1,oo3,oo5,oo7,oo8,oo9,oo10,oo11⟩ hz IH
   obtain ⟨pp1,pp3,pp5,dd3_1,dd5_3,dd7_5,-⟩ := hz
   rcases oo1 with _ | xa
   ·
    rcases oo3 with _ | xb
    ·
     rcases oo5 with _ | oc5
     ·
      rcases oo7 with _ | ⟨⟩
      ·
       rcases oo8 with _ | o9
       ·
        rcases oo9 with _ | o10
        ·
         rcases oo10 with _ | o11
         ·
          rcases oo11 with _ | o12
          ·
           refine CfgA.to (l' := #[true,false,true,false,true,false,true,false,false,false,false,false,false,false,false,false]) (fuel' := 12) (O' := [(tb,tob t),(cb,cob c),(nb,mob n),(mb,mob m)]) (Γ' := [(49,[],.agg (tc t).toArray),(47,[],.agg (cc c).toArray),(45,[],.agg (mc n).toArray),(43,[],.agg (mc m).toArray),(7,[],.pointer (some ⟨tb,0,none⟩)),(6,[],.pointer (some ⟨cb,0,none⟩)),(5,[],.pointer (some ⟨nb,0,none⟩)),(4,[],.pointer (some ⟨mb,0,none⟩))]) ?_ (by kernel_rfl) (by kernel_rfl) (List.Perm.refl _) (Conv.mk (by kernel_rfl))
           refine CfgA.many [1,8,9,10,11] (by kernel_rfl) (by decide) (fuel' := 11) (by kernel_rfl) ⟨?_,?_,?_,?_,?_,trivial⟩
           ·
            refine CfgI.eff (o := _) rfl (by kernel_rfl) (by kernel_rfl) (Eff.callH (vs := [.agg (mc m).toArray]) (fun x : MO => .agg (oc (oA x m)).toArray) [] (fun x => memMO x m) (fun x => MOk x m) [(tb,tob t),(cb,cob c),(nb,mob n),(mb,mob m)] [] rfl rfl Tryz.func18 rfl rfl (by kernel_rfl) (fun w1 h _ _ => oMap m Rl w1 hM (h.hasR (fun e he => List.mem_cons_of_mem _ he)))) (fun _ _ => (.cons_cons _ (.cons_cons _ (.cons_cons _ (.cons_cons _ (List.nil_sublist _)))))) ?_
            rintro xa hxa
            exact CfgA.to (IH (some xa,none,none,none,none,none,none,none) ⟨hxa,trivial,trivial,nofun,nofun,nofun,trivial⟩ (lt4 (by kernel_rfl))) (by kernel_rfl) (by kernel_rfl) (.refl _) (Conv.mk (by kernel_rfl))
           ·
            refine CfgI.eff (o := _) rfl (by kernel_rfl) (by kernel_rfl) (Eff.alloc (z := (.agg (oc ⟨0,m0,c0,t0⟩).toArray)) rfl (by kernel_rfl)) (fun _ _ => (.cons _ (.cons_cons _ (.cons_cons _ (.cons_cons _ (.cons_cons _ .slnil)))))) ?_
            rintro o9 ⟨ho9,no9⟩
            exact CfgA.to (IH (none,none,none,none,some o9,none,none,none) ⟨trivial,trivial,trivial,nofun,nofun,nofun,trivial⟩ (lt4 (by kernel_rfl))) (by kernel_rfl) (by kernel_rfl) (.refl _) (Conv.mk (by kernel_rfl))
           ·
            refine CfgI.eff (o := _) rfl (by kernel_rfl) (by kernel_rfl) (Eff.alloc (z := (.agg (oc ⟨0,m0,c0,t0⟩).toArray)) rfl (by kernel_rfl)) (fun _ _ => (.cons _ (.cons_cons _ (.cons_cons _ (.cons_cons _ (.cons_cons _ .slnil)))))) ?_
            rintro o10 ⟨ho10,no10⟩
            exact CfgA.to (IH (none,none,none,none,none,some o10,none,none) ⟨trivial,trivial,trivial,nofun,nofun,nofun,trivial⟩ (lt4 (by kernel_rfl))) (by kernel_rfl) (by kernel_rfl) (.refl _) (Conv.mk (by kernel_rfl))
           ·
            refine CfgI.eff (o := _) rfl (by kernel_rfl) (by kernel_rfl) (Eff.alloc (z := (.agg (oc ⟨0,m0,c0,t0⟩).toArray)) rfl (by kernel_rfl)) (fun _ _ => (.cons _ (.cons_cons _ (.cons_cons _ (.cons_cons _ (.cons_cons _ .slnil)))))) ?_
            rintro o11 ⟨ho11,no11⟩
            exact CfgA.to (IH (none,none,none,none,none,none,some o11,none) ⟨trivial,trivial,trivial,nofun,nofun,nofun,trivial⟩ (lt4 (by kernel_rfl))) (by kernel_rfl) (by kernel_rfl) (.refl _) (Conv.mk (by kernel_rfl))
           ·
            refine CfgI.eff (o := _) rfl (by kernel_rfl) (by kernel_rfl) (Eff.alloc (z := (.agg (oc ⟨0,m0,c0,t0⟩).toArray)) rfl (by kernel_rfl)) (fun _ _ => (.cons _ (.cons_cons _ (.cons_cons _ (.cons_cons _ (.cons_cons _ .slnil)))))) ?_
            rintro o12 ⟨ho12,no12⟩
            exact CfgA.to (IH (none,none,none,none,none,none,none,some o12) ⟨trivial,trivial,trivial,nofun,nofun,nofun,trivial⟩ (lt4 (by kernel_rfl))) (by kernel_rfl) (by kernel_rfl) (.refl _) (Conv.mk (by kernel_rfl))
          ·
           refine CfgA.to (l' := #[true,false,true,false,true,false,true,false,false,false,false,true,false,false,false,false]) (fuel' := 11) (O' := [(o12,zob),(tb,tob t),(cb,cob c),(nb,mob n),(mb,mob m)]) (Γ' := [(12,[],.pointer (some ⟨o12,0,none⟩)),(49,[],.agg (tc t).toArray),(47,[],.agg (cc c).toArray),(45,[],.agg (mc n).toArray),(43,[],.agg (mc m).toArray),(7,[],.pointer (some ⟨tb,0,none⟩)),(6,[],.pointer (some ⟨cb,0,none⟩)),(5,[],.pointer (some ⟨nb,0,none⟩)),(4,[],.pointer (some ⟨mb,0,none⟩))]) ?_ (by kernel_rfl) (by kernel_rfl) (List.Perm.refl _) (Conv.mk (by kernel_rfl))
           refine CfgA.many [1,8,9,10] (by kernel_rfl) (by decide) (fuel' := 10) (by kernel_rfl) ⟨?_,?_,?_,?_,trivial⟩
           ·
            refine CfgI.eff (o := _) rfl (by kernel_rfl) (by kernel_rfl) (Eff.callH (vs := [.agg (mc m).toArray]) (fun x : MO => .agg (oc (oA x m)).toArray) [] (fun x => memMO x m) (fun x => MOk x m) [(o12,zob),(tb,tob t),(cb,cob c),(nb,mob n),(mb,mob m)] [] rfl rfl Tryz.func18 rfl rfl (by kernel_rfl) (fun w1 h _ _ => oMap m Rl w1 hM (h.hasR (fun e he => List.mem_cons_of_mem _ he)))) (fun _ _ => (.cons _ (.cons_cons _ (.cons_cons _ (.cons_cons _ (.cons_cons _ (List.nil_sublist _))))))) ?_
            rintro xa hxa
            exact CfgA.to (IH (some xa,none,none,none,none,none,none,some o12) ⟨hxa,trivial,trivial,nofun,nofun,nofun,trivial⟩ (lt4 (by kernel_rfl))) (by kernel_rfl) (by kernel_rfl) (.refl _) (Conv.mk (by kernel_rfl))
           ·
            refine CfgI.eff (o := _) rfl (by kernel_rfl) (by kernel_rfl) (Eff.alloc (z := (.agg (oc ⟨0,m0,c0,t0⟩).toArray)) rfl (by kernel_rfl)) (fun _ _ => (.cons _ (.cons _ (.cons_cons _ (.cons_cons _ (.cons_cons _ (.cons_cons _ .slnil))))))) ?_
            rintro o9 ⟨ho9,no9⟩
            exact CfgA.to (IH (none,none,none,none,some o9,none,none,some o12) ⟨trivial,trivial,trivial,nofun,nofun,nofun,trivial⟩ (lt4 (by kernel_rfl))) (by kernel_rfl) (by kernel_rfl) (.refl _) (Conv.mk (by kernel_rfl))
           ·
            refine CfgI.eff (o := _) rfl (by kernel_rfl) (by kernel_rfl) (Eff.alloc (z := (.agg (oc ⟨0,m0,c0,t0⟩).toArray)) rfl (by kernel_rfl)) (fun _ _ => (.cons _ (.cons _ (.cons_cons _ (.cons_cons _ (.cons_cons _ (.cons_cons _ .slnil))))))) ?_
            rintro o10 ⟨ho10,no10⟩
            exact CfgA.to (IH (none,none,none,none,none,some o10,none,some o12) ⟨trivial,trivial,trivial,nofun,nofun,nofun,trivial⟩ (lt4 (by kernel_rfl))) (by kernel_rfl) (by kernel_rfl) (.refl _) (Conv.mk (by kernel_rfl))
           ·
            refine CfgI.eff (o := _) rfl (by kernel_rfl) (by kernel_rfl) (Eff.alloc (z := (.agg (oc ⟨0,m0,c0,t0⟩).toArray)) rfl (by kernel_rfl)) (fun _ _ => (.cons _ (.cons _ (.cons_cons _ (.cons_cons _ (.cons_cons _ (.cons_cons _ .slnil))))))) ?_
            rintro o11 ⟨ho11,no11⟩
            exact CfgA.to (IH (none,none,none,none,none,none,some o11,some o12) ⟨trivial,trivial,trivial,nofun,nofun,nofun,trivial⟩ (lt4 (by kernel_rfl))) (by kernel_rfl) (by kernel_rfl) (.refl _) (Conv.mk (by kernel_rfl))
         ·
          rcases oo11 with _ | o12
          ·
           refine CfgA.to (l' := #[true,false,true,false,true,false,true,false,false,false,true,false,false,false,false,false]) (fuel' := 11) (O' := [(o11,zob),(tb,tob t),(cb,cob c),(nb,mob n),(mb,mob m)]) (Γ' := [(11,[],.pointer (some ⟨o11,0,none⟩)),(49,[],.agg (tc t).toArray),(47,[],.agg (cc c).toArray),(45,[],.agg (mc n).toArray),(43,[],.agg (mc m).toArray),(7,[],.pointer (some ⟨tb,0,none⟩)),(6,[],.pointer (some ⟨cb,0,none⟩)),(5,[],.pointer (some ⟨nb,0,none⟩)),(4,[],.pointer (some ⟨mb,0,none⟩))]) ?_ (by kernel_rfl) (by kernel_rfl) (List.Perm.refl _) (Conv.mk (by kernel_rfl))
           refine CfgA.many [1,8,9,11] (by kernel_rfl) (by decide) (fuel' := 10) (by kernel_rfl) ⟨?_,?_,?_,?_,trivial⟩
           ·
            refine CfgI.eff (o := _) rfl (by kernel_rfl) (by kernel_rfl) (Eff.callH (vs := [.agg (mc m).toArray]) (fun x : MO => .agg (oc (oA x m)).toArray) [] (fun x => memMO x m) (fun x => MOk x m) [(o11,zob),(tb,tob t),(cb,cob c),(nb,mob n),(mb,mob m)] [] rfl rfl Tryz.func18 rfl rfl (by kernel_rfl) (fun w1 h _ _ => oMap m Rl w1 hM (h.hasR (fun e he => List.mem_cons_of_mem _ he)))) (fun _ _ => (.cons _ (.cons_cons _ (.cons_cons _ (.cons_cons _ (.cons_cons _ (List.nil_sublist _))))))) ?_
            rintro xa hxa
            exact CfgA.to (IH (some xa,none,none,none,none,none,some o11,none) ⟨hxa,trivial,trivial,nofun,nofun,nofun,trivial⟩ (lt4 (by kernel_rfl))) (by kernel_rfl) (by kernel_rfl) (.refl _) (Conv.mk (by kernel_rfl))
           ·
            refine CfgI.eff (o := _) rfl (by kernel_rfl) (by kernel_rfl) (Eff.alloc (z := (.agg (oc ⟨0,m0,c0,t0⟩).toArray)) rfl (by kernel_rfl)) (fun _ _ => (.cons _ (.cons _ (.cons_cons _ (.cons_cons _ (.cons_cons _ (.cons_cons _ .slnil))))))) ?_
            rintro o9 ⟨ho9,no9⟩
            exact CfgA.to (IH (none,none,none,none,some o9,none,some o11,none) ⟨trivial,trivial,trivial,nofun,nofun,nofun,trivial⟩ (lt4 (by kernel_rfl))) (by kernel_rfl) (by kernel_rfl) (.refl _) (Conv.mk (by kernel_rfl))
           ·
            refine CfgI.eff (o := _) rfl (by kernel_rfl) (by kernel_rfl) (Eff.alloc (z := (.agg (oc ⟨0,m0,c0,t0⟩).toArray)) rfl (by kernel_rfl)) (fun _ _ => (.cons _ (.cons _ (.cons_cons _ (.cons_cons _ (.cons_cons _ (.cons_cons _ .slnil))))))) ?_
            rintro o10 ⟨ho10,no10⟩
            exact CfgA.to (IH (none,none,none,none,none,some o10,some o11,none) ⟨trivial,trivial,trivial,nofun,nofun,nofun,trivial⟩ (lt4 (by kernel_rfl))) (by kernel_rfl) (by kernel_rfl) (.refl _) (Conv.mk (by kernel_rfl))
           ·
            refine CfgI.eff (o := _) rfl (by kernel_rfl) (by kernel_rfl) (Eff.alloc (z := (.agg (oc ⟨0,m0,c0,t0⟩).toArray)) rfl (by kernel_rfl)) (fun _ _ => (.cons _ (.cons _ (.cons_cons _ (.cons_cons _ (.cons_cons _ (.cons_cons _ .slnil))))))) ?_
            rintro o12 ⟨ho12,no12⟩
            exact CfgA.to (IH (none,none,none,none,none,none,some o11,some o12) ⟨trivial,trivial,trivial,nofun,nofun,nofun,trivial⟩ (lt4 (by kernel_rfl))) (by kernel_rfl) (by kernel_rfl) (pmid (l₁ := [(o11,zob)])) (Conv.mk (by kernel_rfl))
          ·
           refine CfgA.to (l' := #[true,false,true,false,true,false,true,false,false,false,true,true,false,false,false,false]) (fuel' := 10) (O' := [(o11,zob),(o12,zob),(tb,tob t),(cb,cob c),(nb,mob n),(mb,mob m)]) (Γ' := [(11,[],.pointer (some ⟨o11,0,none⟩)),(12,[],.pointer (some ⟨o12,0,none⟩)),(49,[],.agg (tc t).toArray),(47,[],.agg (cc c).toArray),(45,[],.agg (mc n).toArray),(43,[],.agg (mc m).toArray),(7,[],.pointer (some ⟨tb,0,none⟩)),(6,[],.pointer (some ⟨cb,0,none⟩)),(5,[],.pointer (some ⟨nb,0,none⟩)),(4,[],.pointer (some ⟨mb,0,none⟩))]) ?_ (by kernel_rfl) (by kernel_rfl) (List.Perm.refl _) (Conv.mk (by kernel_rfl))
           refine CfgA.many [1,8,9] (by kernel_rfl) (by decide) (fuel' := 9) (by kernel_rfl) ⟨?_,?_,?_,trivial⟩
           ·
            refine CfgI.eff (o := _) rfl (by kernel_rfl) (by kernel_rfl) (Eff.callH (vs := [.agg (mc m).toArray]) (fun x : MO => .agg (oc (oA x m)).toArray) [] (fun x => memMO x m) (fun x => MOk x m) [(o11,zob),(o12,zob),(tb,tob t),(cb,cob c),(nb,mob n),(mb,mob m)] [] rfl rfl Tryz.func18 rfl rfl (by kernel_rfl) (fun w1 h _ _ => oMap m Rl w1 hM (h.hasR (fun e he => List.mem_cons_of_mem _ he)))) (fun _ _ => (.cons _ (.cons _ (.cons_cons _ (.cons_cons _ (.cons_cons _ (.cons_cons _ (List.nil_sublist _)))))))) ?_
            rintro xa hxa
            exact CfgA.to (IH (some xa,none,none,none,none,none,some o11,some o12) ⟨hxa,trivial,trivial,nofun,nofun,nofun,trivial⟩ (lt4 (by kernel_rfl))) (by kernel_rfl) (by kernel_rfl) (.refl _) (Conv.mk (by kernel_rfl))
           ·
            refine CfgI.eff (o := _) rfl (by kernel_rfl) (by kernel_rfl) (Eff.alloc (z := (.agg (oc ⟨0,m0,c0,t0⟩).toArray)) rfl (by kernel_rfl)) (fun _ _ => (.cons _ (.cons _ (.cons _ (.cons_cons _ (.cons_cons _ (.cons_cons _ (.cons_cons _ .slnil)))))))) ?_
            rintro o9 ⟨ho9,no9⟩
            exact CfgA.to (IH (none,none,none,none,some o9,none,some o11,some o12) ⟨trivial,trivial,trivial,nofun,nofun,nofun,trivial⟩ (lt4 (by kernel_rfl))) (by kernel_rfl) (by kernel_rfl) (.refl _) (Conv.mk (by kernel_rfl))
           ·
            refine CfgI.eff (o := _) rfl (by kernel_rfl) (by kernel_rfl) (Eff.alloc (z := (.agg (oc ⟨0,m0,c0,t0⟩).toArray)) rfl (by kernel_rfl)) (fun _ _ => (.cons _ (.cons _ (.cons _ (.cons_cons _ (.cons_cons _ (.cons_cons _ (.cons_cons _ .slnil)))))))) ?_
            rintro o10 ⟨ho10,no10⟩
            exact CfgA.to (IH (none,none,none,none,none,some o10,some o11,some o12) ⟨trivial,trivial,trivial,nofun,nofun,nofun,trivial⟩ (lt4 (by kernel_rfl))) (by kernel_rfl) (by kernel_rfl) (.refl _) (Conv.mk (by kernel_rfl))
        ·
         rcases oo10 with _ | o11
         ·
          rcases oo11 with _ | o12
          ·
           refine CfgA.to (l' := #[true,false,true,false,true,false,true,false,false,true,false,false,false,false,false,false]) (fuel' := 11) (O' := [(o10,zob),(tb,tob t),(cb,cob c),(nb,mob n),(mb,mob m)]) (Γ' := [(10,[],.pointer (some ⟨o10,0,none⟩)),(49,[],.agg (tc t).toArray),(47,[],.agg (cc c).toArray),(45,[],.agg (mc n).toArray),(43,[],.agg (mc m).toArray),(7,[],.pointer (some ⟨tb,0,none⟩)),(6,[],.pointer (some ⟨cb,0,none⟩)),(5,[],.pointer (some ⟨nb,0,none⟩)),(4,[],.pointer (some ⟨mb,0,none⟩))]) ?_ (by kernel_rfl) (by kernel_rfl) (List.Perm.refl _) (Conv.mk (by kernel_rfl))
           refine CfgA.many [1,8,10,11] (by kernel_rfl) (by decide) (fuel' := 10) (by kernel_rfl) ⟨?_,?_,?_,?_,trivial⟩
           ·
            refine CfgI.eff (o := _) rfl (by kernel_rfl) (by kernel_rfl) (Eff.callH (vs := [.agg (mc m).toArray]) (fun x : MO => .agg (oc (oA x m)).toArray) [] (fun x => memMO x m) (fun x => MOk x m) [(o10,zob),(tb,tob t),(cb,cob c),(nb,mob n),(mb,mob m)] [] rfl rfl Tryz.func18 rfl rfl (by kernel_rfl) (fun w1 h _ _ => oMap m Rl w1 hM (h.hasR (fun e he => List.mem_cons_of_mem _ he)))) (fun _ _ => (.cons _ (.cons_cons _ (.cons_cons _ (.cons_cons _ (.cons_cons _ (List.nil_sublist _))))))) ?_
            rintro xa hxa
            exact CfgA.to (IH (some xa,none,none,none,none,some o10,none,none) ⟨hxa,trivial,trivial,nofun,nofun,nofun,trivial⟩ (lt4 (by kernel_rfl))) (by kernel_rfl) (by kernel_rfl) (.refl _) (Conv.mk (by kernel_rfl))
           ·
            refine CfgI.eff (o := _) rfl (by kernel_rfl) (by kernel_rfl) (Eff.alloc (z := (.agg (oc ⟨0,m0,c0,t0⟩).toArray)) rfl (by kernel_rfl)) (fun _ _ => (.cons _ (.cons _ (.cons_cons _ (.cons_cons _ (.cons_cons _ (.cons_cons _ .slnil))))))) ?_
            rintro o9 ⟨ho9,no9⟩
            exact CfgA.to (IH (none,none,none,none,some o9,some o10,none,none) ⟨trivial,trivial,trivial,nofun,nofun,nofun,trivial⟩ (lt4 (by kernel_rfl))) (by kernel_rfl) (by kernel_rfl) (.refl _) (Conv.mk (by kernel_rfl))
           ·
            refine CfgI.eff (o := _) rfl (by kernel_rfl) (by kernel_rfl) (Eff.alloc (z := (.agg (oc ⟨0,m0,c0,t0⟩).toArray)) rfl (by kernel_rfl)) (fun _ _ => (.cons _ (.cons _ (.cons_cons _ (.cons_cons _ (.cons_cons _ (.cons_cons _ .slnil))))))) ?_
            rintro o11 ⟨ho11,no11⟩
            exact CfgA.to (IH (none,none,none,none,none,some o10,some o11,none) ⟨trivial,trivial,trivial,nofun,nofun,nofun,trivial⟩ (lt4 (by kernel_rfl))) (by kernel_rfl) (by kernel_rfl) (pmid (l₁ := [(o10,zob)])) (Conv.mk (by kernel_rfl))
           ·
            refine CfgI.eff (o := _) rfl (by kernel_rfl) (by kernel_rfl) (Eff.alloc (z := (.agg (oc ⟨0,m0,c0,t0⟩).toArray)) rfl (by kernel_rfl)) (fun _ _ => (.cons _ (.cons _ (.cons_cons _ (.cons_cons _ (.cons_cons _ (.cons_cons _ .slnil))))))) ?_
            rintro o12 ⟨ho12,no12⟩
            exact CfgA.to (IH (none,none,none,none,none,some o10,none,some o12) ⟨trivial,trivial,trivial,nofun,nofun,nofun,trivial⟩ (lt4 (by kernel_rfl))) (by kernel_rfl) (by kernel_rfl) (pmid (l₁ := [(o10,zob)])) (Conv.mk (by kernel_rfl))
          ·
           refine CfgA.to (l' := #[true,false,true,false,true,false,true,false,false,true,false,true,false,false,false,false]) (fuel' := 10) (O' := [(o10,zob),(o12,zob),(tb,tob t),(cb,cob c),(nb,mob n),(mb,mob m)]) (Γ' := [(10,[],.pointer (some ⟨o10,0,none⟩)),(12,[],.pointer (some ⟨o12,0,none⟩)),(49,[],.agg (tc t).toArray),(47,[],.agg (cc c).toArray),(45,[],.agg (mc n).toArray),(43,[],.agg (mc m).toArray),(7,[],.pointer (some ⟨tb,0,none⟩)),(6,[],.pointer (some ⟨cb,0,none⟩)),(5,[],.pointer (some ⟨nb,0,none⟩)),(4,[],.pointer (some ⟨mb,0,none⟩))]) ?_ (by kernel_rfl) (by kernel_rfl) (List.Perm.refl _) (Conv.mk (by kernel_rfl))
           refine CfgA.many [1,8,10] (by kernel_rfl) (by decide) (fuel' := 9) (by kernel_rfl) ⟨?_,?_,?_,trivial⟩
           ·
            refine CfgI.eff (o := _) rfl (by kernel_rfl) (by kernel_rfl) (Eff.callH (vs := [.agg (mc m).toArray]) (fun x : MO => .agg (oc (oA x m)).toArray) [] (fun x => memMO x m) (fun x => MOk x m) [(o10,zob),(o12,zob),(tb,tob t),(cb,cob c),(nb,mob n),(mb,mob m)] [] rfl rfl Tryz.func18 rfl rfl (by kernel_rfl) (fun w1 h _ _ => oMap m Rl w1 hM (h.hasR (fun e he => List.mem_cons_of_mem _ he)))) (fun _ _ => (.cons _ (.cons _ (.cons_cons _ (.cons_cons _ (.cons_cons _ (.cons_cons _ (List.nil_sublist _)))))))) ?_
            rintro xa hxa
            exact CfgA.to (IH (some xa,none,none,none,none,some o10,none,some o12) ⟨hxa,trivial,trivial,nofun,nofun,nofun,trivial⟩ (lt4 (by kernel_rfl))) (by kernel_rfl) (by kernel_rfl) (.refl _) (Conv.mk (by kernel_rfl))
           ·
            refine CfgI.eff (o := _) rfl (by kernel_rfl) (by kernel_rfl) (Eff.alloc (z := (.agg (oc ⟨0,m0,c0,t0⟩).toArray)) rfl (by kernel_rfl)) (fun _ _ => (.cons _ (.cons _ (.cons _ (.cons_cons _ (.cons_cons _ (.cons_cons _ (.cons_cons _ .slnil)))))))) ?_
            rintro o9 ⟨ho9,no9⟩
            exact CfgA.to (IH (none,none,none,none,some o9,some o10,none,some o12) ⟨trivial,trivial,trivial,nofun,nofun,nofun,trivial⟩ (lt4 (by kernel_rfl))) (by kernel_rfl) (by kernel_rfl) (.refl _) (Conv.mk (by kernel_rfl))
           ·
            refine CfgI.eff (o := _) rfl (by kernel_rfl) (by kernel_rfl) (Eff.alloc (z := (.agg (oc ⟨0,m0,c0,t0⟩).toArray)) rfl (by kernel_rfl)) (fun _ _ => (.cons _ (.cons _ (.cons _ (.cons_cons _ (.cons_cons _ (.cons_cons _ (.cons_cons _ .slnil)))))))) ?_
            rintro o11 ⟨ho11,no11⟩
            exact CfgA.to (IH (none,none,none,none,none,some o10,some o11,some o12) ⟨trivial,trivial,trivial,nofun,nofun,nofun,trivial⟩ (lt4 (by kernel_rfl))) (by kernel_rfl) (by kernel_rfl) (pmid (l₁ := [(o10,zob)])) (Conv.mk (by kernel_rfl))
         ·
          rcases oo11 with _ | o12
          ·
           refine CfgA.to (l' := #[true,false,true,false,true,false,true,false,false,true,true,false,false,false,false,false]) (fuel' := 10) (O' := [(o10,zob),(o11,zob),(tb,tob t),(cb,cob c),(nb,mob n),(mb,mob m)]) (Γ' := [(10,[],.pointer (some ⟨o10,0,none⟩)),(11,[],.pointer (some ⟨o11,0,none⟩)),(49,[],.agg (tc t).toArray),(47,[],.agg (cc c).toArray),(45,[],.agg (mc n).toArray),(43,[],.agg (mc m).toArray),(7,[],.pointer (some ⟨tb,0,none⟩)),(6,[],.pointer (some ⟨cb,0,none⟩)),(5,[],.pointer (some ⟨nb,0,none⟩)),(4,[],.pointer (some ⟨mb,0,none⟩))]) ?_ (by kernel_rfl) (by kernel_rfl) (List.Perm.refl _) (Conv.mk (by kernel_rfl))
           refine CfgA.many [1,8,11] (by kernel_rfl) (by decide) (fuel' := 9) (by kernel_rfl) ⟨?_,?_,?_,trivial⟩
           ·
            refine CfgI.eff (o := _) rfl (by kernel_rfl) (by kernel_rfl) (Eff.callH (vs := [.agg (mc m).toArray]) (fun x : MO => .agg (oc (oA x m)).toArray) [] (fun x => memMO x m) (fun x => MOk x m) [(o10,zob),(o11,zob),(tb,tob t),(cb,cob c),(nb,mob n),(mb,mob m)] [] rfl rfl Tryz.func18 rfl rfl (by kernel_rfl) (fun w1 h _ _ => oMap m Rl w1 hM (h.hasR (fun e he => List.mem_cons_of_mem _ he)))) (fun _ _ => (.cons _ (.cons _ (.cons_cons _ (.cons_cons _ (.cons_cons _ (.cons_cons _ (List.nil_sublist _)))))))) ?_
            rintro xa hxa
            exact CfgA.to (IH (some xa,none,none,none,none,some o10,some o11,none) ⟨hxa,trivial,trivial,nofun,nofun,nofun,trivial⟩ (lt4 (by kernel_rfl))) (by kernel_rfl) (by kernel_rfl) (.refl _) (Conv.mk (by kernel_rfl))
           ·
            refine CfgI.eff (o := _) rfl (by kernel_rfl) (by kernel_rfl) (Eff.alloc (z := (.agg (oc ⟨0,m0,c0,t0⟩).toArray)) rfl (by kernel_rfl)) (fun _ _ => (.cons _ (.cons _ (.cons _ (.cons_cons _ (.cons_cons _ (.cons_cons _ (.cons_cons _ .slnil)))))))) ?_
            rintro o9 ⟨ho9,no9⟩
            exact CfgA.to (IH (none,none,none,none,some o9,some o10,some o11,none) ⟨trivial,trivial,trivial,nofun,nofun,nofun,trivial⟩ (lt4 (by kernel_rfl))) (by kernel_rfl) (by kernel_rfl) (.refl _) (Conv.mk (by kernel_rfl))
           ·
            refine CfgI.eff (o := _) rfl (by kernel_rfl) (by kernel_rfl) (Eff.alloc (z := (.agg (oc ⟨0,m0,c0,t0⟩).toArray)) rfl (by kernel_rfl)) (fun _ _ => (.cons _ (.cons _ (.cons _ (.cons_cons _ (.cons_cons _ (.cons_cons _ (.cons_cons _ .slnil)))))))) ?_
            rintro o12 ⟨ho12,no12⟩
            exact CfgA.to (IH (none,none,none,none,none,some o10,some o11,some o12) ⟨trivial,trivial,trivial,nofun,nofun,nofun,trivial⟩ (lt4 (by kernel_rfl))) (by kernel_rfl) (by kernel_rfl) (pmid (l₁ := [(o10,zob),(o11,zob)])) (Conv.mk (by kernel_rfl))
          ·
           refine CfgA.to (l' := #[true,false,true,false,true,false,true,false,false,true,true,true,false,false,false,false]) (fuel' := 9) (O' := [(o10,zob),(o11,zob),(o12,zob),(tb,tob t),(cb,cob c),(nb,mob n),(mb,mob m)]) (Γ' := [(10,[],.pointer (some ⟨o10,0,none⟩)),(11,[],.pointer (some ⟨o11,0,none⟩)),(12,[],.pointer (some ⟨o12,0,none⟩)),(49,[],.agg (tc t).toArray),(47,[],.agg (cc c).toArray),(45,[],.agg (mc n).toArray),(43,[],.agg (mc m).toArray),(7,[],.pointer (some ⟨tb,0,none⟩)),(6,[],.pointer (some ⟨cb,0,none⟩)),(5,[],.pointer (some ⟨nb,0,none⟩)),(4,[],.pointer (some ⟨mb,0,none⟩))]) ?_ (by kernel_rfl) (by kernel_rfl) (List.Perm.refl _) (Conv.mk (by kernel_rfl))
           refine CfgA.many [1,8] (by kernel_rfl) (by decide) (fuel' := 8) (by kernel_rfl) ⟨?_,?_,trivial⟩
           ·
            refine CfgI.eff (o := _) rfl (by kernel_rfl) (by kernel_rfl) (Eff.callH (vs := [.agg (mc m).toArray]) (fun x : MO => .agg (oc (oA x m)).toArray) [] (fun x => memMO x m) (fun x => MOk x m) [(o10,zob),(o11,zob),(o12,zob),(tb,tob t),(cb,cob c),(nb,mob n),(mb,mob m)] [] rfl rfl Tryz.func18 rfl rfl (by kernel_rfl) (fun w1 h _ _ => oMap m Rl w1 hM (h.hasR (fun e he => List.mem_cons_of_mem _ he)))) (fun _ _ => (.cons _ (.cons _ (.cons _ (.cons_cons _ (.cons_cons _ (.cons_cons _ (.cons_cons _ (List.nil_sublist _))))))))) ?_
            rintro xa hxa
            exact CfgA.to (IH (some xa,none,none,none,none,some o10,some o11,some o12) ⟨hxa,trivial,trivial,nofun,nofun,nofun,trivial⟩ (lt4 (by kernel_rfl))) (by kernel_rfl) (by kernel_rfl) (.refl _) (Conv.mk (by kernel_rfl))
           ·
            refine CfgI.eff (o := _) rfl (by kernel_rfl) (by kernel_rfl) (Eff.alloc (z := (.agg (oc ⟨0,m0,c0,t0⟩).toArray)) rfl (by kernel_rfl)) (fun _ _ => (.cons _ (.cons _ (.cons _ (.cons _ (.cons_cons _ (.cons_cons _ (.cons_cons _ (.cons_cons _ .slnil))))))))) ?_
            rintro o9 ⟨ho9,no9⟩
            exact CfgA.to (IH (none,none,none,none,some o9,some o10,some o11,some o12) ⟨trivial,trivial,trivial,nofun,nofun,nofun,trivial⟩ (lt4 (by kernel_rfl))) (by kernel_rfl) (by kernel_rfl) (.refl _) (Conv.mk (by kernel_rfl))
       ·
        rcases oo9 with _ | o10
        ·
         rcases oo10 with _ | o11
         ·
          rcases oo11 with _ | o12
          ·
           refine CfgA.to (l' := #[true,false,true,false,true,false,true,false,true,false,false,false,false,false,false,false]) (fuel' := 11) (O' := [(o9,zob),(tb,tob t),(cb,cob c),(nb,mob n),(mb,mob m)]) (Γ' := [(9,[],.pointer (some ⟨o9,0,none⟩)),(49,[],.agg (tc t).toArray),(47,[],.agg (cc c).toArray),(45,[],.agg (mc n).toArray),(43,[],.agg (mc m).toArray),(7,[],.pointer (some ⟨tb,0,none⟩)),(6,[],.pointer (some ⟨cb,0,none⟩)),(5,[],.pointer (some ⟨nb,0,none⟩)),(4,[],.pointer (some ⟨mb,0,none⟩))]) ?_ (by kernel_rfl) (by kernel_rfl) (List.Perm.refl _) (Conv.mk (by kernel_rfl))
           refine CfgA.many [1,9,10,11] (by kernel_rfl) (by decide) (fuel' := 10) (by kernel_rfl) ⟨?_,?_,?_,?_,trivial⟩
           ·
            refine CfgI.eff (o := _) rfl (by kernel_rfl) (by kernel_rfl) (Eff.callH (vs := [.agg (mc m).toArray]) (fun x : MO => .agg (oc (oA x m)).toArray) [] (fun x => memMO x m) (fun x => MOk x m) [(o9,zob),(tb,tob t),(cb,cob c),(nb,mob n),(mb,mob m)] [] rfl rfl Tryz.func18 rfl rfl (by kernel_rfl) (fun w1 h _ _ => oMap m Rl w1 hM (h.hasR (fun e he => List.mem_cons_of_mem _ he)))) (fun _ _ => (.cons _ (.cons_cons _ (.cons_cons _ (.cons_cons _ (.cons_cons _ (List.nil_sublist _))))))) ?_
            rintro xa hxa
            exact CfgA.to (IH (some xa,none,none,none,some o9,none,none,none) ⟨hxa,trivial,trivial,nofun,nofun,nofun,trivial⟩ (lt4 (by kernel_rfl))) (by kernel_rfl) (by kernel_rfl) (.refl _) (Conv.mk (by kernel_rfl))
           ·
            refine CfgI.eff (o := _) rfl (by kernel_rfl) (by kernel_rfl) (Eff.alloc (z := (.agg (oc ⟨0,m0,c0,t0⟩).toArray)) rfl (by kernel_rfl)) (fun _ _ => (.cons _ (.cons _ (.cons_cons _ (.cons_cons _ (.cons_cons _ (.cons_cons _ .slnil))))))) ?_
            rintro o10 ⟨ho10,no10⟩
            exact CfgA.to (IH (none,none,none,none,some o9,some o10,none,none) ⟨trivial,trivial,trivial,nofun,nofun,nofun,trivial⟩ (lt4 (by kernel_rfl))) (by kernel_rfl) (by kernel_rfl) (pmid (l₁ := [(o9,zob)])) (Conv.mk (by kernel_rfl))
           ·
            refine CfgI.eff (o := _) rfl (by kernel_rfl) (by kernel_rfl) (Eff.alloc (z := (.agg (oc ⟨0,m0,c0,t0⟩).toArray)) rfl (by kernel_rfl)) (fun _ _ => (.cons _ (.cons _ (.cons_cons _ (.cons_cons _ (.cons_cons _ (.cons_cons _ .slnil))))))) ?_
            rintro o11 ⟨ho11,no11⟩
            exact CfgA.to (IH (none,none,none,none,some o9,none,some o11,none) ⟨trivial,trivial,trivial,nofun,nofun,nofun,trivial⟩ (lt4 (by kernel_rfl))) (by kernel_rfl) (by kernel_rfl) (pmid (l₁ := [(o9,zob)])) (Conv.mk (by kernel_rfl))
           ·
            refine CfgI.eff (o := _) rfl (by kernel_rfl) (by kernel_rfl) (Eff.alloc (z := (.agg (oc ⟨0,m0,c0,t0⟩).toArray)) rfl (by kernel_rfl)) (fun _ _ => (.cons _ (.cons _ (.cons_cons _ (.cons_cons _ (.cons_cons _ (.cons_cons _ .slnil))))))) ?_
            rintro o12 ⟨ho12,no12⟩
            exact CfgA.to (IH (none,none,none,none,some o9,none,none,some o12) ⟨trivial,trivial,trivial,nofun,nofun,nofun,trivial⟩ (lt4 (by kernel_rfl))) (by kernel_rfl) (by kernel_rfl) (pmid (l₁ := [(o9,zob)])) (Conv.mk (by kernel_rfl))
          ·
           refine CfgA.to (l' := #[true,false,true,false,true,false,true,false,true,false,false,true,false,false,false,false]) (fuel' := 10) (O' := [(o9,zob),(o12,zob),(tb,tob t),(cb,cob c),(nb,mob n),(mb,mob m)]) (Γ' := [(9,[],.pointer (some ⟨o9,0,none⟩)),(12,[],.pointer (some ⟨o12,0,none⟩)),(49,[],.agg (tc t).toArray),(47,[],.agg (cc c).toArray),(45,[],.agg (mc n).toArray),(43,[],.agg (mc m).toArray),(7,[],.pointer (some ⟨tb,0,none⟩)),(6,[],.pointer (some ⟨cb,0,none⟩)),(5,[],.pointer (some ⟨nb,0,none⟩)),(4,[],.pointer (some ⟨mb,0,none⟩))]) ?_ (by kernel_rfl) (by kernel_rfl) (List.Perm.refl _) (Conv.mk (by kernel_rfl))
           refine CfgA.many [1,9,10] (by kernel_rfl) (by decide) (fuel' := 9) (by kernel_rfl) ⟨?_,?_,?_,trivial⟩
           ·
            refine CfgI.eff (o := _) rfl (by kernel_rfl) (by kernel_rfl) (Eff.callH (vs := [.agg (mc m).toArray]) (fun x : MO => .agg (oc (oA x m)).toArray) [] (fun x => memMO x m) (fun x => MOk x m) [(o9,zob),(o12,zob),(tb,tob t),(cb,cob c),(nb,mob n),(mb,mob m)] [] rfl rfl Tryz.func18 rfl rfl (by kernel_rfl) (fun w1 h _ _ => oMap m Rl w1 hM (h.hasR (fun e he => List.mem_cons_of_mem _ he)))) (fun _ _ => (.cons _ (.cons _ (.cons_cons _ (.cons_cons _ (.cons_cons _ (.cons_cons _ (List.nil_sublist _)))))))) ?_
            rintro xa hxa
            exact CfgA.to (IH (some xa,none,none,none,some o9,none,none,some o12) ⟨hxa,trivial,trivial,nofun,nofun,nofun,trivial⟩ (lt4 (by kernel_rfl))) (by kernel_rfl) (by kernel_rfl) (.refl _) (Conv.mk (by kernel_rfl))
           ·
            refine CfgI.eff (o := _) rfl (by kernel_rfl) (by kernel_rfl) (Eff.alloc (z := (.agg (oc ⟨0,m0,c0,t0⟩).toArray)) rfl (by kernel_rfl)) (fun _ _ => (.cons _ (.cons _ (.cons _ (.cons_cons _ (.cons_cons _ (.cons_cons _ (.cons_cons _ .slnil)))))))) ?_
            rintro o10 ⟨ho10,no10⟩
            exact CfgA.to (IH (none,none,none,none,some o9,some o10,none,some o12) ⟨trivial,trivial,trivial,nofun,nofun,nofun,trivial⟩ (lt4 (by kernel_rfl))) (by kernel_rfl) (by kernel_rfl) (pmid (l₁ := [(o9,zob)])) (Conv.mk (by kernel_rfl))
           ·
            refine CfgI.eff (o := _) rfl (by kernel_rfl) (by kernel_rfl) (Eff.alloc (z := (.agg (oc ⟨0,m0,c0,t0⟩).toArray)) rfl (by kernel_rfl)) (fun _ _ => (.cons _ (.cons _ (.cons _ (.cons_cons _ (.cons_cons _ (.cons_cons _ (.cons_cons _ .slnil)))))))) ?_
            rintro o11 ⟨ho11,no11⟩
            exact CfgA.to (IH (none,none,none,none,some o9,none,some o11,some o12) ⟨trivial,trivial,trivial,nofun,nofun,nofun,trivial⟩ (lt4 (by kernel_rfl))) (by kernel_rfl) (by kernel_rfl) (pmid (l₁ := [(o9,zob)])) (Conv.mk (by kernel_rfl))
         ·
          rcases oo11 with _ | o12
          ·
           refine CfgA.to (l' := #[true,false,true,false,true,false,true,false,true,false,true,false,false,false,false,false]) (fuel' := 10) (O' := [(o9,zob),(o11,zob),(tb,tob t),(cb,cob c),(nb,mob n),(mb,mob m)]) (Γ' := [(9,[],.pointer (some ⟨o9,0,none⟩)),(11,[],.pointer (some ⟨o11,0,none⟩)),(49,[],.agg (tc t).toArray),(47,[],.agg (cc c).toArray),(45,[],.agg (mc n).toArray),(43,[],.agg (mc m).toArray),(7,[],.pointer (some ⟨tb,0,none⟩)),(6,[],.pointer (some ⟨cb,0,none⟩)),(5,[],.pointer (some ⟨nb,0,none⟩)),(4,[],.pointer (some ⟨mb,0,none⟩))]) ?_ (by kernel_rfl) (by kernel_rfl) (List.Perm.refl _) (Conv.mk (by kernel_rfl))
           refine CfgA.many [1,9,11] (by kernel_rfl) (by decide) (fuel' := 9) (by kernel_rfl) ⟨?_,?_,?_,trivial⟩
           ·
            refine CfgI.eff (o := _) rfl (by kernel_rfl) (by kernel_rfl) (Eff.callH (vs := [.agg (mc m).toArray]) (fun x : MO => .agg (oc (oA x m)).toArray) [] (fun x => memMO x m) (fun x => MOk x m) [(o9,zob),(o11,zob),(tb,tob t),(cb,cob c),(nb,mob n),(mb,mob m)] [] rfl rfl Tryz.func18 rfl rfl (by kernel_rfl) (fun w1 h _ _ => oMap m Rl w1 hM (h.hasR (fun e he => List.mem_cons_of_mem _ he)))) (fun _ _ => (.cons _ (.cons _ (.cons_cons _ (.cons_cons _ (.cons_cons _ (.cons_cons _ (List.nil_sublist _)))))))) ?_
            rintro xa hxa
            exact CfgA.to (IH (some xa,none,none,none,some o9,none,some o11,none) ⟨hxa,trivial,trivial,nofun,nofun,nofun,trivial⟩ (lt4 (by kernel_rfl))) (by kernel_rfl) (by kernel_rfl) (.refl _) (Conv.mk (by kernel_rfl))
           ·
            refine CfgI.eff (o := _) rfl (by kernel_rfl) (by kernel_rfl) (Eff.alloc (z := (.agg (oc ⟨0,m0,c0,t0⟩).toArray)) rfl (by kernel_rfl)) (fun _ _ => (.cons _ (.cons _ (.cons _ (.cons_cons _ (.cons_cons _ (.cons_cons _ (.cons_cons _ .slnil)))))))) ?_
            rintro o10 ⟨ho10,no10⟩
            exact CfgA.to (IH (none,none,none,none,some o9,some o10,some o11,none) ⟨trivial,trivial,trivial,nofun,nofun,nofun,trivial⟩ (lt4 (by kernel_rfl))) (by kernel_rfl) (by kernel_rfl) (pmid (l₁ := [(o9,zob)])) (Conv.mk (by kernel_rfl))
           ·
            refine CfgI.eff (o := _) rfl (by kernel_rfl) (by kernel_rfl) (Eff.alloc (z := (.agg (oc ⟨0,m0,c0,t0⟩).toArray)) rfl (by kernel_rfl)) (fun _ _ => (.cons _ (.cons _ (.cons _ (.cons_cons _ (.cons_cons _ (.cons_cons _ (.cons_cons _ .slnil)))))))) ?_
            rintro o12 ⟨ho12,no12⟩
            exact CfgA.to (IH (none,none,none,none,some o9,none,some o11,some o12) ⟨trivial,trivial,trivial,nofun,nofun,nofun,trivial⟩ (lt4 (by kernel_rfl))) (by kernel_rfl) (by kernel_rfl) (pmid (l₁ := [(o9,zob),(o11,zob)])) (Conv.mk (by kernel_rfl))
          ·
           refine CfgA.to (l' := #[true,false,true,false,true,false,true,false,true,false,true,true,false,false,false,false]) (fuel' := 9) (O' := [(o9,zob),(o11,zob),(o12,zob),(tb,tob t),(cb,cob c),(nb,mob n),(mb,mob m)]) (Γ' := [(9,[],.pointer (some ⟨o9,0,none⟩)),(11,[],.pointer (some ⟨o11,0,none⟩)),(12,[],.pointer (some ⟨o12,0,none⟩)),(49,[],.agg (tc t).toArray),(47,[],.agg (cc c).toArray),(45,[],.agg (mc n).toArray),(43,[],.agg (mc m).toArray),(7,[],.pointer (some ⟨tb,0,none⟩)),(6,[],.pointer (some ⟨cb,0,none⟩)),(5,[],.pointer (some ⟨nb,0,none⟩)),(4,[],.pointer (some ⟨mb,0,none⟩))]) ?_ (by kernel_rfl) (by kernel_rfl) (List.Perm.refl _) (Conv.mk (by kernel_rfl))
           refine CfgA.many [1,9] (by kernel_rfl) (by decide) (fuel' := 8) (by kernel_rfl) ⟨?_,?_,trivial⟩
           ·
            refine CfgI.eff (o := _) rfl (by kernel_rfl) (by kernel_rfl) (Eff.callH (vs := [.agg (mc m).toArray]) (fun x : MO => .agg (oc (oA x m)).toArray) [] (fun x => memMO x m) (fun x => MOk x m) [(o9,zob),(o11,zob),(o12,zob),(tb,tob t),(cb,cob c),(nb,mob n),(mb,mob m)] [] rfl rfl Tryz.func18 rfl rfl (by kernel_rfl) (fun w1 h _ _ => oMap m Rl w1 hM (h.hasR (fun e he => List.mem_cons_of_mem _ he)))) (fun _ _ => (.cons _ (.cons _ (.cons _ (.cons_cons _ (.cons_cons _ (.cons_cons _ (.cons_cons _ (List.nil_sublist _))))))))) ?_
            rintro xa hxa
            exact CfgA.to (IH (some xa,none,none,none,some o9,none,some o11,some o12) ⟨hxa,trivial,trivial,nofun,nofun,nofun,trivial⟩ (lt4 (by kernel_rfl))) (by kernel_rfl) (by kernel_rfl) (.refl _) (Conv.mk (by kernel_rfl))
           ·
            refine CfgI.eff (o := _) rfl (by kernel_rfl) (by kernel_rfl) (Eff.alloc (z := (.agg (oc ⟨0,m0,c0,t0⟩).toArray)) rfl (by kernel_rfl)) (fun _ _ => (.cons _ (.cons _ (.cons _ (.cons _ (.cons_cons _ (.cons_cons _ (.cons_cons _ (.cons_cons _ .slnil))))))))) ?_
            rintro o10 ⟨ho10,no10⟩
            exact CfgA.to (IH (none,none,none,none,some o9,some o10,some o11,some o12) ⟨trivial,trivial,trivial,nofun,nofun,nofun,trivial⟩ (lt4 (by kernel_rfl))) (by kernel_rfl) (by kernel_rfl) (pmid (l₁ := [(o9,zob)])) (Conv.mk (by kernel_rfl))
        ·
         rcases oo10 with _ | o11
         ·
          rcases oo11 with _ | o12
          ·
           refine CfgA.to (l' := #[true,false,true,false,true,false,true,false,true,true,false,false,false,false,false,false]) (fuel' := 10) (O' := [(o9,zob),(o10,zob),(tb,tob t),(cb,cob c),(nb,mob n),(mb,mob m)]) (Γ' := [(9,[],.pointer (some ⟨o9,0,none⟩)),(10,[],.pointer (some ⟨o10,0,none⟩)),(49,[],.agg (tc t).toArray),(47,[],.agg (cc c).toArray),(45,[],.agg (mc n).toArray),(43,[],.agg (mc m).toArray),(7,[],.pointer (some ⟨tb,0,none⟩)),(6,[],.pointer (some ⟨cb,0,none⟩)),(5,[],.pointer (some ⟨nb,0,none⟩)),(4,[],.pointer (some ⟨mb,0,none⟩))]) ?_ (by kernel_rfl) (by kernel_rfl) (List.Perm.refl _) (Conv.mk (by kernel_rfl))
           refine CfgA.many [1,10,11] (by kernel_rfl) (by decide) (fuel' := 9) (by kernel_rfl) ⟨?_,?_,?_,trivial⟩
           ·
            refine CfgI.eff (o := _) rfl (by kernel_rfl) (by kernel_rfl) (Eff.callH (vs := [.agg (mc m).toArray]) (fun x : MO => .agg (oc (oA x m)).toArray) [] (fun x => memMO x m) (fun x => MOk x m) [(o9,zob),(o10,zob),(tb,tob t),(cb,cob c),(nb,mob n),(mb,mob m)] [] rfl rfl Tryz.func18 rfl rfl (by kernel_rfl) (fun w1 h _ _ => oMap m Rl w1 hM (h.hasR (fun e he => List.mem_cons_of_mem _ he)))) (fun _ _ => (.cons _ (.cons _ (.cons_cons _ (.cons_cons _ (.cons_cons _ (.cons_cons _ (List.nil_sublist _)))))))) ?_
            rintro xa hxa
            exact CfgA.to (IH (some xa,none,none,none,some o9,some o10,none,none) ⟨hxa,trivial,trivial,nofun,nofun,nofun,trivial⟩ (lt4 (by kernel_rfl))) (by kernel_rfl) (by kernel_rfl) (.refl _) (Conv.mk (by kernel_rfl))
           ·
            refine CfgI.eff (o := _) rfl (by kernel_rfl) (by kernel_rfl) (Eff.alloc (z := (.agg (oc ⟨0,m0,c0,t0⟩).toArray)) rfl (by kernel_rfl)) (fun _ _ => (.cons _ (.cons _ (.cons _ (.cons_cons _ (.cons_cons _ (.cons_cons _ (.cons_cons _ .slnil)))))))) ?_
            rintro o11 ⟨ho11,no11⟩
            exact CfgA.to (IH (none,none,none,none,some o9,some o10,some o11,none) ⟨trivial,trivial,trivial,nofun,nofun,nofun,trivial⟩ (lt4 (by kernel_rfl))) (by kernel_rfl) (by kernel_rfl) (pmid (l₁ := [(o9,zob),(o10,zob)])) (Conv.mk (by kernel_rfl))
           ·
            refine CfgI.eff (o := _) rfl (by kernel_rfl) (by kernel_rfl) (Eff.alloc (z := (.agg (oc ⟨0,m0,c0,t0⟩).toArray)) rfl (by kernel_rfl)) (fun _ _ => (.cons _ (.cons _ (.cons _ (.cons_cons _ (.cons_cons _ (.cons_cons _ (.cons_cons _ .slnil)))))))) ?_
            rintro o12 ⟨ho12,no12⟩
            exact CfgA.to (IH (none,none,none,none,some o9,some o10,none,some o12) ⟨trivial,trivial,trivial,nofun,nofun,nofun,trivial⟩ (lt4 (by kernel_rfl))) (by kernel_rfl) (by kernel_rfl) (pmid (l₁ := [(o9,zob),(o10,zob)])) (Conv.mk (by kernel_rfl))
          ·
           refine CfgA.to (l' := #[true,false,true,false,true,false,true,false,true,true,false,true,false,false,false,false]) (fuel' := 9) (O' := [(o9,zob),(o10,zob),(o12,zob),(tb,tob t),(cb,cob c),(nb,mob n),(mb,mob m)]) (Γ' := [(9,[],.pointer (some ⟨o9,0,none⟩)),(10,[],.pointer (some ⟨o10,0,none⟩)),(12,[],.pointer (some ⟨o12,0,none⟩)),(49,[],.agg (tc t).toArray),(47,[],.agg (cc c).toArray),(45,[],.agg (mc n).toArray),(43,[],.agg (mc m).toArray),(7,[],.pointer (some ⟨tb,0,none⟩)),(6,[],.pointer (some ⟨cb,0,none⟩)),(5,[],.pointer (some ⟨nb,0,none⟩)),(4,[],.pointer (some ⟨mb,0,none⟩))]) ?_ (by kernel_rfl) (by kernel_rfl) (List.Perm.refl _) (Conv.mk (by kernel_rfl))
           refine CfgA.many [1,10] (by kernel_rfl) (by decide) (fuel' := 8) (by kernel_rfl) ⟨?_,?_,trivial⟩
           ·
            refine CfgI.eff (o := _) rfl (by kernel_rfl) (by kernel_rfl) (Eff.callH (vs := [.agg (mc m).toArray]) (fun x : MO => .agg (oc (oA x m)).toArray) [] (fun x => memMO x m) (fun x => MOk x m) [(o9,zob),(o10,zob),(o12,zob),(tb,tob t),(cb,cob c),(nb,mob n),(mb,mob m)] [] rfl rfl Tryz.func18 rfl rfl (by kernel_rfl) (fun w1 h _ _ => oMap m Rl w1 hM (h.hasR (fun e he => List.mem_cons_of_mem _ he)))) (fun _ _ => (.cons _ (.cons _ (.cons _ (.cons_cons _ (.cons_cons _ (.cons_cons _ (.cons_cons _ (List.nil_sublist _))))))))) ?_
            rintro xa hxa
            exact CfgA.to (IH (some xa,none,none,none,some o9,some o10,none,some o12) ⟨hxa,trivial,trivial,nofun,nofun,nofun,trivial⟩ (lt4 (by kernel_rfl))) (by kernel_rfl) (by kernel_rfl) (.refl _) (Conv.mk (by kernel_rfl))
           ·
            refine CfgI.eff (o := _) rfl (by kernel_rfl) (by kernel_rfl) (Eff.alloc (z := (.agg (oc ⟨0,m0,c0,t0⟩).toArray)) rfl (by kernel_rfl)) (fun _ _ => (.cons _ (.cons _ (.cons _ (.cons _ (.cons_cons _ (.cons_cons _ (.cons_cons _ (.cons_cons _ .slnil))))))))) ?_
            rintro o11 ⟨ho11,no11⟩
            exact CfgA.to (IH (none,none,none,none,some o9,some o10,some o11,some o12) ⟨trivial,trivial,trivial,nofun,nofun,nofun,trivial⟩ (lt4 (by kernel_rfl))) (by kernel_rfl) (by kernel_rfl) (pmid (l₁ := [(o9,zob),(o10,zob)])) (Conv.mk (by kernel_rfl))
         ·
          rcases oo11 with _ | o12
          ·
           refine CfgA.to (l' := #[true,false,true,false,true,false,true,false,true,true,true,false,false,false,false,false]) (fuel' := 9) (O' := [(o9,zob),(o10,zob),(o11,zob),(tb,tob t),(cb,cob c),(nb,mob n),(mb,mob m)]) (Γ' := [(9,[],.pointer (some ⟨o9,0,none⟩)),(10,[],.pointer (some ⟨o10,0,none⟩)),(11,[],.pointer (some ⟨o11,0,none⟩)),(49,[],.agg (tc t).toArray),(47,[],.agg (cc c).toArray),(45,[],.agg (mc n).toArray),(43,[],.agg (mc m).toArray),(7,[],.pointer (some ⟨tb,0,none⟩)),(6,[],.pointer (some ⟨cb,0,none⟩)),(5,[],.pointer (some ⟨nb,0,none⟩)),(4,[],.pointer (some ⟨mb,0,none⟩))]) ?_ (by kernel_rfl) (by kernel_rfl) (List.Perm.refl _) (Conv.mk (by kernel_rfl))
           refine CfgA.many [1,11] (by kernel_rfl) (by decide) (fuel' := 8) (by kernel_rfl) ⟨?_,?_,trivial⟩
           ·
            refine CfgI.eff (o := _) rfl (by kernel_rfl) (by kernel_rfl) (Eff.callH (vs := [.agg (mc m).toArray]) (fun x : MO => .agg (oc (oA x m)).toArray) [] (fun x => memMO x m) (fun x => MOk x m) [(o9,zob),(o10,zob),(o11,zob),(tb,tob t),(cb,cob c),(nb,mob n),(mb,mob m)] [] rfl rfl Tryz.func18 rfl rfl (by kernel_rfl) (fun w1 h _ _ => oMap m Rl w1 hM (h.hasR (fun e he => List.mem_cons_of_mem _ he)))) (fun _ _ => (.cons _ (.cons _ (.cons _ (.cons_cons _ (.cons_cons _ (.cons_cons _ (.cons_cons _ (List.nil_sublist _))))))))) ?_
            rintro xa hxa
            exact CfgA.to (IH (some xa,none,none,none,some o9,some o10,some o11,none) ⟨hxa,trivial,trivial,nofun,nofun,nofun,trivial⟩ (lt4 (by kernel_rfl))) (by kernel_rfl) (by kernel_rfl) (.refl _) (Conv.mk (by kernel_rfl))
           ·
            refine CfgI.eff (o := _) rfl (by kernel_rfl) (by kernel_rfl) (Eff.alloc (z := (.agg (oc ⟨0,m0,c0,t0⟩).toArray)) rfl (by kernel_rfl)) (fun _ _ => (.cons _ (.cons _ (.cons _ (.cons _ (.cons_cons _ (.cons_cons _ (.cons_cons _ (.cons_cons _ .slnil))))))))) ?_
            rintro o12 ⟨ho12,no12⟩
            exact CfgA.to (IH (none,none,none,none,some o9,some o10,some o11,some o12) ⟨trivial,trivial,trivial,nofun,nofun,nofun,trivial⟩ (lt4 (by kernel_rfl))) (by kernel_rfl) (by kernel_rfl) (pmid (l₁ := [(o9,zob),(o10,zob),(o11,zob)])) (Conv.mk (by kernel_rfl))
          ·
           refine CfgA.to (l' := #[true,false,true,false,true,false,true,false,true,true,true,true,false,false,false,false]) (fuel' := 8) (O' := [(o9,zob),(o10,zob),(o11,zob),(o12,zob),(tb,tob t),(cb,cob c),(nb,mob n),(mb,mob m)]) (Γ' := [(9,[],.pointer (some ⟨o9,0,none⟩)),(10,[],.pointer (some ⟨o10,0,none⟩)),(11,[],.pointer (some ⟨o11,0,none⟩)),(12,[],.pointer (some ⟨o12,0,none⟩)),(49,[],.agg (tc t).toArray),(47,[],.agg (cc c).toArray),(45,[],.agg (mc n).toArray),(43,[],.agg (mc m).toArray),(7,[],.pointer (some ⟨tb,0,none⟩)),(6,[],.pointer (some ⟨cb,0,none⟩)),(5,[],.pointer (some ⟨nb,0,none⟩)),(4,[],.pointer (some ⟨mb,0,none⟩))]) ?_ (by kernel_rfl) (by kernel_rfl) (List.Perm.refl _) (Conv.mk (by kernel_rfl))
           refine CfgA.many [1] (by kernel_rfl) (by decide) (fuel' := 7) (by kernel_rfl) ⟨?_,trivial⟩
           ·
            refine CfgI.eff (o := _) rfl (by kernel_rfl) (by kernel_rfl) (Eff.callH (vs := [.agg (mc m).toArray]) (fun x : MO => .agg (oc (oA x m)).toArray) [] (fun x => memMO x m) (fun x => MOk x m) [(o9,zob),(o10,zob),(o11,zob),(o12,zob),(tb,tob t),(cb,cob c),(nb,mob n),(mb,mob m)] [] rfl rfl Tryz.func18 rfl rfl (by kernel_rfl) (fun w1 h _ _ => oMap m Rl w1 hM (h.hasR (fun e he => List.mem_cons_of_mem _ he)))) (fun _ _ => (.cons _ (.cons _ (.cons _ (.cons _ (.cons_cons _ (.cons_cons _ (.cons_cons _ (.cons_cons _ (List.nil_sublist _)))))))))) ?_
            rintro xa hxa
            exact CfgA.to (IH (some xa,none,none,none,some o9,some o10,some o11,some o12) ⟨hxa,trivial,trivial,nofun,nofun,nofun,trivial⟩ (lt4 (by kernel_rfl))) (by kernel_rfl) (by kernel_rfl) (.refl _) (Conv.mk (by kernel_rfl))
      ·
       exact absurd (dd7_5 rfl) (by decide)
     ·
      exact absurd (dd5_3 rfl) (by decide)
    ·
     exact absurd (dd3_1 rfl) (by decide)
   ·
    rcases oo3 with _ | xb
    ·
     rcases oo5 with _ | oc5
     ·
      rcases oo7 with _ | ⟨⟩
      ·
       rcases oo8 with _ | o9
       ·
        rcases oo9 with _ | o10
        ·
         rcases oo10 with _ | o11
         ·
          rcases oo11 with _ | o12
          ·
           have hxa : MOk xa m := pp1
           refine CfgA.to (l' := #[true,true,true,false,true,false,true,false,false,false,false,false,false,false,false,false]) (fuel' := 11) (O' := ([(tb,tob t),(cb,cob c),(nb,mob n),(mb,mob m)] ++ (memMO xa m ++ []))) (Γ' := [(44,[],.agg (oc (oA xa m)).toArray),(49,[],.agg (tc t).toArray),(47,[],.agg (cc c).toArray),(45,[],.agg (mc n).toArray),(43,[],.agg (mc m).toArray),(7,[],.pointer (some ⟨tb,0,none⟩)),(6,[],.pointer (some ⟨cb,0,none⟩)),(5,[],.pointer (some ⟨nb,0,none⟩)),(4,[],.pointer (some ⟨mb,0,none⟩))]) ?_ (by kernel_rfl) (by kernel_rfl) (List.Perm.refl _) (Conv.mk (by kernel_rfl))
           refine CfgA.many [3,8,9,10,11] (by kernel_rfl) (by decide) (fuel' := 10) (by kernel_rfl) ⟨?_,?_,?_,?_,?_,trivial⟩
           ·
            refine CfgI.eff (o := _) rfl (by kernel_rfl) (by kernel_rfl) (Eff.callH (vs := [.agg (mc n).toArray]) (fun x : MO => .agg (oc (oA x n)).toArray) [] (fun x => memMO x n) (fun x => MOk x n) [(tb,tob t),(cb,cob c),(nb,mob n),(mb,mob m)] (memMO xa m ++ []) rfl rfl Tryz.func18 rfl rfl (by kernel_rfl) (fun w1 h _ _ => oMap n Rl w1 hN (h.hasR (fun e he => List.mem_cons_of_mem _ he)))) (fun _ _ => (.cons_cons _ (.cons_cons _ (.cons_cons _ (.cons_cons _ (List.nil_sublist _)))))) ?_
            rintro xb hxb
            exact CfgA.to (IH (some xa,some xb,none,none,none,none,none,none) ⟨hxa,hxb,trivial,(fun _ => rfl),nofun,nofun,trivial⟩ (lt4 (by kernel_rfl))) (by kernel_rfl) (by kernel_rfl) (.refl _) (Conv.mk (by kernel_rfl))
           ·
            refine CfgI.eff (o := _) rfl (by kernel_rfl) (by kernel_rfl) (Eff.alloc (z := (.agg (oc ⟨0,m0,c0,t0⟩).toArray)) rfl (by kernel_rfl)) (fun _ _ => (.cons _ (.cons_cons _ (.cons_cons _ (.cons_cons _ (.cons_cons _ (List.nil_sublist _))))))) ?_
            rintro o9 ⟨ho9,no9⟩
            exact CfgA.to (IH (some xa,none,none,none,some o9,none,none,none) ⟨hxa,trivial,trivial,nofun,nofun,nofun,trivial⟩ (lt4 (by kernel_rfl))) (by kernel_rfl) (by kernel_rfl) (.refl _) (Conv.mk (by kernel_rfl))
           ·
            refine CfgI.eff (o := _) rfl (by kernel_rfl) (by kernel_rfl) (Eff.alloc (z := (.agg (oc ⟨0,m0,c0,t0⟩).toArray)) rfl (by kernel_rfl)) (fun _ _ => (.cons _ (.cons_cons _ (.cons_cons _ (.cons_cons _ (.cons_cons _ (List.nil_sublist _))))))) ?_
            rintro o10 ⟨ho10,no10⟩
            exact CfgA.to (IH (some xa,none,none,none,none,some o10,none,none) ⟨hxa,trivial,trivial,nofun,nofun,nofun,trivial⟩ (lt4 (by kernel_rfl))) (by kernel_rfl) (by kernel_rfl) (.refl _) (Conv.mk (by kernel_rfl))
           ·
            refine CfgI.eff (o := _) rfl (by kernel_rfl) (by kernel_rfl) (Eff.alloc (z := (.agg (oc ⟨0,m0,c0,t0⟩).toArray)) rfl (by kernel_rfl)) (fun _ _ => (.cons _ (.cons_cons _ (.cons_cons _ (.cons_cons _ (.cons_cons _ (List.nil_sublist _))))))) ?_
            rintro o11 ⟨ho11,no11⟩
            exact CfgA.to (IH (some xa,none,none,none,none,none,some o11,none) ⟨hxa,trivial,trivial,nofun,nofun,nofun,trivial⟩ (lt4 (by kernel_rfl))) (by kernel_rfl) (by kernel_rfl) (.refl _) (Conv.mk (by kernel_rfl))
           ·
            refine CfgI.eff (o := _) rfl (by kernel_rfl) (by kernel_rfl) (Eff.alloc (z := (.agg (oc ⟨0,m0,c0,t0⟩).toArray)) rfl (by kernel_rfl)) (fun _ _ => (.cons _ (.cons_cons _ (.cons_cons _ (.cons_cons _ (.cons_cons _ (List.nil_sublist _))))))) ?_
            rintro o12 ⟨ho12,no12⟩
            exact CfgA.to (IH (some xa,none,none,none,none,none,none,some o12) ⟨hxa,trivial,trivial,nofun,nofun,nofun,trivial⟩ (lt4 (by kernel_rfl))) (by kernel_rfl) (by kernel_rfl) (.refl _) (Conv.mk (by kernel_rfl))
          ·
           have hxa : MOk xa m := pp1
           refine CfgA.to (l' := #[true,true,true,false,true,false,true,false,false,false,false,true,false,false,false,false]) (fuel' := 10) (O' := ([(o12,zob),(tb,tob t),(cb,cob c),(nb,mob n),(mb,mob m)] ++ (memMO xa m ++ []))) (Γ' := [(44,[],.agg (oc (oA xa m)).toArray),(12,[],.pointer (some ⟨o12,0,none⟩)),(49,[],.agg (tc t).toArray),(47,[],.agg (cc c).toArray),(45,[],.agg (mc n).toArray),(43,[],.agg (mc m).toArray),(7,[],.pointer (some ⟨tb,0,none⟩)),(6,[],.pointer (some ⟨cb,0,none⟩)),(5,[],.pointer (some ⟨nb,0,none⟩)),(4,[],.pointer (some ⟨mb,0,none⟩))]) ?_ (by kernel_rfl) (by kernel_rfl) (List.Perm.refl _) (Conv.mk (by kernel_rfl))
           refine CfgA.many [3,8,9,10] (by kernel_rfl) (by decide) (fuel' := 9) (by kernel_rfl) ⟨?_,?_,?_,?_,trivial⟩
           ·
            refine CfgI.eff (o := _) rfl (by kernel_rfl) (by kernel_rfl) (Eff.callH (vs := [.agg (mc n).toArray]) (fun x : MO => .agg (oc (oA x n)).toArray) [] (fun x => memMO x n) (fun x => MOk x n) [(o12,zob),(tb,tob t),(cb,cob c),(nb,mob n),(mb,mob m)] (memMO xa m ++ []) rfl rfl Tryz.func18 rfl rfl (by kernel_rfl) (fun w1 h _ _ => oMap n Rl w1 hN (h.hasR (fun e he => List.mem_cons_of_mem _ he)))) (fun _ _ => (.cons _ (.cons_cons _ (.cons_cons _ (.cons_cons _ (.cons_cons _ (List.nil_sublist _))))))) ?_
            rintro xb hxb
            exact CfgA.to (IH (some xa,some xb,none,none,none,none,none,some o12) ⟨hxa,hxb,trivial,(fun _ => rfl),nofun,nofun,trivial⟩ (lt4 (by kernel_rfl))) (by kernel_rfl) (by kernel_rfl) (.refl _) (Conv.mk (by kernel_rfl))
           ·
            refine CfgI.eff (o := _) rfl (by kernel_rfl) (by kernel_rfl) (Eff.alloc (z := (.agg (oc ⟨0,m0,c0,t0⟩).toArray)) rfl (by kernel_rfl)) (fun _ _ => (.cons _ (.cons _ (.cons_cons _ (.cons_cons _ (.cons_cons _ (.cons_cons _ (List.nil_sublist _)))))))) ?_
            rintro o9 ⟨ho9,no9⟩
            exact CfgA.to (IH (some xa,none,none,none,some o9,none,none,some o12) ⟨hxa,trivial,trivial,nofun,nofun,nofun,trivial⟩ (lt4 (by kernel_rfl))) (by kernel_rfl) (by kernel_rfl) (.refl _) (Conv.mk (by kernel_rfl))
           ·
            refine CfgI.eff (o := _) rfl (by kernel_rfl) (by kernel_rfl) (Eff.alloc (z := (.agg (oc ⟨0,m0,c0,t0⟩).toArray)) rfl (by kernel_rfl)) (fun _ _ => (.cons _ (.cons _ (.cons_cons _ (.cons_cons _ (.cons_cons _ (.cons_cons _ (List.nil_sublist _)))))))) ?_
            rintro o10 ⟨ho10,no10⟩
            exact CfgA.to (IH (some xa,none,none,none,none,some o10,none,some o12) ⟨hxa,trivial,trivial,nofun,nofun,nofun,trivial⟩ (lt4 (by kernel_rfl))) (by kernel_rfl) (by kernel_rfl) (.refl _) (Conv.mk (by kernel_rfl))
           ·
            refine CfgI.eff (o := _) rfl (by kernel_rfl) (by kernel_rfl) (Eff.alloc (z := (.agg (oc ⟨0,m0,c0,t0⟩).toArray)) rfl (by kernel_rfl)) (fun _ _ => (.cons _ (.cons _ (.cons_cons _ (.cons_cons _ (.cons_cons _ (.cons_cons _ (List.nil_sublist _)))))))) ?_
            rintro o11 ⟨ho11,no11⟩
            exact CfgA.to (IH (some xa,none,none,none,none,none,some o11,some o12) ⟨hxa,trivial,trivial,nofun,nofun,nofun,trivial⟩ (lt4 (by kernel_rfl))) (by kernel_rfl) (by kernel_rfl) (.refl _) (Conv.mk (by kernel_rfl))
         ·
          rcases oo11 with _ | o12
          ·
           have hxa : MOk xa m := pp1
           refine CfgA.to (l' := #[true,true,true,false,true,false,true,false,false,false,true,false,false,false,false,false]) (fuel' := 10) (O' := ([(o11,zob),(tb,tob t),(cb,cob c),(nb,mob n),(mb,mob m)] ++ (memMO xa m ++ []))) (Γ' := [(44,[],.agg (oc (oA xa m)).toArray),(11,[],.pointer (some ⟨o11,0,none⟩)),(49,[],.agg (tc t).toArray),(47,[],.agg (cc c).toArray),(45,[],.agg (mc n).toArray),(43,[],.agg (mc m).toArray),(7,[],.pointer (some ⟨tb,0,none⟩)),(6,[],.pointer (some ⟨cb,0,none⟩)),(5,[],.pointer (some ⟨nb,0,none⟩)),(4,[],.pointer (some ⟨mb,0,none⟩))]) ?_ (by kernel_rfl) (by kernel_rfl) (List.Perm.refl _) (Conv.mk (by kernel_rfl))
           refine CfgA.many [3,8,9,11] (by kernel_rfl) (by decide) (fuel' := 9) (by kernel_rfl) ⟨?_,?_,?_,?_,trivial⟩
           ·
            refine CfgI.eff (o := _) rfl (by kernel_rfl) (by kernel_rfl) (Eff.callH (vs := [.agg (mc n).toArray]) (fun x : MO => .agg (oc (oA x n)).toArray) [] (fun x => memMO x n) (fun x => MOk x n) [(o11,zob),(tb,tob t),(cb,cob c),(nb,mob n),(mb,mob m)] (memMO xa m ++ []) rfl rfl Tryz.func18 rfl rfl (by kernel_rfl) (fun w1 h _ _ => oMap n Rl w1 hN (h.hasR (fun e he => List.mem_cons_of_mem _ he)))) (fun _ _ => (.cons _ (.cons_cons _ (.cons_cons _ (.cons_cons _ (.cons_cons _ (List.nil_sublist _))))))) ?_
            rintro xb hxb
            exact CfgA.to (IH (some xa,some xb,none,none,none,none,some o11,none) ⟨hxa,hxb,trivial,(fun _ => rfl),nofun,nofun,trivial⟩ (lt4 (by kernel_rfl))) (by kernel_rfl) (by kernel_rfl) (.refl _) (Conv.mk (by kernel_rfl))
           ·
            refine CfgI.eff (o := _) rfl (by kernel_rfl) (by kernel_rfl) (Eff.alloc (z := (.agg (oc ⟨0,m0,c0,t0⟩).toArray)) rfl (by kernel_rfl)) (fun _ _ => (.cons _ (.cons _ (.cons_cons _ (.cons_cons _ (.cons_cons _ (.cons_cons _ (List.nil_sublist _)))))))) ?_
            rintro o9 ⟨ho9,no9⟩
            exact CfgA.to (IH (some xa,none,none,none,some o9,none,some o11,none) ⟨hxa,trivial,trivial,nofun,nofun,nofun,trivial⟩ (lt4 (by kernel_rfl))) (by kernel_rfl) (by kernel_rfl) (.refl _) (Conv.mk (by kernel_rfl))
           ·
            refine CfgI.eff (o := _) rfl (by kernel_rfl) (by kernel_rfl) (Eff.alloc (z := (.agg (oc ⟨0,m0,c0,t0⟩).toArray)) rfl (by kernel_rfl)) (fun _ _ => (.cons _ (.cons _ (.cons_cons _ (.cons_cons _ (.cons_cons _ (.cons_cons _ (List.nil_sublist _)))))))) ?_
            rintro o10 ⟨ho10,no10⟩
            exact CfgA.to (IH (some xa,none,none,none,none,some o10,some o11,none) ⟨hxa,trivial,trivial,nofun,nofun,nofun,trivial⟩ (lt4 (by kernel_rfl))) (by kernel_rfl) (by kernel_rfl) (.refl _) (Conv.mk (by kernel_rfl))
           ·
            refine CfgI.eff (o := _) rfl (by kernel_rfl) (by kernel_rfl) (Eff.alloc (z := (.agg (oc ⟨0,m0,c0,t0⟩).toArray)) rfl (by kernel_rfl)) (fun _ _ => (.cons _ (.cons _ (.cons_cons _ (.cons_cons _ (.cons_cons _ (.cons_cons _ (List.nil_sublist _)))))))) ?_
            rintro o12 ⟨ho12,no12⟩
            exact CfgA.to (IH (some xa,none,none,none,none,none,some o11,some o12) ⟨hxa,trivial,trivial,nofun,nofun,nofun,trivial⟩ (lt4 (by kernel_rfl))) (by kernel_rfl) (by kernel_rfl) (pmid (l₁ := [(o11,zob)])) (Conv.mk (by kernel_rfl))
          ·
           have hxa : MOk xa m := pp1
           refine CfgA.to (l' := #[true,true,true,false,true,false,true,false,false,false,true,true,false,false,false,false]) (fuel' := 9) (O' := ([(o11,zob),(o12,zob),(tb,tob t),(cb,cob c),(nb,mob n),(mb,mob m)] ++ (memMO xa m ++ []))) (Γ' := [(44,[],.agg (oc (oA xa m)).toArray),(11,[],.pointer (some ⟨o11,0,none⟩)),(12,[],.pointer (some ⟨o12,0,none⟩)),(49,[],.agg (tc t).toArray),(47,[],.agg (cc c).toArray),(45,[],.agg (mc n).toArray),(43,[],.agg (mc m).toArray),(7,[],.pointer (some ⟨tb,0,none⟩)),(6,[],.pointer (some ⟨cb,0,none⟩)),(5,[],.pointer (some ⟨nb,0,none⟩)),(4,[],.pointer (some ⟨mb,0,none⟩))]) ?_ (by kernel_rfl) (by kernel_rfl) (List.Perm.refl _) (Conv.mk (by kernel_rfl))
           refine CfgA.many [3,8,9] (by kernel_rfl) (by decide) (fuel' := 8) (by kernel_rfl) ⟨?_,?_,?_,trivial⟩
           ·
            refine CfgI.eff (o := _) rfl (by kernel_rfl) (by kernel_rfl) (Eff.callH (vs := [.agg (mc n).toArray]) (fun x : MO => .agg (oc (oA x n)).toArray) [] (fun x => memMO x n) (fun x => MOk x n) [(o11,zob),(o12,zob),(tb,tob t),(cb,cob c),(nb,mob n),(mb,mob m)] (memMO xa m ++ []) rfl rfl Tryz.func18 rfl rfl (by kernel_rfl) (fun w1 h _ _ => oMap n Rl w1 hN (h.hasR (fun e he => List.mem_cons_of_mem _ he)))) (fun _ _ => (.cons _ (.cons _ (.cons_cons _ (.cons_cons _ (.cons_cons _ (.cons_cons _ (List.nil_sublist _)))))))) ?_
            rintro xb hxb
            exact CfgA.to (IH (some xa,some xb,none,none,none,none,some o11,some o12) ⟨hxa,hxb,trivial,(fun _ => rfl),nofun,nofun,trivial⟩ (lt4 (by kernel_rfl))) (by kernel_rfl) (by kernel_rfl) (.refl _) (Conv.mk (by kernel_rfl))
           ·
            refine CfgI.eff (o := _) rfl (by kernel_rfl) (by kernel_rfl) (Eff.alloc (z := (.agg (oc ⟨0,m0,c0,t0⟩).toArray)) rfl (by kernel_rfl)) (fun _ _ => (.cons _ (.cons _ (.cons _ (.cons_cons _ (.cons_cons _ (.cons_cons _ (.cons_cons _ (List.nil_sublist _))))))))) ?_
            rintro o9 ⟨ho9,no9⟩
            exact CfgA.to (IH (some xa,none,none,none,some o9,none,some o11,some o12) ⟨hxa,trivial,trivial,nofun,nofun,nofun,trivial⟩ (lt4 (by kernel_rfl))) (by kernel_rfl) (by kernel_rfl) (.refl _) (Conv.mk (by kernel_rfl))
           ·
            refine CfgI.eff (o := _) rfl (by kernel_rfl) (by kernel_rfl) (Eff.alloc (z := (.agg (oc ⟨0,m0,c0,t0⟩).toArray)) rfl (by kernel_rfl)) (fun _ _ => (.cons _ (.cons _ (.cons _ (.cons_cons _ (.cons_cons _ (.cons_cons _ (.cons_cons _ (List.nil_sublist _))))))))) ?_
            rintro o10 ⟨ho10,no10⟩
            exact CfgA.to (IH (some xa,none,none,none,none,some o10,some o11,some o12) ⟨hxa,trivial,trivial,nofun,nofun,nofun,trivial⟩ (lt4 (by kernel_rfl))) (by kernel_rfl) (by kernel_rfl) (.refl _) (Conv.mk (by kernel_rfl))
        ·
         rcases oo10 with _ | o11
         ·
          rcases oo11 with _ | o12
          ·
           have hxa : MOk xa m := pp1
           refine CfgA.to (l' := #[true,true,true,false,true,false,true,false,false,true,false,false,false,false,false,false]) (fuel' := 10) (O' := ([(o10,zob),(tb,tob t),(cb,cob c),(nb,mob n),(mb,mob m)] ++ (memMO xa m ++ []))) (Γ' := [(44,[],.agg (oc (oA xa m)).toArray),(10,[],.pointer (some ⟨o10,0,none⟩)),(49,[],.agg (tc t).toArray),(47,[],.agg (cc c).toArray),(45,[],.agg (mc n).toArray),(43,[],.agg (mc m).toArray),(7,[],.pointer (some ⟨tb,0,none⟩)),(6,[],.pointer (some ⟨cb,0,none⟩)),(5,[],.pointer (some ⟨nb,0,none⟩)),(4,[],.pointer (some ⟨mb,0,none⟩))]) ?_ (by kernel_rfl) (by kernel_rfl) (List.Perm.refl _) (Conv.mk (by kernel_rfl))
           refine CfgA.many [3,8,10,11] (by kernel_rfl) (by decide) (fuel' := 9) (by kernel_rfl) ⟨?_,?_,?_,?_,trivial⟩
           ·
            refine CfgI.eff (o := _) rfl (by kernel_rfl) (by kernel_rfl) (Eff.callH (vs := [.agg (mc n).toArray]) (fun x : MO => .agg (oc (oA x n)).toArray) [] (fun x => memMO x n) (fun x => MOk x n) [(o10,zob),(tb,tob t),(cb,cob c),(nb,mob n),(mb,mob m)] (memMO xa m ++ []) rfl rfl Tryz.func18 rfl rfl (by kernel_rfl) (fun w1 h _ _ => oMap n Rl w1 hN (h.hasR (fun e he => List.mem_cons_of_mem _ he)))) (fun _ _ => (.cons _ (.cons_cons _ (.cons_cons _ (.cons_cons _ (.cons_cons _ (List.nil_sublist _))))))) ?_
            rintro xb hxb
            exact CfgA.to (IH (some xa,some xb,none,none,none,some o10,none,none) ⟨hxa,hxb,trivial,(fun _ => rfl),nofun,nofun,trivial⟩ (lt4 (by kernel_rfl))) (by kernel_rfl) (by kernel_rfl) (.refl _) (Conv.mk (by kernel_rfl))
           ·
            refine CfgI.eff (o := _) rfl (by kernel_rfl) (by kernel_rfl) (Eff.alloc (z := (.agg (oc ⟨0,m0,c0,t0⟩).toArray)) rfl (by kernel_rfl)) (fun _ _ => (.cons _ (.cons _ (.cons_cons _ (.cons_cons _ (.cons_cons _ (.cons_cons _ (List.nil_sublist _)))))))) ?_
            rintro o9 ⟨ho9,no9⟩
            exact CfgA.to (IH (some xa,none,none,none,some o9,some o10,none,none) ⟨hxa,trivial,trivial,nofun,nofun,nofun,trivial⟩ (lt4 (by kernel_rfl))) (by kernel_rfl) (by kernel_rfl) (.refl _) (Conv.mk (by kernel_rfl))
           ·
            refine CfgI.eff (o := _) rfl (by kernel_rfl) (by kernel_rfl) (Eff.alloc (z := (.agg (oc ⟨0,m0,c0,t0⟩).toArray)) rfl (by kernel_rfl)) (fun _ _ => (.cons _ (.cons _ (.cons_cons _ (.cons_cons _ (.cons_cons _ (.cons_cons _ (List.nil_sublist _)))))))) ?_
            rintro o11 ⟨ho11,no11⟩
            exact CfgA.to (IH (some xa,none,none,none,none,some o10,some o11,none) ⟨hxa,trivial,trivial,nofun,nofun,nofun,trivial⟩ (lt4 (by kernel_rfl))) (by kernel_rfl) (by kernel_rfl) (pmid (l₁ := [(o10,zob)])) (Conv.mk (by kernel_rfl))
           ·
            refine CfgI.eff (o := _) rfl (by kernel_rfl) (by kernel_rfl) (Eff.alloc (z := (.agg (oc ⟨0,m0,c0,t0⟩).toArray)) rfl (by kernel_rfl)) (fun _ _ => (.cons _ (.cons _ (.cons_cons _ (.cons_cons _ (.cons_cons _ (.cons_cons _ (List.nil_sublist _)))))))) ?_
            rintro o12 ⟨ho12,no12⟩
            exact CfgA.to (IH (some xa,none,none,none,none,some o10,none,some o12) ⟨hxa,trivial,trivial,nofun,nofun,nofun,trivial⟩ (lt4 (by kernel_rfl))) (by kernel_rfl) (by kernel_rfl) (pmid (l₁ := [(o10,zob)])) (Conv.mk (by kernel_rfl))
          ·
           have hxa : MOk xa m := pp1
           refine CfgA.to (l' := #[true,true,true,false,true,false,true,false,false,true,false,true,false,false,false,false]) (fuel' := 9) (O' := ([(o10,zob),(o12,zob),(tb,tob t),(cb,cob c),(nb,mob n),(mb,mob m)] ++ (memMO xa m ++ []))) (Γ' := [(44,[],.agg (oc (oA xa m)).toArray),(10,[],.pointer (some ⟨o10,0,none⟩)),(12,[],.pointer (some ⟨o12,0,none⟩)),(49,[],.agg (tc t).toArray),(47,[],.agg (cc c).toArray),(45,[],.agg (mc n).toArray),(43,[],.agg (mc m).toArray),(7,[],.pointer (some ⟨tb,0,none⟩)),(6,[],.pointer (some ⟨cb,0,none⟩)),(5,[],.pointer (some ⟨nb,0,none⟩)),(4,[],.pointer (some ⟨mb,0,none⟩))]) ?_ (by kernel_rfl) (by kernel_rfl) (List.Perm.refl _) (Conv.mk (by kernel_rfl))
           refine CfgA.many [3,8,10] (by kernel_rfl) (by decide) (fuel' := 8) (by kernel_rfl) ⟨?_,?_,?_,trivial⟩
           ·
            refine CfgI.eff (o := _) rfl (by kernel_rfl) (by kernel_rfl) (Eff.callH (vs := [.agg (mc n).toArray]) (fun x : MO => .agg (oc (oA x n)).toArray) [] (fun x => memMO x n) (fun x => MOk x n) [(o10,zob),(o12,zob),(tb,tob t),(cb,cob c),(nb,mob n),(mb,mob m)] (memMO xa m ++ []) rfl rfl Tryz.func18 rfl rfl (by kernel_rfl) (fun w1 h _ _ => oMap n Rl w1 hN (h.hasR (fun e he => List.mem_cons_of_mem _ he)))) (fun _ _ => (.cons _ (.cons _ (.cons_cons _ (.cons_cons _ (.cons_cons _ (.cons_cons _ (List.nil_sublist _)))))))) ?_
            rintro xb hxb
            exact CfgA.to (IH (some xa,some xb,none,none,none,some o10,none,some o12) ⟨hxa,hxb,trivial,(fun _ => rfl),nofun,nofun,trivial⟩ (lt4 (by kernel_rfl))) (by kernel_rfl) (by kernel_rfl) (.refl _) (Conv.mk (by kernel_rfl))
           ·
            refine CfgI.eff (o := _) rfl (by kernel_rfl) (by kernel_rfl) (Eff.alloc (z := (.agg (oc ⟨0,m0,c0,t0⟩).toArray)) rfl (by kernel_rfl)) (fun _ _ => (.cons _ (.cons _ (.cons _ (.cons_cons _ (.cons_cons _ (.cons_cons _ (.cons_cons _ (List.nil_sublist _))))))))) ?_
            rintro o9 ⟨ho9,no9⟩
            exact CfgA.to (IH (some xa,none,none,none,some o9,some o10,none,some o12) ⟨hxa,trivial,trivial,nofun,nofun,nofun,trivial⟩ (lt4 (by kernel_rfl))) (by kernel_rfl) (by kernel_rfl) (.refl _) (Conv.mk (by kernel_rfl))
           ·
            refine CfgI.eff (o := _) rfl (by kernel_rfl) (by kernel_rfl) (Eff.alloc (z := (.agg (oc ⟨0,m0,c0,t0⟩).toArray)) rfl (by kernel_rfl)) (fun _ _ => (.cons _ (.cons _ (.cons _ (.cons_cons _ (.cons_cons _ (.cons_cons _ (.cons_cons _ (List.nil_sublist _))))))))) ?_
            rintro o11 ⟨ho11,no11⟩
            exact CfgA.to (IH (some xa,none,none,none,none,some o10,some o11,some o12) ⟨hxa,trivial,trivial,nofun,nofun,nofun,trivial⟩ (lt4 (by kernel_rfl))) (by kernel_rfl) (by kernel_rfl) (pmid (l₁ := [(o10,zob)])) (Conv.mk (by kernel_rfl))
         ·
          rcases oo11 with _ | o12
          ·
           have hxa : MOk xa m := pp1
           refine CfgA.to (l' := #[true,true,true,false,true,false,true,false,false,true,true,false,false,false,false,false]) (fuel' := 9) (O' := ([(o10,zob),(o11,zob),(tb,tob t),(cb,cob c),(nb,mob n),(mb,mob m)] ++ (memMO xa m ++ []))) (Γ' := [(44,[],.agg (oc (oA xa m)).toArray),(10,[],.pointer (some ⟨o10,0,none⟩)),(11,[],.pointer (some ⟨o11,0,none⟩)),(49,[],.agg (tc t).toArray),(47,[],.agg (cc c).toArray),(45,[],.agg (mc n).toArray),(43,[],.agg (mc m).toArray),(7,[],.pointer (some ⟨tb,0,none⟩)),(6,[],.pointer (some ⟨cb,0,none⟩)),(5,[],.pointer (some ⟨nb,0,none⟩)),(4,[],.pointer (some ⟨mb,0,none⟩))]) ?_ (by kernel_rfl) (by kernel_rfl) (List.Perm.refl _) (Conv.mk (by kernel_rfl))
           refine CfgA.many [3,8,11] (by kernel_rfl) (by decide) (fuel' := 8) (by kernel_rfl) ⟨?_,?_,?_,trivial⟩
           ·
            refine CfgI.eff (o := _) rfl (by kernel_rfl) (by kernel_rfl) (Eff.callH (vs := [.agg (mc n).toArray]) (fun x : MO => .agg (oc (oA x n)).toArray) [] (fun x => memMO x n) (fun x => MOk x n) [(o10,zob),(o11,zob),(tb,tob t),(cb,cob c),(nb,mob n),(mb,mob m)] (memMO xa m ++ []) rfl rfl Tryz.func18 rfl rfl (by kernel_rfl) (fun w1 h _ _ => oMap n Rl w1 hN (h.hasR (fun e he => List.mem_cons_of_mem _ he)))) (fun _ _ => (.cons _ (.cons _ (.cons_cons _ (.cons_cons _ (.cons_cons _ (.cons_cons _ (List.nil_sublist _)))))))) ?_
            rintro xb hxb
            exact CfgA.to (IH (some xa,some xb,none,none,none,some o10,some o11,none) ⟨hxa,hxb,trivial,(fun _ => rfl),nofun,nofun,trivial⟩ (lt4 (by kernel_rfl))) (by kernel_rfl) (by kernel_rfl) (.refl _) (Conv.mk (by kernel_rfl))
           ·
            refine CfgI.eff (o := _) rfl (by kernel_rfl) (by kernel_rfl) (Eff.alloc (z := (.agg (oc ⟨0,m0,c0,t0⟩).toArray)) rfl (by kernel_rfl)) (fun _ _ => (.cons _ (.cons _ (.cons _ (.cons_cons _ (.cons_cons _ (.cons_cons _ (.cons_cons _ (List.nil_sublist _))))))))) ?_
            rintro o9 ⟨ho9,no9⟩
            exact CfgA.to (IH (some xa,none,none,none,some o9,some o10,some o11,none) ⟨hxa,trivial,trivial,nofun,nofun,nofun,trivial⟩ (lt4 (by kernel_rfl))) (by kernel_rfl) (by kernel_rfl) (.refl _) (Conv.mk (by kernel_rfl))
           ·
            refine CfgI.eff (o := _) rfl (by kernel_rfl) (by kernel_rfl) (Eff.alloc (z := (.agg (oc ⟨0,m0,c0,t0⟩).toArray)) rfl (by kernel_rfl)) (fun _ _ => (.cons _ (.cons _ (.cons _ (.cons_cons _ (.cons_cons _ (.cons_cons _ (.cons_cons _ (List.nil_sublist _))))))))) ?_
            rintro o12 ⟨ho12,no12⟩
            exact CfgA.to (IH (some xa,none,none,none,none,some o10,some o11,some o12) ⟨hxa,trivial,trivial,nofun,nofun,nofun,trivial⟩ (lt4 (by kernel_rfl))) (by kernel_rfl) (by kernel_rfl) (pmid (l₁ := [(o10,zob),(o11,zob)])) (Conv.mk (by kernel_rfl))
          ·
           have hxa : MOk xa m := pp1
           refine CfgA.to (l' := #[true,true,true,false,true,false,true,false,false,true,true,true,false,false,false,false]) (fuel' := 8) (O' := ([(o10,zob),(o11,zob),(o12,zob),(tb,tob t),(cb,cob c),(nb,mob n),(mb,mob m)] ++ (memMO xa m ++ []))) (Γ' := [(44,[],.agg (oc (oA xa m)).toArray),(10,[],.pointer (some ⟨o10,0,none⟩)),(11,[],.pointer (some ⟨o11,0,none⟩)),(12,[],.pointer (some ⟨o12,0,none⟩)),(49,[],.agg (tc t).toArray),(47,[],.agg (cc c).toArray),(45,[],.agg (mc n).toArray),(43,[],.agg (mc m).toArray),(7,[],.pointer (some ⟨tb,0,none⟩)),(6,[],.pointer (some ⟨cb,0,none⟩)),(5,[],.pointer (some ⟨nb,0,none⟩)),(4,[],.pointer (some ⟨mb,0,none⟩))]) ?_ (by kernel_rfl) (by kernel_rfl) (List.Perm.refl _) (Conv.mk (by kernel_rfl))
           refine CfgA.many [3,8] (by kernel_rfl) (by decide) (fuel' := 7) (by kernel_rfl) ⟨?_,?_,trivial⟩
           ·
            refine CfgI.eff (o := _) rfl (by kernel_rfl) (by kernel_rfl) (Eff.callH (vs := [.agg (mc n).toArray]) (fun x : MO => .agg (oc (oA x n)).toArray) [] (fun x => memMO x n) (fun x => MOk x n) [(o10,zob),(o11,zob),(o12,zob),(tb,tob t),(cb,cob c),(nb,mob n),(mb,mob m)] (memMO xa m ++ []) rfl rfl Tryz.func18 rfl rfl (by kernel_rfl) (fun w1 h _ _ => oMap n Rl w1 hN (h.hasR (fun e he => List.mem_cons_of_mem _ he)))) (fun _ _ => (.cons _ (.cons _ (.cons _ (.cons_cons _ (.cons_cons _ (.cons_cons _ (.cons_cons _ (List.nil_sublist _))))))))) ?_
            rintro xb hxb
            exact CfgA.to (IH (some xa,some xb,none,none,none,some o10,some o11,some o12) ⟨hxa,hxb,trivial,(fun _ => rfl),nofun,nofun,trivial⟩ (lt4 (by kernel_rfl))) (by kernel_rfl) (by kernel_rfl) (.refl _) (Conv.mk (by kernel_rfl))
           ·
            refine CfgI.eff (o := _) rfl (by kernel_rfl) (by kernel_rfl) (Eff.alloc (z := (.agg (oc ⟨0,m0,c0,t0⟩).toArray)) rfl (by kernel_rfl)) (fun _ _ => (.cons _ (.cons _ (.cons _ (.cons _ (.cons_cons _ (.cons_cons _ (.cons_cons _ (.cons_cons _ (List.nil_sublist _)))))))))) ?_
            rintro o9 ⟨ho9,no9⟩
            exact CfgA.to (IH (some xa,none,none,none,some o9,some o10,some o11,some o12) ⟨hxa,trivial,trivial,nofun,nofun,nofun,trivial⟩ (lt4 (by kernel_rfl))) (by kernel_rfl) (by kernel_rfl) (.refl _) (Conv.mk (by kernel_rfl))
       ·
        rcases oo9 with _ | o10
        ·
         rcases oo10 with _ | o11
         ·
          rcases oo11 with _ | o12
          ·
           have hxa : MOk xa m := pp1
           refine CfgA.to (l' := #[true,true,true,false,true,false,true,false,true,false,false,false,false,false,false,false]) (fuel' := 10) (O' := ([(o9,zob),(tb,tob t),(cb,cob c),(nb,mob n),(mb,mob m)] ++ (memMO xa m ++ []))) (Γ' := [(44,[],.agg (oc (oA xa m)).toArray),(9,[],.pointer (some ⟨o9,0,none⟩)),(49,[],.agg (tc t).toArray),(47,[],.agg (cc c).toArray),(45,[],.agg (mc n).toArray),(43,[],.agg (mc m).toArray),(7,[],.pointer (some ⟨tb,0,none⟩)),(6,[],.pointer (some ⟨cb,0,none⟩)),(5,[],.pointer (some ⟨nb,0,none⟩)),(4,[],.pointer (some ⟨mb,0,none⟩))]) ?_ (by kernel_rfl) (by kernel_rfl) (List.Perm.refl _) (Conv.mk (by kernel_rfl))
           refine CfgA.many [3,9,10,11] (by kernel_rfl) (by decide) (fuel' := 9) (by kernel_rfl) ⟨?_,?_,?_,?_,trivial⟩
           ·
            refine CfgI.eff (o := _) rfl (by kernel_rfl) (by kernel_rfl) (Eff.callH (vs := [.agg (mc n).toArray]) (fun x : MO => .agg (oc (oA x n)).toArray) [] (fun x => memMO x n) (fun x => MOk x n) [(o9,zob),(tb,tob t),(cb,cob c),(nb,mob n),(mb,mob m)] (memMO xa m ++ []) rfl rfl Tryz.func18 rfl rfl (by kernel_rfl) (fun w1 h _ _ => oMap n Rl w1 hN (h.hasR (fun e he => List.mem_cons_of_mem _ he)))) (fun _ _ => (.cons _ (.cons_cons _ (.cons_cons _ (.cons_cons _ (.cons_cons _ (List.nil_sublist _))))))) ?_
            rintro xb hxb
            exact CfgA.to (IH (some xa,some xb,none,none,some o9,none,none,none) ⟨hxa,hxb,trivial,(fun _ => rfl),nofun,nofun,trivial⟩ (lt4 (by kernel_rfl))) (by kernel_rfl) (by kernel_rfl) (.refl _) (Conv.mk (by kernel_rfl))
           ·
            refine CfgI.eff (o := _) rfl (by kernel_rfl) (by kernel_rfl) (Eff.alloc (z := (.agg (oc ⟨0,m0,c0,t0⟩).toArray)) rfl (by kernel_rfl)) (fun _ _ => (.cons _ (.cons _ (.cons_cons _ (.cons_cons _ (.cons_cons _ (.cons_cons _ (List.nil_sublist _)))))))) ?_
            rintro o10 ⟨ho10,no10⟩
            exact CfgA.to (IH (some xa,none,none,none,some o9,some o10,none,none) ⟨hxa,trivial,trivial,nofun,nofun,nofun,trivial⟩ (lt4 (by kernel_rfl))) (by kernel_rfl) (by kernel_rfl) (pmid (l₁ := [(o9,zob)])) (Conv.mk (by kernel_rfl))
           ·
            refine CfgI.eff (o := _) rfl (by kernel_rfl) (by kernel_rfl) (Eff.alloc (z := (.agg (oc ⟨0,m0,c0,t0⟩).toArray)) rfl (by kernel_rfl)) (fun _ _ => (.cons _ (.cons _ (.cons_cons _ (.cons_cons _ (.cons_cons _ (.cons_cons _ (List.nil_sublist _)))))))) ?_
            rintro o11 ⟨ho11,no11⟩
            exact CfgA.to (IH (some xa,none,none,none,some o9,none,some o11,none) ⟨hxa,trivial,trivial,nofun,nofun,nofun,trivial⟩ (lt4 (by kernel_rfl))) (by kernel_rfl) (by kernel_rfl) (pmid (l₁ := [(o9,zob)])) (Conv.mk (by kernel_rfl))
           ·
            refine CfgI.eff (o := _) rfl (by kernel_rfl) (by kernel_rfl) (Eff.alloc (z := (.agg (oc ⟨0,m0,c0,t0⟩).toArray)) rfl (by kernel_rfl)) (fun _ _ => (.cons _ (.cons _ (.cons_cons _ (.cons_cons _ (.cons_cons _ (.cons_cons _ (List.nil_sublist _)))))))) ?_
            rintro o12 ⟨ho12,no12⟩
            exact CfgA.to (IH (some xa,none,none,none,some o9,none,none,some o12) ⟨hxa,trivial,trivial,nofun,nofun,nofun,trivial⟩ (lt4 (by kernel_rfl))) (by kernel_rfl) (by kernel_rfl) (pmid (l₁ := [(o9,zob)])) (Conv.mk (by kernel_rfl))
          ·
           have hxa : MOk xa m := pp1
           refine CfgA.to (l' := #[true,true,true,false,true,false,true,false,true,false,false,true,false,false,false,false]) (fuel' := 9) (O' := ([(o9,zob),(o12,zob),(tb,tob t),(cb,cob c),(nb,mob n),(mb,mob m)] ++ (memMO xa m ++ []))) (Γ' := [(44,[],.agg (oc (oA xa m)).toArray),(9,[],.pointer (some ⟨o9,0,none⟩)),(12,[],.pointer (some ⟨o12,0,none⟩)),(49,[],.agg (tc t).toArray),(47,[],.agg (cc c).toArray),(45,[],.agg (mc n).toArray),(43,[],.agg (mc m).toArray),(7,[],.pointer (some ⟨tb,0,none⟩)),(6,[],.pointer (some ⟨cb,0,none⟩)),(5,[],.pointer (some ⟨nb,0,none⟩)),(4,[],.pointer (some ⟨mb,0,none⟩))]) ?_ (by kernel_rfl) (by kernel_rfl) (List.Perm.refl _) (Conv.mk (by kernel_rfl))
           refine CfgA.many [3,9,10] (by kernel_rfl) (by decide) (fuel' := 8) (by kernel_rfl) ⟨?_,?_,?_,trivial⟩
           ·
            refine CfgI.eff (o := _) rfl (by kernel_rfl) (by kernel_rfl) (Eff.callH (vs := [.agg (mc n).toArray]) (fun x : MO => .agg (oc (oA x n)).toArray) [] (fun x => memMO x n) (fun x => MOk x n) [(o9,zob),(o12,zob),(tb,tob t),(cb,cob c),(nb,mob n),(mb,mob m)] (memMO xa m ++ []) rfl rfl Tryz.func18 rfl rfl (by kernel_rfl) (fun w1 h _ _ => oMap n Rl w1 hN (h.hasR (fun e he => List.mem_cons_of_mem _ he)))) (fun _ _ => (.cons _ (.cons _ (.cons_cons _ (.cons_cons _ (.cons_cons _ (.cons_cons _ (List.nil_sublist _)))))))) ?_
            rintro xb hxb
            exact CfgA.to (IH (some xa,some xb,none,none,some o9,none,none,some o12) ⟨hxa,hxb,trivial,(fun _ => rfl),nofun,nofun,trivial⟩ (lt4 (by kernel_rfl))) (by kernel_rfl) (by kernel_rfl) (.refl _) (Conv.mk (by kernel_rfl))
           ·
            refine CfgI.eff (o := _) rfl (by kernel_rfl) (by kernel_rfl) (Eff.alloc (z := (.agg (oc ⟨0,m0,c0,t0⟩).toArray)) rfl (by kernel_rfl)) (fun _ _ => (.cons _ (.cons _ (.cons _ (.cons_cons _ (.cons_cons _ (.cons_cons _ (.cons_cons _ (List.nil_sublist _))))))))) ?_
            rintro o10 ⟨ho10,no10⟩
            exact CfgA.to (IH (some xa,none,none,none,some o9,some o10,none,some o12) ⟨hxa,trivial,trivial,nofun,nofun,nofun,trivial⟩ (lt4 (by kernel_rfl))) (by kernel_rfl) (by kernel_rfl) (pmid (l₁ := [(o9,zob)])) (Conv.mk (by kernel_rfl))
           ·
            refine CfgI.eff (o := _) rfl (by kernel_rfl) (by kernel_rfl) (Eff.alloc (z := (.agg (oc ⟨0,m0,c0,t0⟩).toArray)) rfl (by kernel_rfl)) (fun _ _ => (.cons _ (.cons _ (.cons _ (.cons_cons _ (.cons_cons _ (.cons_cons _ (.cons_cons _ (List.nil_sublist _))))))))) ?_
            rintro o11 ⟨ho11,no11⟩
            exact CfgA.to (IH (some xa,none,none,none,some o9,none,some o11,some o12) ⟨hxa,trivial,trivial,nofun,nofun,nofun,trivial⟩ (lt4 (by kernel_rfl))) (by kernel_rfl) (by kernel_rfl) (pmid (l₁ := [(o9,zob)])) (Conv.mk (by kernel_rfl))
         ·
          rcases oo11 with _ | o12
          ·
           have hxa : MOk xa m := pp1
           refine CfgA.to (l' := #[true,true,true,false,true,false,true,false,true,false,true,false,false,false,false,false]) (fuel' := 9) (O' := ([(o9,zob),(o11,zob),(tb,tob t),(cb,cob c),(nb,mob n),(mb,mob m)] ++ (memMO xa m ++ []))) (Γ' := [(44,[],.agg (oc (oA xa m)).toArray),(9,[],.pointer (some ⟨o9,0,none⟩)),(11,[],.pointer (some ⟨o11,0,none⟩)),(49,[],.agg (tc t).toArray),(47,[],.agg (cc c).toArray),(45,[],.agg (mc n).toArray),(43,[],.agg (mc m).toArray),(7,[],.pointer (some ⟨tb,0,none⟩)),(6,[],.pointer (some ⟨cb,0,none⟩)),(5,[],.pointer (some ⟨nb,0,none⟩)),(4,[],.pointer (some ⟨mb,0,none⟩))]) ?_ (by kernel_rfl) (by kernel_rfl) (List.Perm.refl _) (Conv.mk (by kernel_rfl))
           refine CfgA.many [3,9,11] (by kernel_rfl) (by decide) (fuel' := 8) (by kernel_rfl) ⟨?_,?_,?_,trivial⟩
           ·
            refine CfgI.eff (o := _) rfl (by kernel_rfl) (by kernel_rfl) (Eff.callH (vs := [.agg (mc n).toArray]) (fun x : MO => .agg (oc (oA x n)).toArray) [] (fun x => memMO x n) (fun x => MOk x n) [(o9,zob),(o11,zob),(tb,tob t),(cb,cob c),(nb,mob n),(mb,mob m)] (memMO xa m ++ []) rfl rfl Tryz.func18 rfl rfl (by kernel_rfl) (fun w1 h _ _ => oMap n Rl w1 hN (h.hasR (fun e he => List.mem_cons_of_mem _ he)))) (fun _ _ => (.cons _ (.cons _ (.cons_cons _ (.cons_cons _ (.cons_cons _ (.cons_cons _ (List.nil_sublist _)))))))) ?_
            rintro xb hxb
            exact CfgA.to (IH (some xa,some xb,none,none,some o9,none,some o11,none) ⟨hxa,hxb,trivial,(fun _ => rfl),nofun,nofun,trivial⟩ (lt4 (by kernel_rfl))) (by kernel_rfl) (by kernel_rfl) (.refl _) (Conv.mk (by kernel_rfl))
           ·
            refine CfgI.eff (o := _) rfl (by kernel_rfl) (by kernel_rfl) (Eff.alloc (z := (.agg (oc ⟨0,m0,c0,t0⟩).toArray)) rfl (by kernel_rfl)) (fun _ _ => (.cons _ (.cons _ (.cons _ (.cons_cons _ (.cons_cons _ (.cons_cons _ (.cons_cons _ (List.nil_sublist _))))))))) ?_
            rintro o10 ⟨ho10,no10⟩
            exact CfgA.to (IH (some xa,none,none,none,some o9,some o10,some o11,none) ⟨hxa,trivial,trivial,nofun,nofun,nofun,trivial⟩ (lt4 (by kernel_rfl))) (by kernel_rfl) (by kernel_rfl) (pmid (l₁ := [(o9,zob)])) (Conv.mk (by kernel_rfl))
           ·
            refine CfgI.eff (o := _) rfl (by kernel_rfl) (by kernel_rfl) (Eff.alloc (z := (.agg (oc ⟨0,m0,c0,t0⟩).toArray)) rfl (by kernel_rfl)) (fun _ _ => (.cons _ (.cons _ (.cons _ (.cons_cons _ (.cons_cons _ (.cons_cons _ (.cons_cons _ (List.nil_sublist _))))))))) ?_
            rintro o12 ⟨ho12,no12⟩
            exact CfgA.to (IH (some xa,none,none,none,some o9,none,some o11,some o12) ⟨hxa,trivial,trivial,nofun,nofun,nofun,trivial⟩ (lt4 (by kernel_rfl))) (by kernel_rfl) (by kernel_rfl) (pmid (l₁ := [(o9,zob),(o11,zob)])) (Conv.mk (by kernel_rfl))
          ·
           have hxa : MOk xa m := pp1
           refine CfgA.to (l' := #[true,true,true,false,true,false,true,false,true,false,true,true,false,false,false,false]) (fuel' := 8) (O' := ([(o9,zob),(o11,zob),(o12,zob),(tb,tob t),(cb,cob c),(nb,mob n),(mb,mob m)] ++ (memMO xa m ++ []))) (Γ' := [(44,[],.agg (oc (oA xa m)).toArray),(9,[],.pointer (some ⟨o9,0,none⟩)),(11,[],.pointer (some ⟨o11,0,none⟩)),(12,[],.pointer (some ⟨o12,0,none⟩)),(49,[],.agg (tc t).toArray),(47,[],.agg (cc c).toArray),(45,[],.agg (mc n).toArray),(43,[],.agg (mc m).toArray),(7,[],.pointer (some ⟨tb,0,none⟩)),(6,[],.pointer (some ⟨cb,0,none⟩)),(5,[],.pointer (some ⟨nb,0,none⟩)),(4,[],.pointer (some ⟨mb,0,none⟩))]) ?_ (by kernel_rfl) (by kernel_rfl) (List.Perm.refl _) (Conv.mk (by kernel_rfl))
           refine CfgA.many [3,9] (by kernel_rfl) (by decide) (fuel' := 7) (by kernel_rfl) ⟨?_,?_,trivial⟩
           ·
            refine CfgI.eff (o := _) rfl (by kernel_rfl) (by kernel_rfl) (Eff.callH (vs := [.agg (mc n).toArray]) (fun x : MO => .agg (oc (oA x n)).toArray) [] (fun x => memMO x n) (fun x => MOk x n) [(o9,zob),(o11,zob),(o12,zob),(tb,tob t),(cb,cob c),(nb,mob n),(mb,mob m)] (memMO xa m ++ []) rfl rfl Tryz.func18 rfl rfl (by kernel_rfl) (fun w1 h _ _ => oMap n Rl w1 hN (h.hasR (fun e he => List.mem_cons_of_mem _ he)))) (fun _ _ => (.cons _ (.cons _ (.cons _ (.cons_cons _ (.cons_cons _ (.cons_cons _ (.cons_cons _ (List.nil_sublist _))))))))) ?_
            rintro xb hxb
            exact CfgA.to (IH (some xa,some xb,none,none,some o9,none,some o11,some o12) ⟨hxa,hxb,trivial,(fun _ => rfl),nofun,nofun,trivial⟩ (lt4 (by kernel_rfl))) (by kernel_rfl) (by kernel_rfl) (.refl _) (Conv.mk (by kernel_rfl))
           ·
            refine CfgI.eff (o := _) rfl (by kernel_rfl) (by kernel_rfl) (Eff.alloc (z := (.agg (oc ⟨0,m0,c0,t0⟩).toArray)) rfl (by kernel_rfl)) (fun _ _ => (.cons _ (.cons _ (.cons _ (.cons _ (.cons_cons _ (.cons_cons _ (.cons_cons _ (.cons_cons _ (List.nil_sublist _)))))))))) ?_
            rintro o10 ⟨ho10,no10⟩
            exact CfgA.to (IH (some xa,none,none,none,some o9,some o10,some o11,some o12) ⟨hxa,trivial,trivial,nofun,nofun,nofun,trivial⟩ (lt4 (by kernel_rfl))) (by kernel_rfl) (by kernel_rfl) (pmid (l₁ := [(o9,zob)])) (Conv.mk (by kernel_rfl))
        ·
         rcases oo10 with _ | o11
         ·
          rcases oo11 with _ | o12
          ·
           have hxa : MOk xa m := pp1
           refine CfgA.to (l' := #[true,true,true,false,true,false,true,false,true,true,false,false,false,false,false,false]) (fuel' := 9) (O' := ([(o9,zob),(o10,zob),(tb,tob t),(cb,cob c),(nb,mob n),(mb,mob m)] ++ (memMO xa m ++ []))) (Γ' := [(44,[],.agg (oc (oA xa m)).toArray),(9,[],.pointer (some ⟨o9,0,none⟩)),(10,[],.pointer (some ⟨o10,0,none⟩)),(49,[],.agg (tc t).toArray),(47,[],.agg (cc c).toArray),(45,[],.agg (mc n).toArray),(43,[],.agg (mc m).toArray),(7,[],.pointer (some ⟨tb,0,none⟩)),(6,[],.pointer (some ⟨cb,0,none⟩)),(5,[],.pointer (some ⟨nb,0,none⟩)),(4,[],.pointer (some ⟨mb,0,none⟩))]) ?_ (by kernel_rfl) (by kernel_rfl) (List.Perm.refl _) (Conv.mk (by kernel_rfl))
           refine CfgA.many [3,10,11] (by kernel_rfl) (by decide) (fuel' := 8) (by kernel_rfl) ⟨?_,?_,?_,trivial⟩
           ·
            refine CfgI.eff (o := _) rfl (by kernel_rfl) (by kernel_rfl) (Eff.callH (vs := [.agg (mc n).toArray]) (fun x : MO => .agg (oc (oA x n)).toArray) [] (fun x => memMO x n) (fun x => MOk x n) [(o9,zob),(o10,zob),(tb,tob t),(cb,cob c),(nb,mob n),(mb,mob m)] (memMO xa m ++ []) rfl rfl Tryz.func18 rfl rfl (by kernel_rfl) (fun w1 h _ _ => oMap n Rl w1 hN (h.hasR (fun e he => List.mem_cons_of_mem _ he)))) (fun _ _ => (.cons _ (.cons _ (.cons_cons _ (.cons_cons _ (.cons_cons _ (.cons_cons _ (List.nil_sublist _)))))))) ?_
            rintro xb hxb
            exact CfgA.to (IH (some xa,some xb,none,none,some o9,some o10,none,none) ⟨hxa,hxb,trivial,(fun _ => rfl),nofun,nofun,trivial⟩ (lt4 (by kernel_rfl))) (by kernel_rfl) (by kernel_rfl) (.refl _) (Conv.mk (by kernel_rfl))
           ·
            refine CfgI.eff (o := _) rfl (by kernel_rfl) (by kernel_rfl) (Eff.alloc (z := (.agg (oc ⟨0,m0,c0,t0⟩).toArray)) rfl (by kernel_rfl)) (fun _ _ => (.cons _ (.cons _ (.cons _ (.cons_cons _ (.cons_cons _ (.cons_cons _ (.cons_cons _ (List.nil_sublist _))))))))) ?_
            rintro o11 ⟨ho11,no11⟩
            exact CfgA.to (IH (some xa,none,none,none,some o9,some o10,some o11,none) ⟨hxa,trivial,trivial,nofun,nofun,nofun,trivial⟩ (lt4 (by kernel_rfl))) (by kernel_rfl) (by kernel_rfl) (pmid (l₁ := [(o9,zob),(o10,zob)])) (Conv.mk (by kernel_rfl))
           ·
            refine CfgI.eff (o := _) rfl (by kernel_rfl) (by kernel_rfl) (Eff.alloc (z := (.agg (oc ⟨0,m0,c0,t0⟩).toArray)) rfl (by kernel_rfl)) (fun _ _ => (.cons _ (.cons _ (.cons _ (.cons_cons _ (.cons_cons _ (.cons_cons _ (.cons_cons _ (List.nil_sublist _))))))))) ?_
            rintro o12 ⟨ho12,no12⟩
            exact CfgA.to (IH (some xa,none,none,none,some o9,some o10,none,some o12) ⟨hxa,trivial,trivial,nofun,nofun,nofun,trivial⟩ (lt4 (by kernel_rfl))) (by kernel_rfl) (by kernel_rfl) (pmid (l₁ := [(o9,zob),(o10,zob)])) (Conv.mk (by kernel_rfl))
          ·
           have hxa : MOk xa m := pp1
           refine CfgA.to (l' := #[true,true,true,false,true,false,true,false,true,true,false,true,false,false,false,false]) (fuel' := 8) (O' := ([(o9,zob),(o10,zob),(o12,zob),(tb,tob t),(cb,cob c),(nb,mob n),(mb,mob m)] ++ (memMO xa m ++ []))) (Γ' := [(44,[],.agg (oc (oA xa m)).toArray),(9,[],.pointer (some ⟨o9,0,none⟩)),(10,[],.pointer (some ⟨o10,0,none⟩)),(12,[],.pointer (some ⟨o12,0,none⟩)),(49,[],.agg (tc t).toArray),(47,[],.agg (cc c).toArray),(45,[],.agg (mc n).toArray),(43,[],.agg (mc m).toArray),(7,[],.pointer (some ⟨tb,0,none⟩)),(6,[],.pointer (some ⟨cb,0,none⟩)),(5,[],.pointer (some ⟨nb,0,none⟩)),(4,[],.pointer (some ⟨mb,0,none⟩))]) ?_ (by kernel_rfl) (by kernel_rfl) (List.Perm.refl _) (Conv.mk (by kernel_rfl))
           refine CfgA.many [3,10] (by kernel_rfl) (by decide) (fuel' := 7) (by kernel_rfl) ⟨?_,?_,trivial⟩
           ·
            refine CfgI.eff (o := _) rfl (by kernel_rfl) (by kernel_rfl) (Eff.callH (vs := [.agg (mc n).toArray]) (fun x : MO => .agg (oc (oA x n)).toArray) [] (fun x => memMO x n) (fun x => MOk x n) [(o9,zob),(o10,zob),(o12,zob),(tb,tob t),(cb,cob c),(nb,mob n),(mb,mob m)] (memMO xa m ++ []) rfl rfl Tryz.func18 rfl rfl (by kernel_rfl) (fun w1 h _ _ => oMap n Rl w1 hN (h.hasR (fun e he => List.mem_cons_of_mem _ he)))) (fun _ _ => (.cons _ (.cons _ (.cons _ (.cons_cons _ (.cons_cons _ (.cons_cons _ (.cons_cons _ (List.nil_sublist _))))))))) ?_
            rintro xb hxb
            exact CfgA.to (IH (some xa,some xb,none,none,some o9,some o10,none,some o12) ⟨hxa,hxb,trivial,(fun _ => rfl),nofun,nofun,trivial⟩ (lt4 (by kernel_rfl))) (by kernel_rfl) (by kernel_rfl) (.refl _) (Conv.mk (by kernel_rfl))
           ·
            refine CfgI.eff (o := _) rfl (by kernel_rfl) (by kernel_rfl) (Eff.alloc (z := (.agg (oc ⟨0,m0,c0,t0⟩).toArray)) rfl (by kernel_rfl)) (fun _ _ => (.cons _ (.cons _ (.cons _ (.cons _ (.cons_cons _ (.cons_cons _ (.cons_cons _ (.cons_cons _ (List.nil_sublist _)))))))))) ?_
            rintro o11 ⟨ho11,no11⟩
            exact CfgA.to (IH (some xa,none,none,none,some o9,some o10,some o11,some o12) ⟨hxa,trivial,trivial,nofun,nofun,nofun,trivial⟩ (lt4 (by kernel_rfl))) (by kernel_rfl) (by kernel_rfl) (pmid (l₁ := [(o9,zob),(o10,zob)])) (Conv.mk (by kernel_rfl))
         ·
          rcases oo11 with _ | o12
          ·
           have hxa : MOk xa m := pp1
           refine CfgA.to (l' := #[true,true,true,false,true,false,true,false,true,true,true,false,false,false,false,false]) (fuel' := 8) (O' := ([(o9,zob),(o10,zob),(o11,zob),(tb,tob t),(cb,cob c),(nb,mob n),(mb,mob m)] ++ (memMO xa m ++ []))) (Γ' := [(44,[],.agg (oc (oA xa m)).toArray),(9,[],.pointer (some ⟨o9,0,none⟩)),(10,[],.pointer (some ⟨o10,0,none⟩)),(11,[],.pointer (some ⟨o11,0,none⟩)),(49,[],.agg (tc t).toArray),(47,[],.agg (cc c).toArray),(45,[],.agg (mc n).toArray),(43,[],.agg (mc m).toArray),(7,[],.pointer (some ⟨tb,0,none⟩)),(6,[],.pointer (some ⟨cb,0,none⟩)),(5,[],.pointer (some ⟨nb,0,none⟩)),(4,[],.pointer (some ⟨mb,0,none⟩))]) ?_ (by kernel_rfl) (by kernel_rfl) (List.Perm.refl _) (Conv.mk (by kernel_rfl))
           refine CfgA.many [3,11] (by kernel_rfl) (by decide) (fuel' := 7) (by kernel_rfl) ⟨?_,?_,trivial⟩
           ·
            refine CfgI.eff (o := _) rfl (by kernel_rfl) (by kernel_rfl) (Eff.callH (vs := [.agg (mc n).toArray]) (fun x : MO => .agg (oc (oA x n)).toArray) [] (fun x => memMO x n) (fun x => MOk x n) [(o9,zob),(o10,zob),(o11,zob),(tb,tob t),(cb,cob c),(nb,mob n),(mb,mob m)] (memMO xa m ++ []) rfl rfl Tryz.func18 rfl rfl (by kernel_rfl) (fun w1 h _ _ => oMap n Rl w1 hN (h.hasR (fun e he => List.mem_cons_of_mem _ he)))) (fun _ _ => (.cons _ (.cons _ (.cons _ (.cons_cons _ (.cons_cons _ (.cons_cons _ (.cons_cons _ (List.nil_sublist _))))))))) ?_
            rintro xb hxb
            exact CfgA.to (IH (some xa,some xb,none,none,some o9,some o10,some o11,none) ⟨hxa,hxb,trivial,(fun _ => rfl),nofun,nofun,trivial⟩ (lt4 (by kernel_rfl))) (by kernel_rfl) (by kernel_rfl) (.refl _) (Conv.mk (by kernel_rfl))
           ·
            refine CfgI.eff (o := _) rfl (by kernel_rfl) (by kernel_rfl) (Eff.alloc (z := (.agg (oc ⟨0,m0,c0,t0⟩).toArray)) rfl (by kernel_rfl)) (fun _ _ => (.cons _ (.cons _ (.cons _ (.cons _ (.cons_cons _ (.cons_cons _ (.cons_cons _ (.cons_cons _ (List.nil_sublist _)))))))))) ?_
            rintro o12 ⟨ho12,no12⟩
            exact CfgA.to (IH (some xa,none,none,none,some o9,some o10,some o11,some o12) ⟨hxa,trivial,trivial,nofun,nofun,nofun,trivial⟩ (lt4 (by kernel_rfl))) (by kernel_rfl) (by kernel_rfl) (pmid (l₁ := [(o9,zob),(o10,zob),(o11,zob)])) (Conv.mk (by kernel_rfl))
          ·
           have hxa : MOk xa m := pp1
           refine CfgA.to (l' := #[true,true,true,false,true,false,true,false,true,true,true,true,false,false,false,false]) (fuel' := 7) (O' := ([(o9,zob),(o10,zob),(o11,zob),(o12,zob),(tb,tob t),(cb,cob c),(nb,mob n),(mb,mob m)] ++ (memMO xa m ++ []))) (Γ' := [(44,[],.agg (oc (oA xa m)).toArray),(9,[],.pointer (some ⟨o9,0,none⟩)),(10,[],.pointer (some ⟨o10,0,none⟩)),(11,[],.pointer (some ⟨o11,0,none⟩)),(12,[],.pointer (some ⟨o12,0,none⟩)),(49,[],.agg (tc t).toArray),(47,[],.agg (cc c).toArray),(45,[],.agg (mc n).toArray),(43,[],.agg (mc m).toArray),(7,[],.pointer (some ⟨tb,0,none⟩)),(6,[],.pointer (some ⟨cb,0,none⟩)),(5,[],.pointer (some ⟨nb,0,none⟩)),(4,[],.pointer (some ⟨mb,0,none⟩))]) ?_ (by kernel_rfl) (by kernel_rfl) (List.Perm.refl _) (Conv.mk (by kernel_rfl))
           refine CfgA.many [3] (by kernel_rfl) (by decide) (fuel' := 6) (by kernel_rfl) ⟨?_,trivial⟩
           ·
            refine CfgI.eff (o := _) rfl (by kernel_rfl) (by kernel_rfl) (Eff.callH (vs := [.agg (mc n).toArray]) (fun x : MO => .agg (oc (oA x n)).toArray) [] (fun x => memMO x n) (fun x => MOk x n) [(o9,zob),(o10,zob),(o11,zob),(o12,zob),(tb,tob t),(cb,cob c),(nb,mob n),(mb,mob m)] (memMO xa m ++ []) rfl rfl Tryz.func18 rfl rfl (by kernel_rfl) (fun w1 h _ _ => oMap n Rl w1 hN (h.hasR (fun e he => List.mem_cons_of_mem _ he)))) (fun _ _ => (.cons _ (.cons _ (.cons _ (.cons _ (.cons_cons _ (.cons_cons _ (.cons_cons _ (.cons_cons _ (List.nil_sublist _)))))))))) ?_
            rintro xb hxb
            exact CfgA.to (IH (some xa,some xb,none,none,some o9,some o10,some o11,some o12) ⟨hxa,hxb,trivial,(fun _ => rfl),nofun,nofun,trivial⟩ (lt4 (by kernel_rfl))) (by kernel_rfl) (by kernel_rfl) (.refl _) (Conv.mk (by kernel_rfl))
      ·
       exact absurd (dd7_5 rfl) (by decide)
     ·
      exact absurd (dd5_3 rfl) (by decide)
    ·
     rcases oo5 with _ | oc5
     ·
      rcases oo7 with _ | ⟨⟩
      ·
       rcases oo8 with _ | o9
       ·
        rcases oo9 with _ | o10
        ·
         rcases oo10 with _ | o11
         ·
          rcases oo11 with _ | o12
          ·
           have hxa : MOk xa m := pp1
           have hxb : MOk xb n := pp3
           refine CfgA.to (l' := #[true,true,true,true,true,false,true,false,false,false,false,false,false,false,false,false]) (fuel' := 10) (O' := ([(tb,tob t),(cb,cob c),(nb,mob n),(mb,mob m)] ++ (memMO xb n ++ (memMO xa m ++ [])))) (Γ' := [(44,[],.agg (oc (oA xa m)).toArray),(46,[],.agg (oc (oA xb n)).toArray),(49,[],.agg (tc t).toArray),(47,[],.agg (cc c).toArray),(45,[],.agg (mc n).toArray),(43,[],.agg (mc m).toArray),(7,[],.pointer (some ⟨tb,0,none⟩)),(6,[],.pointer (some ⟨cb,0,none⟩)),(5,[],.pointer (some ⟨nb,0,none⟩)),(4,[],.pointer (some ⟨mb,0,none⟩))]) ?_ (by kernel_rfl) (by kernel_rfl) (List.Perm.refl _) (Conv.mk (by kernel_rfl))
           refine CfgA.many [5,8,9,10,11] (by kernel_rfl) (by decide) (fuel' := 9) (by kernel_rfl) ⟨?_,?_,?_,?_,?_,trivial⟩
           ·
            refine CfgI.eff (o := _) rfl (by kernel_rfl) (by kernel_rfl) (Eff.callH (vs := [.agg (cc c).toArray]) (fun x : K.Own => .agg (oc (oC x c)).toArray) [] (fun x => Own.o 30 (c.ps.flatMap dgc) x) (fun x => OwnOk x 32 c.ps.length (c.ps.flatMap dgc)) [(tb,tob t),(cb,cob c),(nb,mob n),(mb,mob m)] (memMO xb n ++ (memMO xa m ++ [])) rfl rfl Tryz.func19 rfl rfl (by kernel_rfl) (fun w1 h _ _ => oCommit c Rl w1 hC (h.hasR (fun e he => List.mem_cons_of_mem _ he)))) (fun _ _ => (.cons_cons _ (.cons_cons _ (.cons_cons _ (.cons_cons _ (List.nil_sublist _)))))) ?_
            rintro oc5 hoc5
            exact CfgA.to (IH (some xa,some xb,some oc5,none,none,none,none,none) ⟨hxa,hxb,hoc5,(fun _ => rfl),(fun _ => rfl),nofun,trivial⟩ (lt4 (by kernel_rfl))) (by kernel_rfl) (by kernel_rfl) (.refl _) (Conv.mk (by kernel_rfl))
           ·
            refine CfgI.eff (o := _) rfl (by kernel_rfl) (by kernel_rfl) (Eff.alloc (z := (.agg (oc ⟨0,m0,c0,t0⟩).toArray)) rfl (by kernel_rfl)) (fun _ _ => (.cons _ (.cons_cons _ (.cons_cons _ (.cons_cons _ (.cons_cons _ (List.nil_sublist _))))))) ?_
            rintro o9 ⟨ho9,no9⟩
            exact CfgA.to (IH (some xa,some xb,none,none,some o9,none,none,none) ⟨hxa,hxb,trivial,(fun _ => rfl),nofun,nofun,trivial⟩ (lt4 (by kernel_rfl))) (by kernel_rfl) (by kernel_rfl) (.refl _) (Conv.mk (by kernel_rfl))
           ·
            refine CfgI.eff (o := _) rfl (by kernel_rfl) (by kernel_rfl) (Eff.alloc (z := (.agg (oc ⟨0,m0,c0,t0⟩).toArray)) rfl (by kernel_rfl)) (fun _ _ => (.cons _ (.cons_cons _ (.cons_cons _ (.cons_cons _ (.cons_cons _ (List.nil_sublist _))))))) ?_
            rintro o10 ⟨ho10,no10⟩
            exact CfgA.to (IH (some xa,some xb,none,none,none,some o10,none,none) ⟨hxa,hxb,trivial,(fun _ => rfl),nofun,nofun,trivial⟩ (lt4 (by kernel_rfl))) (by kernel_rfl) (by kernel_rfl) (.refl _) (Conv.mk (by kernel_rfl))
           ·
            refine CfgI.eff (o := _) rfl (by kernel_rfl) (by kernel_rfl) (Eff.alloc (z := (.agg (oc ⟨0,m0,c0,t0⟩).toArray)) rfl (by kernel_rfl)) (fun _ _ => (.cons _ (.cons_cons _ (.cons_cons _ (.cons_cons _ (.cons_cons _ (List.nil_sublist _))))))) ?_
            rintro o11 ⟨ho11,no11⟩
            exact CfgA.to (IH (some xa,some xb,none,none,none,none,some o11,none) ⟨hxa,hxb,trivial,(fun _ => rfl),nofun,nofun,trivial⟩ (lt4 (by kernel_rfl))) (by kernel_rfl) (by kernel_rfl) (.refl _) (Conv.mk (by kernel_rfl))
           ·
            refine CfgI.eff (o := _) rfl (by kernel_rfl) (by kernel_rfl) (Eff.alloc (z := (.agg (oc ⟨0,m0,c0,t0⟩).toArray)) rfl (by kernel_rfl)) (fun _ _ => (.cons _ (.cons_cons _ (.cons_cons _ (.cons_cons _ (.cons_cons _ (List.nil_sublist _))))))) ?_
            rintro o12 ⟨ho12,no12⟩
            exact CfgA.to (IH (some xa,some xb,none,none,none,none,none,some o12) ⟨hxa,hxb,trivial,(fun _ => rfl),nofun,nofun,trivial⟩ (lt4 (by kernel_rfl))) (by kernel_rfl) (by kernel_rfl) (.refl _) (Conv.mk (by kernel_rfl))
          ·
           have hxa : MOk xa m := pp1
           have hxb : MOk xb n := pp3
           refine CfgA.to (l' := #[true,true,true,true,true,false,true,false,false,false,false,true,false,false,false,false]) (fuel' := 9) (O' := ([(o12,zob),(tb,tob t),(cb,cob c),(nb,mob n),(mb,mob m)] ++ (memMO xb n ++ (memMO xa m ++ [])))) (Γ' := [(44,[],.agg (oc (oA xa m)).toArray),(46,[],.agg (oc (oA xb n)).toArray),(12,[],.pointer (some ⟨o12,0,none⟩)),(49,[],.agg (tc t).toArray),(47,[],.agg (cc c).toArray),(45,[],.agg (mc n).toArray),(43,[],.agg (mc m).toArray),(7,[],.pointer (some ⟨tb,0,none⟩)),(6,[],.pointer (some ⟨cb,0,none⟩)),(5,[],.pointer (some ⟨nb,0,none⟩)),(4,[],.pointer (some ⟨mb,0,none⟩))]) ?_ (by kernel_rfl) (by kernel_rfl) (List.Perm.refl _) (Conv.mk (by kernel_rfl))
           refine CfgA.many [5,8,9,10] (by kernel_rfl) (by decide) (fuel' := 8) (by kernel_rfl) ⟨?_,?_,?_,?_,trivial⟩
           ·
            refine CfgI.eff (o := _) rfl (by kernel_rfl) (by kernel_rfl) (Eff.callH (vs := [.agg (cc c).toArray]) (fun x : K.Own => .agg (oc (oC x c)).toArray) [] (fun x => Own.o 30 (c.ps.flatMap dgc) x) (fun x => OwnOk x 32 c.ps.length (c.ps.flatMap dgc)) [(o12,zob),(tb,tob t),(cb,cob c),(nb,mob n),(mb,mob m)] (memMO xb n ++ (memMO xa m ++ [])) rfl rfl Tryz.func19 rfl rfl (by kernel_rfl) (fun w1 h _ _ => oCommit c Rl w1 hC (h.hasR (fun e he => List.mem_cons_of_mem _ he)))) (fun _ _ => (.cons _ (.cons_cons _ (.cons_cons _ (.cons_cons _ (.cons_cons _ (List.nil_sublist _))))))) ?_
            rintro oc5 hoc5
            exact CfgA.to (IH (some xa,some xb,some oc5,none,none,none,none,some o12) ⟨hxa,hxb,hoc5,(fun _ => rfl),(fun _ => rfl),nofun,trivial⟩ (lt4 (by kernel_rfl))) (by kernel_rfl) (by kernel_rfl) (.refl _) (Conv.mk (by kernel_rfl))
           ·
            refine CfgI.eff (o := _) rfl (by kernel_rfl) (by kernel_rfl) (Eff.alloc (z := (.agg (oc ⟨0,m0,c0,t0⟩).toArray)) rfl (by kernel_rfl)) (fun _ _ => (.cons _ (.cons _ (.cons_cons _ (.cons_cons _ (.cons_cons _ (.cons_cons _ (List.nil_sublist _)))))))) ?_
            rintro o9 ⟨ho9,no9⟩
            exact CfgA.to (IH (some xa,some xb,none,none,some o9,none,none,some o12) ⟨hxa,hxb,trivial,(fun _ => rfl),nofun,nofun,trivial⟩ (lt4 (by kernel_rfl))) (by kernel_rfl) (by kernel_rfl) (.refl _) (Conv.mk (by kernel_rfl))
           ·
            refine CfgI.eff (o := _) rfl (by kernel_rfl) (by kernel_rfl) (Eff.alloc (z := (.agg (oc ⟨0,m0,c0,t0⟩).toArray)) rfl (by kernel_rfl)) (fun _ _ => (.cons _ (.cons _ (.cons_cons _ (.cons_cons _ (.cons_cons _ (.cons_cons _ (List.nil_sublist _)))))))) ?_
            rintro o10 ⟨ho10,no10⟩
            exact CfgA.to (IH (some xa,some xb,none,none,none,some o10,none,some o12) ⟨hxa,hxb,trivial,(fun _ => rfl),nofun,nofun,trivial⟩ (lt4 (by kernel_rfl))) (by kernel_rfl) (by kernel_rfl) (.refl _) (Conv.mk (by kernel_rfl))
           ·
            refine CfgI.eff (o := _) rfl (by kernel_rfl) (by kernel_rfl) (Eff.alloc (z := (.agg (oc ⟨0,m0,c0,t0⟩).toArray)) rfl (by kernel_rfl)) (fun _ _ => (.cons _ (.cons _ (.cons_cons _ (.cons_cons _ (.cons_cons _ (.cons_cons _ (List.nil_sublist _)))))))) ?_
            rintro o11 ⟨ho11,no11⟩
            exact CfgA.to (IH (some xa,some xb,none,none,none,none,some o11,some o12) ⟨hxa,hxb,trivial,(fun _ => rfl),nofun,nofun,trivial⟩ (lt4 (by kernel_rfl))) (by kernel_rfl) (by kernel_rfl) (.refl _) (Conv.mk (by kernel_rfl))
         ·
          rcases oo11 with _ | o12
          ·
           have hxa : MOk xa m := pp1
           have hxb : MOk xb n := pp3
           refine CfgA.to (l' := #[true,true,true,true,true,false,true,false,false,false,true,false,false,false,false,false]) (fuel' := 9) (O' := ([(o11,zob),(tb,tob t),(cb,cob c),(nb,mob n),(mb,mob m)] ++ (memMO xb n ++ (memMO xa m ++ [])))) (Γ' := [(44,[],.agg (oc (oA xa m)).toArray),(46,[],.agg (oc (oA xb n)).toArray),(11,[],.pointer (some ⟨o11,0,none⟩)),(49,[],.agg (tc t).toArray),(47,[],.agg (cc c).toArray),(45,[],.agg (mc n).toArray),(43,[],.agg (mc m).toArray),(7,[],.pointer (some ⟨tb,0,none⟩)),(6,[],.pointer (some ⟨cb,0,none⟩)),(5,[],.pointer (some ⟨nb,0,none⟩)),(4,[],.pointer (some ⟨mb,0,none⟩))]) ?_ (by kernel_rfl) (by kernel_rfl) (List.Perm.refl _) (Conv.mk (by kernel_rfl))
           refine CfgA.many [5,8,9,11] (by kernel_rfl) (by decide) (fuel' := 8) (by kernel_rfl) ⟨?_,?_,?_,?_,trivial⟩
           ·
            refine CfgI.eff (o := _) rfl (by kernel_rfl) (by kernel_rfl) (Eff.callH (vs := [.agg (cc c).toArray]) (fun x : K.Own => .agg (oc (oC x c)).toArray) [] (fun x => Own.o 30 (c.ps.flatMap dgc) x) (fun x => OwnOk x 32 c.ps.length (c.ps.flatMap dgc)) [(o11,zob),(tb,tob t),(cb,cob c),(nb,mob n),(mb,mob m)] (memMO xb n ++ (memMO xa m ++ [])) rfl rfl Tryz.func19 rfl rfl (by kernel_rfl) (fun w1 h _ _ => oCommit c Rl w1 hC (h.hasR (fun e he => List.mem_cons_of_mem _ he)))) (fun _ _ => (.cons _ (.cons_cons _ (.cons_cons _ (.cons_cons _ (.cons_cons _ (List.nil_sublist _))))))) ?_
            rintro oc5 hoc5
            exact CfgA.to (IH (some xa,some xb,some oc5,none,none,none,some o11,none) ⟨hxa,hxb,hoc5,(fun _ => rfl),(fun _ => rfl),nofun,trivial⟩ (lt4 (by kernel_rfl))) (by kernel_rfl) (by kernel_rfl) (.refl _) (Conv.mk (by kernel_rfl))
           ·
            refine CfgI.eff (o := _) rfl (by kernel_rfl) (by kernel_rfl) (Eff.alloc (z := (.agg (oc ⟨0,m0,c0,t0⟩).toArray)) rfl (by kernel_rfl)) (fun _ _ => (.cons _ (.cons _ (.cons_cons _ (.cons_cons _ (.cons_cons _ (.cons_cons _ (List.nil_sublist _)))))))) ?_
            rintro o9 ⟨ho9,no9⟩
            exact CfgA.to (IH (some xa,some xb,none,none,some o9,none,some o11,none) ⟨hxa,hxb,trivial,(fun _ => rfl),nofun,nofun,trivial⟩ (lt4 (by kernel_rfl))) (by kernel_rfl) (by kernel_rfl) (.refl _) (Conv.mk (by kernel_rfl))
           ·
            refine CfgI.eff (o := _) rfl (by kernel_rfl) (by kernel_rfl) (Eff.alloc (z := (.agg (oc ⟨0,m0,c0,t0⟩).toArray)) rfl (by kernel_rfl)) (fun _ _ => (.cons _ (.cons _ (.cons_cons _ (.cons_cons _ (.cons_cons _ (.cons_cons _ (List.nil_sublist _)))))))) ?_
            rintro o10 ⟨ho10,no10⟩
            exact CfgA.to (IH (some xa,some xb,none,none,none,some o10,some o11,none) ⟨hxa,hxb,trivial,(fun _ => rfl),nofun,nofun,trivial⟩ (lt4 (by kernel_rfl))) (by kernel_rfl) (by kernel_rfl) (.refl _) (Conv.mk (by kernel_rfl))
           ·
            refine CfgI.eff (o := _) rfl (by kernel_rfl) (by kernel_rfl) (Eff.alloc (z := (.agg (oc ⟨0,m0,c0,t0⟩).toArray)) rfl (by kernel_rfl)) (fun _ _ => (.cons _ (.cons _ (.cons_cons _ (.cons_cons _ (.cons_cons _ (.cons_cons _ (List.nil_sublist _)))))))) ?_
            rintro o12 ⟨ho12,no12⟩
            exact CfgA.to (IH (some xa,some xb,none,none,none,none,some o11,some o12) ⟨hxa,hxb,trivial,(fun _ => rfl),nofun,nofun,trivial⟩ (lt4 (by kernel_rfl))) (by kernel_rfl) (by kernel_rfl) (pmid (l₁ := [(o11,zob)])) (Conv.mk (by kernel_rfl))
          ·
           have hxa : MOk xa m := pp1
           have hxb : MOk xb n := pp3
           refine CfgA.to (l' := #[true,true,true,true,true,false,true,false,false,false,true,true,false,false,false,false]) (fuel' := 8) (O' := ([(o11,zob),(o12,zob),(tb,tob t),(cb,cob c),(nb,mob n),(mb,mob m)] ++ (memMO xb n ++ (memMO xa m ++ [])))) (Γ' := [(44,[],.agg (oc (oA xa m)).toArray),(46,[],.agg (oc (oA xb n)).toArray),(11,[],.pointer (some ⟨o11,0,none⟩)),(12,[],.pointer (some ⟨o12,0,none⟩)),(49,[],.agg (tc t).toArray),(47,[],.agg (cc c).toArray),(45,[],.agg (mc n).toArray),(43,[],.agg (mc m).toArray),(7,[],.pointer (some ⟨tb,0,none⟩)),(6,[],.pointer (some ⟨cb,0,none⟩)),(5,[],.pointer (some ⟨nb,0,none⟩)),(4,[],.pointer (some ⟨mb,0,none⟩))]) ?_ (by kernel_rfl) (by kernel_rfl) (List.Perm.refl _) (Conv.mk (by kernel_rfl))
           refine CfgA.many [5,8,9] (by kernel_rfl) (by decide) (fuel' := 7) (by kernel_rfl) ⟨?_,?_,?_,trivial⟩
           ·
            refine CfgI.eff (o := _) rfl (by kernel_rfl) (by kernel_rfl) (Eff.callH (vs := [.agg (cc c).toArray]) (fun x : K.Own => .agg (oc (oC x c)).toArray) [] (fun x => Own.o 30 (c.ps.flatMap dgc) x) (fun x => OwnOk x 32 c.ps.length (c.ps.flatMap dgc)) [(o11,zob),(o12,zob),(tb,tob t),(cb,cob c),(nb,mob n),(mb,mob m)] (memMO xb n ++ (memMO xa m ++ [])) rfl rfl Tryz.func19 rfl rfl (by kernel_rfl) (fun w1 h _ _ => oCommit c Rl w1 hC (h.hasR (fun e he => List.mem_cons_of_mem _ he)))) (fun _ _ => (.cons _ (.cons _ (.cons_cons _ (.cons_cons _ (.cons_cons _ (.cons_cons _ (List.nil_sublist _)))))))) ?_
            rintro oc5 hoc5
            exact CfgA.to (IH (some xa,some xb,some oc5,none,none,none,some o11,some o12) ⟨hxa,hxb,hoc5,(fun _ => rfl),(fun _ => rfl),nofun,trivial⟩ (lt4 (by kernel_rfl))) (by kernel_rfl) (by kernel_rfl) (.refl _) (Conv.mk (by kernel_rfl))
           ·
            refine CfgI.eff (o := _) rfl (by kernel_rfl) (by kernel_rfl) (Eff.alloc (z := (.agg (oc ⟨0,m0,c0,t0⟩).toArray)) rfl (by kernel_rfl)) (fun _ _ => (.cons _ (.cons _ (.cons _ (.cons_cons _ (.cons_cons _ (.cons_cons _ (.cons_cons _ (List.nil_sublist _))))))))) ?_
            rintro o9 ⟨ho9,no9⟩
            exact CfgA.to (IH (some xa,some xb,none,none,some o9,none,some o11,some o12) ⟨hxa,hxb,trivial,(fun _ => rfl),nofun,nofun,trivial⟩ (lt4 (by kernel_rfl))) (by kernel_rfl) (by kernel_rfl) (.refl _) (Conv.mk (by kernel_rfl))
           ·
            refine CfgI.eff (o := _) rfl (by kernel_rfl) (by kernel_rfl) (Eff.alloc (z := (.agg (oc ⟨0,m0,c0,t0⟩).toArray)) rfl (by kernel_rfl)) (fun _ _ => (.cons _ (.cons _ (.cons _ (.cons_cons _ (.cons_cons _ (.cons_cons _ (.cons_cons _ (List.nil_sublist _))))))))) ?_
            rintro o10 ⟨ho10,no10⟩
            exact CfgA.to (IH (some xa,some xb,none,none,none,some o10,some o11,some o12) ⟨hxa,hxb,trivial,(fun _ => rfl),nofun,nofun,trivial⟩ (lt4 (by kernel_rfl))) (by kernel_rfl) (by kernel_rfl) (.refl _) (Conv.mk (by kernel_rfl))
        ·
         rcases oo10 with _ | o11
         ·
          rcases oo11 with _ | o12
          ·
           have hxa : MOk xa m := pp1
           have hxb : MOk xb n := pp3
           refine CfgA.to (l' := #[true,true,true,true,true,false,true,false,false,true,false,false,false,false,false,false]) (fuel' := 9) (O' := ([(o10,zob),(tb,tob t),(cb,cob c),(nb,mob n),(mb,mob m)] ++ (memMO xb n ++ (memMO xa m ++ [])))) (Γ' := [(44,[],.agg (oc (oA xa m)).toArray),(46,[],.agg (oc (oA xb n)).toArray),(10,[],.pointer (some ⟨o10,0,none⟩)),(49,[],.agg (tc t).toArray),(47,[],.agg (cc c).toArray),(45,[],.agg (mc n).toArray),(43,[],.agg (mc m).toArray),(7,[],.pointer (some ⟨tb,0,none⟩)),(6,[],.pointer (some ⟨cb,0,none⟩)),(5,[],.pointer (some ⟨nb,0,none⟩)),(4,[],.pointer (some ⟨mb,0,none⟩))]) ?_ (by kernel_rfl) (by kernel_rfl) (List.Perm.refl _) (Conv.mk (by kernel_rfl))
           refine CfgA.many [5,8,10,11] (by kernel_rfl) (by decide) (fuel' := 8) (by kernel_rfl) ⟨?_,?_,?_,?_,trivial⟩
           ·
            refine CfgI.eff (o := _) rfl (by kernel_rfl) (by kernel_rfl) (Eff.callH (vs := [.agg (cc c).toArray]) (fun x : K.Own => .agg (oc (oC x c)).toArray) [] (fun x => Own.o 30 (c.ps.flatMap dgc) x) (fun x => OwnOk x 32 c.ps.length (c.ps.flatMap dgc)) [(o10,zob),(tb,tob t),(cb,cob c),(nb,mob n),(mb,mob m)] (memMO xb n ++ (memMO xa m ++ [])) rfl rfl Tryz.func19 rfl rfl (by kernel_rfl) (fun w1 h _ _ => oCommit c Rl w1 hC (h.hasR (fun e he => List.mem_cons_of_mem _ he)))) (fun _ _ => (.cons _ (.cons_cons _ (.cons_cons _ (.cons_cons _ (.cons_cons _ (List.nil_sublist _))))))) ?_
            rintro oc5 hoc5
            exact CfgA.to (IH (some xa,some xb,some oc5,none,none,some o10,none,none) ⟨hxa,hxb,hoc5,(fun _ => rfl),(fun _ => rfl),nofun,trivial⟩ (lt4 (by kernel_rfl))) (by kernel_rfl) (by kernel_rfl) (.refl _) (Conv.mk (by kernel_rfl))
           ·
            refine CfgI.eff (o := _) rfl (by kernel_rfl) (by kernel_rfl) (Eff.alloc (z := (.agg (oc ⟨0,m0,c0,t0⟩).toArray)) rfl (by kernel_rfl)) (fun _ _ => (.cons _ (.cons _ (.cons_cons _ (.cons_cons _ (.cons_cons _ (.cons_cons _ (List.nil_sublist _)))))))) ?_
            rintro o9 ⟨ho9,no9⟩
            exact CfgA.to (IH (some xa,some xb,none,none,some o9,some o10,none,none) ⟨hxa,hxb,trivial,(fun _ => rfl),nofun,nofun,trivial⟩ (lt4 (by kernel_rfl))) (by kernel_rfl) (by kernel_rfl) (.refl _) (Conv.mk (by kernel_rfl))
           ·
            refine CfgI.eff (o := _) rfl (by kernel_rfl) (by kernel_rfl) (Eff.alloc (z := (.agg (oc ⟨0,m0,c0,t0⟩).toArray)) rfl (by kernel_rfl)) (fun _ _ => (.cons _ (.cons _ (.cons_cons _ (.cons_cons _ (.cons_cons _ (.cons_cons _ (List.nil_sublist _)))))))) ?_
            rintro o11 ⟨ho11,no11⟩
            exact CfgA.to (IH (some xa,some xb,none,none,none,some o10,some o11,none) ⟨hxa,hxb,trivial,(fun _ => rfl),nofun,nofun,trivial⟩ (lt4 (by kernel_rfl))) (by kernel_rfl) (by kernel_rfl) (pmid (l₁ := [(o10,zob)])) (Conv.mk (by kernel_rfl))
           ·
            refine CfgI.eff (o := _) rfl (by kernel_rfl) (by kernel_rfl) (Eff.alloc (z := (.agg (oc ⟨0,m0,c0,t0⟩).toArray)) rfl (by kernel_rfl)) (fun _ _ => (.cons _ (.cons _ (.cons_cons _ (.cons_cons _ (.cons_cons _ (.cons_cons _ (List.nil_sublist _)))))))) ?_
            rintro o12 ⟨ho12,no12⟩
            exact CfgA.to (IH (some xa,some xb,none,none,none,some o10,none,some o12) ⟨hxa,hxb,trivial,(fun _ => rfl),nofun,nofun,trivial⟩ (lt4 (by kernel_rfl))) (by kernel_rfl) (by kernel_rfl) (pmid (l₁ := [(o10,zob)])) (Conv.mk (by kernel_rfl))
          ·
           have hxa : MOk xa m := pp1
           have hxb : MOk xb n := pp3
           refine CfgA.to (l' := #[true,true,true,true,true,false,true,false,false,true,false,true,false,false,false,false]) (fuel' := 8) (O' := ([(o10,zob),(o12,zob),(tb,tob t),(cb,cob c),(nb,mob n),(mb,mob m)] ++ (memMO xb n ++ (memMO xa m ++ [])))) (Γ' := [(44,[],.agg (oc (oA xa m)).toArray),(46,[],.agg (oc (oA xb n)).toArray),(10,[],.pointer (some ⟨o10,0,none⟩)),(12,[],.pointer (some ⟨o12,0,none⟩)),(49,[],.agg (tc t).toArray),(47,[],.agg (cc c).toArray),(45,[],.agg (mc n).toArray),(43,[],.agg (mc m).toArray),(7,[],.pointer (some ⟨tb,0,none⟩)),(6,[],.pointer (some ⟨cb,0,none⟩)),(5,[],.pointer (some ⟨nb,0,none⟩)),(4,[],.pointer (some ⟨mb,0,none⟩))]) ?_ (by kernel_rfl) (by kernel_rfl) (List.Perm.refl _) (Conv.mk (by kernel_rfl))
           refine CfgA.many [5,8,10] (by kernel_rfl) (by decide) (fuel' := 7) (by kernel_rfl) ⟨?_,?_,?_,trivial⟩
           ·
            refine CfgI.eff (o := _) rfl (by kernel_rfl) (by kernel_rfl) (Eff.callH (vs := [.agg (cc c).toArray]) (fun x : K.Own => .agg (oc (oC x c)).toArray) [] (fun x => Own.o 30 (c.ps.flatMap dgc) x) (fun x => OwnOk x 32 c.ps.length (c.ps.flatMap dgc)) [(o10,zob),(o12,zob),(tb,tob t),(cb,cob c),(nb,mob n),(mb,mob m)] (memMO xb n ++ (memMO xa m ++ [])) rfl rfl Tryz.func19 rfl rfl (by kernel_rfl) (fun w1 h _ _ => oCommit c Rl w1 hC (h.hasR (fun e he => List.mem_cons_of_mem _ he)))) (fun _ _ => (.cons _ (.cons _ (.cons_cons _ (.cons_cons _ (.cons_cons _ (.cons_cons _ (List.nil_sublist _)))))))) ?_
            rintro oc5 hoc5
            exact CfgA.to (IH (some xa,some xb,some oc5,none,none,some o10,none,some o12) ⟨hxa,hxb,hoc5,(fun _ => rfl),(fun _ => rfl),nofun,trivial⟩ (lt4 (by kernel_rfl))) (by kernel_rfl) (by kernel_rfl) (.refl _) (Conv.mk (by kernel_rfl))
           ·
            refine CfgI.eff (o := _) rfl (by kernel_rfl) (by kernel_rfl) (Eff.alloc (z := (.agg (oc ⟨0,m0,c0,t0⟩).toArray)) rfl (by kernel_rfl)) (fun _ _ => (.cons _ (.cons _ (.cons _ (.cons_cons _ (.cons_cons _ (.cons_cons _ (.cons_cons _ (List.nil_sublist _))))))))) ?_
            rintro o9 ⟨ho9,no9⟩
            exact CfgA.to (IH (some xa,some xb,none,none,some o9,some o10,none,some o12) ⟨hxa,hxb,trivial,(fun _ => rfl),nofun,nofun,trivial⟩ (lt4 (by kernel_rfl))) (by kernel_rfl) (by kernel_rfl) (.refl _) (Conv.mk (by kernel_rfl))
           ·
            refine CfgI.eff (o := _) rfl (by kernel_rfl) (by kernel_rfl) (Eff.alloc (z := (.agg (oc ⟨0,m0,c0,t0⟩).toArray)) rfl (by kernel_rfl)) (fun _ _ => (.cons _ (.cons _ (.cons _ (.cons_cons _ (.cons_cons _ (.cons_cons _ (.cons_cons _ (List.nil_sublist _))))))))) ?_
            rintro o11 ⟨ho11,no11⟩
            exact CfgA.to (IH (some xa,some xb,none,none,none,some o10,some o11,some o12) ⟨hxa,hxb,trivial,(fun _ => rfl),nofun,nofun,trivial⟩ (lt4 (by kernel_rfl))) (by kernel_rfl) (by kernel_rfl) (pmid (l₁ := [(o10,zob)])) (Conv.mk (by kernel_rfl))
         ·
          rcases oo11 with _ | o12
          ·
           have hxa : MOk xa m := pp1
           have hxb : MOk xb n := pp3
           refine CfgA.to (l' := #[true,true,true,true,true,false,true,false,false,true,true,false,false,false,false,false]) (fuel' := 8) (O' := ([(o10,zob),(o11,zob),(tb,tob t),(cb,cob c),(nb,mob n),(mb,mob m)] ++ (memMO xb n ++ (memMO xa m ++ [])))) (Γ' := [(44,[],.agg (oc (oA xa m)).toArray),(46,[],.agg (oc (oA xb n)).toArray),(10,[],.pointer (some ⟨o10,0,none⟩)),(11,[],.pointer (some ⟨o11,0,none⟩)),(49,[],.agg (tc t).toArray),(47,[],.agg (cc c).toArray),(45,[],.agg (mc n).toArray),(43,[],.agg (mc m).toArray),(7,[],.pointer (some ⟨tb,0,none⟩)),(6,[],.pointer (some ⟨cb,0,none⟩)),(5,[],.pointer (some ⟨nb,0,none⟩)),(4,[],.pointer (some ⟨mb,0,none⟩))]) ?_ (by kernel_rfl) (by kernel_rfl) (List.Perm.refl _) (Conv.mk (by kernel_rfl))
           refine CfgA.many [5,8,11] (by kernel_rfl) (by decide) (fuel' := 7) (by kernel_rfl) ⟨?_,?_,?_,trivial⟩
           ·
            refine CfgI.eff (o := _) rfl (by kernel_rfl) (by kernel_rfl) (Eff.callH (vs := [.agg (cc c).toArray]) (fun x : K.Own => .agg (oc (oC x c)).toArray) [] (fun x => Own.o 30 (c.ps.flatMap dgc) x) (fun x => OwnOk x 32 c.ps.length (c.ps.flatMap dgc)) [(o10,zob),(o11,zob),(tb,tob t),(cb,cob c),(nb,mob n),(mb,mob m)] (memMO xb n ++ (memMO xa m ++ [])) rfl rfl Tryz.func19 rfl rfl (by kernel_rfl) (fun w1 h _ _ => oCommit c Rl w1 hC (h.hasR (fun e he => List.mem_cons_of_mem _ he)))) (fun _ _ => (.cons _ (.cons _ (.cons_cons _ (.cons_cons _ (.cons_cons _ (.cons_cons _ (List.nil_sublist _)))))))) ?_
            rintro oc5 hoc5
            exact CfgA.to (IH (some xa,some xb,some oc5,none,none,some o10,some o11,none) ⟨hxa,hxb,hoc5,(fun _ => rfl),(fun _ => rfl),nofun,trivial⟩ (lt4 (by kernel_rfl))) (by kernel_rfl) (by kernel_rfl) (.refl _) (Conv.mk (by kernel_rfl))
           ·
            refine CfgI.eff (o := _) rfl (by kernel_rfl) (by kernel_rfl) (Eff.alloc (z := (.agg (oc ⟨0,m0,c0,t0⟩).toArray)) rfl (by kernel_rfl)) (fun _ _ => (.cons _ (.cons _ (.cons _ (.cons_cons _ (.cons_cons _ (.cons_cons _ (.cons_cons _ (List.nil_sublist _))))))))) ?_
            rintro o9 ⟨ho9,no9⟩
            exact CfgA.to (IH (some xa,some xb,none,none,some o9,some o10,some o11,none) ⟨hxa,hxb,trivial,(fun _ => rfl),nofun,nofun,trivial⟩ (lt4 (by kernel_rfl))) (by kernel_rfl) (by kernel_rfl) (.refl _) (Conv.mk (by kernel_rfl))
           ·
            refine CfgI.eff (o := _) rfl (by kernel_rfl) (by kernel_rfl) (Eff.alloc (z := (.agg (oc ⟨0,m0,c0,t0⟩).toArray)) rfl (by kernel_rfl)) (fun _ _ => (.cons _ (.cons _ (.cons _ (.cons_cons _ (.cons_cons _ (.cons_cons _ (.cons_cons _ (List.nil_sublist _))))))))) ?_
            rintro o12 ⟨ho12,no12⟩
            exact CfgA.to (IH (some xa,some xb,none,none,none,some o10,some o11,some o12) ⟨hxa,hxb,trivial,(fun _ => rfl),nofun,nofun,trivial⟩ (lt4 (by kernel_rfl))) (by kernel_rfl) (by kernel_rfl) (pmid (l₁ := [(o10,zob),(o11,zob)])) (Conv.mk (by kernel_rfl))
          ·
           have hxa : MOk xa m := pp1
           have hxb : MOk xb n := pp3
           refine CfgA.to (l' := #[true,true,true,true,true,false,true,false,false,true,true,true,false,false,false,false]) (fuel' := 7) (O' := ([(o10,zob),(o11,zob),(o12,zob),(tb,tob t),(cb,cob c),(nb,mob n),(mb,mob m)] ++ (memMO xb n ++ (memMO xa m ++ [])))) (Γ' := [(44,[],.agg (oc (oA xa m)).toArray),(46,[],.agg (oc (oA xb n)).toArray),(10,[],.pointer (some ⟨o10,0,none⟩)),(11,[],.pointer (some ⟨o11,0,none⟩)),(12,[],.pointer (some ⟨o12,0,none⟩)),(49,[],.agg (tc t).toArray),(47,[],.agg (cc c).toArray),(45,[],.agg (mc n).toArray),(43,[],.agg (mc m).toArray),(7,[],.pointer (some ⟨tb,0,none⟩)),(6,[],.pointer (some ⟨cb,0,none⟩)),(5,[],.pointer (some ⟨nb,0,none⟩)),(4,[],.pointer (some ⟨mb,0,none⟩))]) ?_ (by kernel_rfl) (by kernel_rfl) (List.Perm.refl _) (Conv.mk (by kernel_rfl))
           refine CfgA.many [5,8] (by kernel_rfl) (by decide) (fuel' := 6) (by kernel_rfl) ⟨?_,?_,trivial⟩
           ·
            refine CfgI.eff (o := _) rfl (by kernel_rfl) (by kernel_rfl) (Eff.callH (vs := [.agg (cc c).toArray]) (fun x : K.Own => .agg (oc (oC x c)).toArray) [] (fun x => Own.o 30 (c.ps.flatMap dgc) x) (fun x => OwnOk x 32 c.ps.length (c.ps.flatMap dgc)) [(o10,zob),(o11,zob),(o12,zob),(tb,tob t),(cb,cob c),(nb,mob n),(mb,mob m)] (memMO xb n ++ (memMO xa m ++ [])) rfl rfl Tryz.func19 rfl rfl (by kernel_rfl) (fun w1 h _ _ => oCommit c Rl w1 hC (h.hasR (fun e he => List.mem_cons_of_mem _ he)))) (fun _ _ => (.cons _ (.cons _ (.cons _ (.cons_cons _ (.cons_cons _ (.cons_cons _ (.cons_cons _ (List.nil_sublist _))))))))) ?_
            rintro oc5 hoc5
            exact CfgA.to (IH (some xa,some xb,some oc5,none,none,some o10,some o11,some o12) ⟨hxa,hxb,hoc5,(fun _ => rfl),(fun _ => rfl),nofun,trivial⟩ (lt4 (by kernel_rfl))) (by kernel_rfl) (by kernel_rfl) (.refl _) (Conv.mk (by kernel_rfl))
           ·
            refine CfgI.eff (o := _) rfl (by kernel_rfl) (by kernel_rfl) (Eff.alloc (z := (.agg (oc ⟨0,m0,c0,t0⟩).toArray)) rfl (by kernel_rfl)) (fun _ _ => (.cons _ (.cons _ (.cons _ (.cons _ (.cons_cons _ (.cons_cons _ (.cons_cons _ (.cons_cons _ (List.nil_sublist _)))))))))) ?_
            rintro o9 ⟨ho9,no9⟩
            exact CfgA.to (IH (some xa,some xb,none,none,some o9,some o10,some o11,some o12) ⟨hxa,hxb,trivial,(fun _ => rfl),nofun,nofun,trivial⟩ (lt4 (by kernel_rfl))) (by kernel_rfl) (by kernel_rfl) (.refl _) (Conv.mk (by kernel_rfl))
       ·
        rcases oo9 with _ | o10
        ·
         rcases oo10 with _ | o11
         ·
          rcases oo11 with _ | o12
          ·
           have hxa : MOk xa m := pp1
           have hxb : MOk xb n := pp3
           refine CfgA.to (l' := #[true,true,true,true,true,false,true,false,true,false,false,false,false,false,false,false]) (fuel' := 9) (O' := ([(o9,zob),(tb,tob t),(cb,cob c),(nb,mob n),(mb,mob m)] ++ (memMO xb n ++ (memMO xa m ++ [])))) (Γ' := [(44,[],.agg (oc (oA xa m)).toArray),(46,[],.agg (oc (oA xb n)).toArray),(9,[],.pointer (some ⟨o9,0,none⟩)),(49,[],.agg (tc t).toArray),(47,[],.agg (cc c).toArray),(45,[],.agg (mc n).toArray),(43,[],.agg (mc m).toArray),(7,[],.pointer (some ⟨tb,0,none⟩)),(6,[],.pointer (some ⟨cb,0,none⟩)),(5,[],.pointer (some ⟨nb,0,none⟩)),(4,[],.pointer (some ⟨mb,0,none⟩))]) ?_ (by kernel_rfl) (by kernel_rfl) (List.Perm.refl _) (Conv.mk (by kernel_rfl))
           refine CfgA.many [5,9,10,11] (by kernel_rfl) (by decide) (fuel' := 8) (by kernel_rfl) ⟨?_,?_,?_,?_,trivial⟩
           ·
            refine CfgI.eff (o := _) rfl (by kernel_rfl) (by kernel_rfl) (Eff.callH (vs := [.agg (cc c).toArray]) (fun x : K.Own => .agg (oc (oC x c)).toArray) [] (fun x => Own.o 30 (c.ps.flatMap dgc) x) (fun x => OwnOk x 32 c.ps.length (c.ps.flatMap dgc)) [(o9,zob),(tb,tob t),(cb,cob c),(nb,mob n),(mb,mob m)] (memMO xb n ++ (memMO xa m ++ [])) rfl rfl Tryz.func19 rfl rfl (by kernel_rfl) (fun w1 h _ _ => oCommit c Rl w1 hC (h.hasR (fun e he => List.mem_cons_of_mem _ he)))) (fun _ _ => (.cons _ (.cons_cons _ (.cons_cons _ (.cons_cons _ (.cons_cons _ (List.nil_sublist _))))))) ?_
            rintro oc5 hoc5
            exact CfgA.to (IH (some xa,some xb,some oc5,none,some o9,none,none,none) ⟨hxa,hxb,hoc5,(fun _ => rfl),(fun _ => rfl),nofun,trivial⟩ (lt4 (by kernel_rfl))) (by kernel_rfl) (by kernel_rfl) (.refl _) (Conv.mk (by kernel_rfl))
           ·
            refine CfgI.eff (o := _) rfl (by kernel_rfl) (by kernel_rfl) (Eff.alloc (z := (.agg (oc ⟨0,m0,c0,t0⟩).toArray)) rfl (by kernel_rfl)) (fun _ _ => (.cons _ (.cons _ (.cons_cons _ (.cons_cons _ (.cons_cons _ (.cons_cons _ (List.nil_sublist _)))))))) ?_
            rintro o10 ⟨ho10,no10⟩
            exact CfgA.to (IH (some xa,some xb,none,none,some o9,some o10,none,none) ⟨hxa,hxb,trivial,(fun _ => rfl),nofun,nofun,trivial⟩ (lt4 (by kernel_rfl))) (by kernel_rfl) (by kernel_rfl) (pmid (l₁ := [(o9,zob)])) (Conv.mk (by kernel_rfl))
           ·
            refine CfgI.eff (o := _) rfl (by kernel_rfl) (by kernel_rfl) (Eff.alloc (z := (.agg (oc ⟨0,m0,c0,t0⟩).toArray)) rfl (by kernel_rfl)) (fun _ _ => (.cons _ (.cons _ (.cons_cons _ (.cons_cons _ (.cons_cons _ (.cons_cons _ (List.nil_sublist _)))))))) ?_
            rintro o11 ⟨ho11,no11⟩
            exact CfgA.to (IH (some xa,some xb,none,none,some o9,none,some o11,none) ⟨hxa,hxb,trivial,(fun _ => rfl),nofun,nofun,trivial⟩ (lt4 (by kernel_rfl))) (by kernel_rfl) (by kernel_rfl) (pmid (l₁ := [(o9,zob)])) (Conv.mk (by kernel_rfl))
           ·
            refine CfgI.eff (o := _) rfl (by kernel_rfl) (by kernel_rfl) (Eff.alloc (z := (.agg (oc ⟨0,m0,c0,t0⟩).toArray)) rfl (by kernel_rfl)) (fun _ _ => (.cons _ (.cons _ (.cons_cons _ (.cons_cons _ (.cons_cons _ (.cons_cons _ (List.nil_sublist _)))))))) ?_
            rintro o12 ⟨ho12,no12⟩
            exact CfgA.to (IH (some xa,some xb,none,none,some o9,none,none,some o12) ⟨hxa,hxb,trivial,(fun _ => rfl),nofun,nofun,trivial⟩ (lt4 (by kernel_rfl))) (by kernel_rfl) (by kernel_rfl) (pmid (l₁ := [(o9,zob)])) (Conv.mk (by kernel_rfl))
          ·
           have hxa : MOk xa m := pp1
           have hxb : MOk xb n := pp3
           refine CfgA.to (l' := #[true,true,true,true,true,false,true,false,true,false,false,true,false,false,false,false]) (fuel' := 8) (O' := ([(o9,zob),(o12,zob),(tb,tob t),(cb,cob c),(nb,mob n),(mb,mob m)] ++ (memMO xb n ++ (memMO xa m ++ [])))) (Γ' := [(44,[],.agg (oc (oA xa m)).toArray),(46,[],.agg (oc (oA xb n)).toArray),(9,[],.pointer (some ⟨o9,0,none⟩)),(12,[],.pointer (some ⟨o12,0,none⟩)),(49,[],.agg (tc t).toArray),(47,[],.agg (cc c).toArray),(45,[],.agg (mc n).toArray),(43,[],.agg (mc m).toArray),(7,[],.pointer (some ⟨tb,0,none⟩)),(6,[],.pointer (some ⟨cb,0,none⟩)),(5,[],.pointer (some ⟨nb,0,none⟩)),(4,[],.pointer (some ⟨mb,0,none⟩))]) ?_ (by kernel_rfl) (by kernel_rfl) (List.Perm.refl _) (Conv.mk (by kernel_rfl))
           refine CfgA.many [5,9,10] (by kernel_rfl) (by decide) (fuel' := 7) (by kernel_rfl) ⟨?_,?_,?_,trivial⟩
           ·
            refine CfgI.eff (o := _) rfl (by kernel_rfl) (by kernel_rfl) (Eff.callH (vs := [.agg (cc c).toArray]) (fun x : K.Own => .agg (oc (oC x c)).toArray) [] (fun x => Own.o 30 (c.ps.flatMap dgc) x) (fun x => OwnOk x 32 c.ps.length (c.ps.flatMap dgc)) [(o9,zob),(o12,zob),(tb,tob t),(cb,cob c),(nb,mob n),(mb,mob m)] (memMO xb n ++ (memMO xa m ++ [])) rfl rfl Tryz.func19 rfl rfl (by kernel_rfl) (fun w1 h _ _ => oCommit c Rl w1 hC (h.hasR (fun e he => List.mem_cons_of_mem _ he)))) (fun _ _ => (.cons _ (.cons _ (.cons_cons _ (.cons_cons _ (.cons_cons _ (.cons_cons _ (List.nil_sublist _)))))))) ?_
            rintro oc5 hoc5
            exact CfgA.to (IH (some xa,some xb,some oc5,none,some o9,none,none,some o12) ⟨hxa,hxb,hoc5,(fun _ => rfl),(fun _ => rfl),nofun,trivial⟩ (lt4 (by kernel_rfl))) (by kernel_rfl) (by kernel_rfl) (.refl _) (Conv.mk (by kernel_rfl))
           ·
            refine CfgI.eff (o := _) rfl (by kernel_rfl) (by kernel_rfl) (Eff.alloc (z := (.agg (oc ⟨0,m0,c0,t0⟩).toArray)) rfl (by kernel_rfl)) (fun _ _ => (.cons _ (.cons _ (.cons _ (.cons_cons _ (.cons_cons _ (.cons_cons _ (.cons_cons _ (List.nil_sublist _))))))))) ?_
            rintro o10 ⟨ho10,no10⟩
            exact CfgA.to (IH (some xa,some xb,none,none,some o9,some o10,none,some o12) ⟨hxa,hxb,trivial,(fun _ => rfl),nofun,nofun,trivial⟩ (lt4 (by kernel_rfl))) (by kernel_rfl) (by kernel_rfl) (pmid (l₁ := [(o9,zob)])) (Conv.mk (by kernel_rfl))
           ·
            refine CfgI.eff (o := _) rfl (by kernel_rfl) (by kernel_rfl) (Eff.alloc (z := (.agg (oc ⟨0,m0,c0,t0⟩).toArray)) rfl (by kernel_rfl)) (fun _ _ => (.cons _ (.cons _ (.cons _ (.cons_cons _ (.cons_cons _ (.cons_cons _ (.cons_cons _ (List.nil_sublist _))))))))) ?_
            rintro o11 ⟨ho11,no11⟩
            exact CfgA.to (IH (some xa,some xb,none,none,some o9,none,some o11,some o12) ⟨hxa,hxb,trivial,(fun _ => rfl),nofun,nofun,trivial⟩ (lt4 (by kernel_rfl))) (by kernel_rfl) (by kernel_rfl) (pmid (l₁ := [(o9,zob)])) (Conv.mk (by kernel_rfl))
         ·
          rcases oo11 with _ | o12
          ·
           have hxa : MOk xa m := pp1
           have hxb : MOk xb n := pp3
           refine CfgA.to (l' := #[true,true,true,true,true,false,true,false,true,false,true,false,false,false,false,false]) (fuel' := 8) (O' := ([(o9,zob),(o11,zob),(tb,tob t),(cb,cob c),(nb,mob n),(mb,mob m)] ++ (memMO xb n ++ (memMO xa m ++ [])))) (Γ' := [(44,[],.agg (oc (oA xa m)).toArray),(46,[],.agg (oc (oA xb n)).toArray),(9,[],.pointer (some ⟨o9,0,none⟩)),(11,[],.pointer (some ⟨o11,0,none⟩)),(49,[],.agg (tc t).toArray),(47,[],.agg (cc c).toArray),(45,[],.agg (mc n).toArray),(43,[],.agg (mc m).toArray),(7,[],.pointer (some ⟨tb,0,none⟩)),(6,[],.pointer (some ⟨cb,0,none⟩)),(5,[],.pointer (some ⟨nb,0,none⟩)),(4,[],.pointer (some ⟨mb,0,none⟩))]) ?_ (by kernel_rfl) (by kernel_rfl) (List.Perm.refl _) (Conv.mk (by kernel_rfl))
           refine CfgA.many [5,9,11] (by kernel_rfl) (by decide) (fuel' := 7) (by kernel_rfl) ⟨?_,?_,?_,trivial⟩
           ·
            refine CfgI.eff (o := _) rfl (by kernel_rfl) (by kernel_rfl) (Eff.callH (vs := [.agg (cc c).toArray]) (fun x : K.Own => .agg (oc (oC x c)).toArray) [] (fun x => Own.o 30 (c.ps.flatMap dgc) x) (fun x => OwnOk x 32 c.ps.length (c.ps.flatMap dgc)) [(o9,zob),(o11,zob),(tb,tob t),(cb,cob c),(nb,mob n),(mb,mob m)] (memMO xb n ++ (memMO xa m ++ [])) rfl rfl Tryz.func19 rfl rfl (by kernel_rfl) (fun w1 h _ _ => oCommit c Rl w1 hC (h.hasR (fun e he => List.mem_cons_of_mem _ he)))) (fun _ _ => (.cons _ (.cons _ (.cons_cons _ (.cons_cons _ (.cons_cons _ (.cons_cons _ (List.nil_sublist _)))))))) ?_
            rintro oc5 hoc5
            exact CfgA.to (IH (some xa,some xb,some oc5,none,some o9,none,some o11,none) ⟨hxa,hxb,hoc5,(fun _ => rfl),(fun _ => rfl),nofun,trivial⟩ (lt4 (by kernel_rfl))) (by kernel_rfl) (by kernel_rfl) (.refl _) (Conv.mk (by kernel_rfl))
           ·
            refine CfgI.eff (o := _) rfl (by kernel_rfl) (by kernel_rfl) (Eff.alloc (z := (.agg (oc ⟨0,m0,c0,t0⟩).toArray)) rfl (by kernel_rfl)) (fun _ _ => (.cons _ (.cons _ (.cons _ (.cons_cons _ (.cons_cons _ (.cons_cons _ (.cons_cons _ (List.nil_sublist _))))))))) ?_
            rintro o10 ⟨ho10,no10⟩
            exact CfgA.to (IH (some xa,some xb,none,none,some o9,some o10,some o11,none) ⟨hxa,hxb,trivial,(fun _ => rfl),nofun,nofun,trivial⟩ (lt4 (by kernel_rfl))) (by kernel_rfl) (by kernel_rfl) (pmid (l₁ := [(o9,zob)])) (Conv.mk (by kernel_rfl))
           ·
            refine CfgI.eff (o := _) rfl (by kernel_rfl) (by kernel_rfl) (Eff.alloc (z := (.agg (oc ⟨0,m0,c0,t0⟩).toArray)) rfl (by kernel_rfl)) (fun _ _ => (.cons _ (.cons _ (.cons _ (.cons_cons _ (.cons_cons _ (.cons_cons _ (.cons_cons _ (List.nil_sublist _))))))))) ?_
            rintro o12 ⟨ho12,no12⟩
            exact CfgA.to (IH (some xa,some xb,none,none,some o9,none,some o11,some o12) ⟨hxa,hxb,trivial,(fun _ => rfl),nofun,nofun,trivial⟩ (lt4 (by kernel_rfl))) (by kernel_rfl) (by kernel_rfl) (pmid (l₁ := [(o9,zob),(o11,zob)])) (Conv.mk (by kernel_rfl))
          ·
           have hxa : MOk xa m := pp1
           have hxb : MOk xb n := pp3
           refine CfgA.to (l' := #[true,true,true,true,true,false,true,false,true,false,true,true,false,false,false,false]) (fuel' := 7) (O' := ([(o9,zob),(o11,zob),(o12,zob),(tb,tob t),(cb,cob c),(nb,mob n),(mb,mob m)] ++ (memMO xb n ++ (memMO xa m ++ [])))) (Γ' := [(44,[],.agg (oc (oA xa m)).toArray),(46,[],.agg (oc (oA xb n)).toArray),(9,[],.pointer (some ⟨o9,0,none⟩)),(11,[],.pointer (some ⟨o11,0,none⟩)),(12,[],.pointer (some ⟨o12,0,none⟩)),(49,[],.agg (tc t).toArray),(47,[],.agg (cc c).toArray),(45,[],.agg (mc n).toArray),(43,[],.agg (mc m).toArray),(7,[],.pointer (some ⟨tb,0,none⟩)),(6,[],.pointer (some ⟨cb,0,none⟩)),(5,[],.pointer (some ⟨nb,0,none⟩)),(4,[],.pointer (some ⟨mb,0,none⟩))]) ?_ (by kernel_rfl) (by kernel_rfl) (List.Perm.refl _) (Conv.mk (by kernel_rfl))
           refine CfgA.many [5,9] (by kernel_rfl) (by decide) (fuel' := 6) (by kernel_rfl) ⟨?_,?_,trivial⟩
           ·
            refine CfgI.eff (o := _) rfl (by kernel_rfl) (by kernel_rfl) (Eff.callH (vs := [.agg (cc c).toArray]) (fun x : K.Own => .agg (oc (oC x c)).toArray) [] (fun x => Own.o 30 (c.ps.flatMap dgc) x) (fun x => OwnOk x 32 c.ps.length (c.ps.flatMap dgc)) [(o9,zob),(o11,zob),(o12,zob),(tb,tob t),(cb,cob c),(nb,mob n),(mb,mob m)] (memMO xb n ++ (memMO xa m ++ [])) rfl rfl Tryz.func19 rfl rfl (by kernel_rfl) (fun w1 h _ _ => oCommit c Rl w1 hC (h.hasR (fun e he => List.mem_cons_of_mem _ he)))) (fun _ _ => (.cons _ (.cons _ (.cons _ (.cons_cons _ (.cons_cons _ (.cons_cons _ (.cons_cons _ (List.nil_sublist _))))))))) ?_
            rintro oc5 hoc5
            exact CfgA.to (IH (some xa,some xb,some oc5,none,some o9,none,some o11,some o12) ⟨hxa,hxb,hoc5,(fun _ => rfl),(fun _ => rfl),nofun,trivial⟩ (lt4 (by kernel_rfl))) (by kernel_rfl) (by kernel_rfl) (.refl _) (Conv.mk (by kernel_rfl))
           ·
            refine CfgI.eff (o := _) rfl (by kernel_rfl) (by kernel_rfl) (Eff.alloc (z := (.agg (oc ⟨0,m0,c0,t0⟩).toArray)) rfl (by kernel_rfl)) (fun _ _ => (.cons _ (.cons _ (.cons _ (.cons _ (.cons_cons _ (.cons_cons _ (.cons_cons _ (.cons_cons _ (List.nil_sublist _)))))))))) ?_
            rintro o10 ⟨ho10,no10⟩
            exact CfgA.to (IH (some xa,some xb,none,none,some o9,some o10,some o11,some o12) ⟨hxa,hxb,trivial,(fun _ => rfl),nofun,nofun,trivial⟩ (lt4 (by kernel_rfl))) (by kernel_rfl) (by kernel_rfl) (pmid (l₁ := [(o9,zob)])) (Conv.mk (by kernel_rfl))
        ·
         rcases oo10 with _ | o11
         ·
          rcases oo11 with _ | o12
          ·
           have hxa : MOk xa m := pp1
           have hxb : MOk xb n := pp3
           refine CfgA.to (l' := #[true,true,true,true,true,false,true,false,true,true,false,false,false,false,false,false]) (fuel' := 8) (O' := ([(o9,zob),(o10,zob),(tb,tob t),(cb,cob c),(nb,mob n),(mb,mob m)] ++ (memMO xb n ++ (memMO xa m ++ [])))) (Γ' := [(44,[],.agg (oc (oA xa m)).toArray),(46,[],.agg (oc (oA xb n)).toArray),(9,[],.pointer (some ⟨o9,0,none⟩)),(10,[],.pointer (some ⟨o10,0,none⟩)),(49,[],.agg (tc t).toArray),(47,[],.agg (cc c).toArray),(45,[],.agg (mc n).toArray),(43,[],.agg (mc m).toArray),(7,[],.pointer (some ⟨tb,0,none⟩)),(6,[],.pointer (some ⟨cb,0,none⟩)),(5,[],.pointer (some ⟨nb,0,none⟩)),(4,[],.pointer (some ⟨mb,0,none⟩))]) ?_ (by kernel_rfl) (by kernel_rfl) (List.Perm.refl _) (Conv.mk (by kernel_rfl))
           refine CfgA.many [5,10,11] (by kernel_rfl) (by decide) (fuel' := 7) (by kernel_rfl) ⟨?_,?_,?_,trivial⟩
           ·
            refine CfgI.eff (o := _) rfl (by kernel_rfl) (by kernel_rfl) (Eff.callH (vs := [.agg (cc c).toArray]) (fun x : K.Own => .agg (oc (oC x c)).toArray) [] (fun x => Own.o 30 (c.ps.flatMap dgc) x) (fun x => OwnOk x 32 c.ps.length (c.ps.flatMap dgc)) [(o9,zob),(o10,zob),(tb,tob t),(cb,cob c),(nb,mob n),(mb,mob m)] (memMO xb n ++ (memMO xa m ++ [])) rfl rfl Tryz.func19 rfl rfl (by kernel_rfl) (fun w1 h _ _ => oCommit c Rl w1 hC (h.hasR (fun e he => List.mem_cons_of_mem _ he)))) (fun _ _ => (.cons _ (.cons _ (.cons_cons _ (.cons_cons _ (.cons_cons _ (.cons_cons _ (List.nil_sublist _)))))))) ?_
            rintro oc5 hoc5
            exact CfgA.to (IH (some xa,some xb,some oc5,none,some o9,some o10,none,none) ⟨hxa,hxb,hoc5,(fun _ => rfl),(fun _ => rfl),nofun,trivial⟩ (lt4 (by kernel_rfl))) (by kernel_rfl) (by kernel_rfl) (.refl _) (Conv.mk (by kernel_rfl))
           ·
            refine CfgI.eff (o := _) rfl (by kernel_rfl) (by kernel_rfl) (Eff.alloc (z := (.agg (oc ⟨0,m0,c0,t0⟩).toArray)) rfl (by kernel_rfl)) (fun _ _ => (.cons _ (.cons _ (.cons _ (.cons_cons _ (.cons_cons _ (.cons_cons _ (.cons_cons _ (List.nil_sublist _))))))))) ?_
            rintro o11 ⟨ho11,no11⟩
            exact CfgA.to (IH (some xa,some xb,none,none,some o9,some o10,some o11,none) ⟨hxa,hxb,trivial,(fun _ => rfl),nofun,nofun,trivial⟩ (lt4 (by kernel_rfl))) (by kernel_rfl) (by kernel_rfl) (pmid (l₁ := [(o9,zob),(o10,zob)])) (Conv.mk (by kernel_rfl))
           ·
            refine CfgI.eff (o := _) rfl (by kernel_rfl) (by kernel_rfl) (Eff.alloc (z := (.agg (oc ⟨0,m0,c0,t0⟩).toArray)) rfl (by kernel_rfl)) (fun _ _ => (.cons _ (.cons _ (.cons _ (.cons_cons _ (.cons_cons _ (.cons_cons _ (.cons_cons _ (List.nil_sublist _))))))))) ?_
            rintro o12 ⟨ho12,no12⟩
            exact CfgA.to (IH (some xa,some xb,none,none,some o9,some o10,none,some o12) ⟨hxa,hxb,trivial,(fun _ => rfl),nofun,nofun,trivial⟩ (lt4 (by kernel_rfl))) (by kernel_rfl) (by kernel_rfl) (pmid (l₁ := [(o9,zob),(o10,zob)])) (Conv.mk (by kernel_rfl))
          ·
           have hxa : MOk xa m := pp1
           have hxb : MOk xb n := pp3
           refine CfgA.to (l' := #[true,true,true,true,true,false,true,false,true,true,false,true,false,false,false,false]) (fuel' := 7) (O' := ([(o9,zob),(o10,zob),(o12,zob),(tb,tob t),(cb,cob c),(nb,mob n),(mb,mob m)] ++ (memMO xb n ++ (memMO xa m ++ [])))) (Γ' := [(44,[],.agg (oc (oA xa m)).toArray),(46,[],.agg (oc (oA xb n)).toArray),(9,[],.pointer (some ⟨o9,0,none⟩)),(10,[],.pointer (some ⟨o10,0,none⟩)),(12,[],.pointer (some ⟨o12,0,none⟩)),(49,[],.agg (tc t).toArray),(47,[],.agg (cc c).toArray),(45,[],.agg (mc n).toArray),(43,[],.agg (mc m).toArray),(7,[],.pointer (some ⟨tb,0,none⟩)),(6,[],.pointer (some ⟨cb,0,none⟩)),(5,[],.pointer (some ⟨nb,0,none⟩)),(4,[],.pointer (some ⟨mb,0,none⟩))]) ?_ (by kernel_rfl) (by kernel_rfl) (List.Perm.refl _) (Conv.mk (by kernel_rfl))
           refine CfgA.many [5,10] (by kernel_rfl) (by decide) (fuel' := 6) (by kernel_rfl) ⟨?_,?_,trivial⟩
           ·
            refine CfgI.eff (o := _) rfl (by kernel_rfl) (by kernel_rfl) (Eff.callH (vs := [.agg (cc c).toArray]) (fun x : K.Own => .agg (oc (oC x c)).toArray) [] (fun x => Own.o 30 (c.ps.flatMap dgc) x) (fun x => OwnOk x 32 c.ps.length (c.ps.flatMap dgc)) [(o9,zob),(o10,zob),(o12,zob),(tb,tob t),(cb,cob c),(nb,mob n),(mb,mob m)] (memMO xb n ++ (memMO xa m ++ [])) rfl rfl Tryz.func19 rfl rfl (by kernel_rfl) (fun w1 h _ _ => oCommit c Rl w1 hC (h.hasR (fun e he => List.mem_cons_of_mem _ he)))) (fun _ _ => (.cons _ (.cons _ (.cons _ (.cons_cons _ (.cons_cons _ (.cons_cons _ (.cons_cons _ (List.nil_sublist _))))))))) ?_
            rintro oc5 hoc5
            exact CfgA.to (IH (some xa,some xb,some oc5,none,some o9,some o10,none,some o12) ⟨hxa,hxb,hoc5,(fun _ => rfl),(fun _ => rfl),nofun,trivial⟩ (lt4 (by kernel_rfl))) (by kernel_rfl) (by kernel_rfl) (.refl _) (Conv.mk (by kernel_rfl))
           ·
            refine CfgI.eff (o := _) rfl (by kernel_rfl) (by kernel_rfl) (Eff.alloc (z := (.agg (oc ⟨0,m0,c0,t0⟩).toArray)) rfl (by kernel_rfl)) (fun _ _ => (.cons _ (.cons _ (.cons _ (.cons _ (.cons_cons _ (.cons_cons _ (.cons_cons _ (.cons_cons _ (List.nil_sublist _)))))))))) ?_
            rintro o11 ⟨ho11,no11⟩
            exact CfgA.to (IH (some xa,some xb,none,none,some o9,some o10,some o11,some o12) ⟨hxa,hxb,trivial,(fun _ => rfl),nofun,nofun,trivial⟩ (lt4 (by kernel_rfl))) (by kernel_rfl) (by kernel_rfl) (pmid (l₁ := [(o9,zob),(o10,zob)])) (Conv.mk (by kernel_rfl))
         ·
          rcases oo11 with _ | o12
          ·
           have hxa : MOk xa m := pp1
           have hxb : MOk xb n := pp3
           refine CfgA.to (l' := #[true,true,true,true,true,false,true,false,true,true,true,false,false,false,false,false]) (fuel' := 7) (O' := ([(o9,zob),(o10,zob),(o11,zob),(tb,tob t),(cb,cob c),(nb,mob n),(mb,mob m)] ++ (memMO xb n ++ (memMO xa m ++ [])))) (Γ' := [(44,[],.agg (oc (oA xa m)).toArray),(46,[],.agg (oc (oA xb n)).toArray),(9,[],.pointer (some ⟨o9,0,none⟩)),(10,[],.pointer (some ⟨o10,0,none⟩)),(11,[],.pointer (some ⟨o11,0,none⟩)),(49,[],.agg (tc t).toArray),(47,[],.agg (cc c).toArray),(45,[],.agg (mc n).toArray),(43,[],.agg (mc m).toArray),(7,[],.pointer (some ⟨tb,0,none⟩)),(6,[],.pointer (some ⟨cb,0,none⟩)),(5,[],.pointer (some ⟨nb,0,none⟩)),(4,[],.pointer (some ⟨mb,0,none⟩))]) ?_ (by kernel_rfl) (by kernel_rfl) (List.Perm.refl _) (Conv.mk (by kernel_rfl))
           refine CfgA.many [5,11] (by kernel_rfl) (by decide) (fuel' := 6) (by kernel_rfl) ⟨?_,?_,trivial⟩
           ·
            refine CfgI.eff (o := _) rfl (by kernel_rfl) (by kernel_rfl) (Eff.callH (vs := [.agg (cc c).toArray]) (fun x : K.Own => .agg (oc (oC x c)).toArray) [] (fun x => Own.o 30 (c.ps.flatMap dgc) x) (fun x => OwnOk x 32 c.ps.length (c.ps.flatMap dgc)) [(o9,zob),(o10,zob),(o11,zob),(tb,tob t),(cb,cob c),(nb,mob n),(mb,mob m)] (memMO xb n ++ (memMO xa m ++ [])) rfl rfl Tryz.func19 rfl rfl (by kernel_rfl) (fun w1 h _ _ => oCommit c Rl w1 hC (h.hasR (fun e he => List.mem_cons_of_mem _ he)))) (fun _ _ => (.cons _ (.cons _ (.cons _ (.cons_cons _ (.cons_cons _ (.cons_cons _ (.cons_cons _ (List.nil_sublist _))))))))) ?_
            rintro oc5 hoc5
            exact CfgA.to (IH (some xa,some xb,some oc5,none,some o9,some o10,some o11,none) ⟨hxa,hxb,hoc5,(fun _ => rfl),(fun _ => rfl),nofun,trivial⟩ (lt4 (by kernel_rfl))) (by kernel_rfl) (by kernel_rfl) (.refl _) (Conv.mk (by kernel_rfl))
           ·
            refine CfgI.eff (o := _) rfl (by kernel_rfl) (by kernel_rfl) (Eff.alloc (z := (.agg (oc ⟨0,m0,c0,t0⟩).toArray)) rfl (by kernel_rfl)) (fun _ _ => (.cons _ (.cons _ (.cons _ (.cons _ (.cons_cons _ (.cons_cons _ (.cons_cons _ (.cons_cons _ (List.nil_sublist _)))))))))) ?_
            rintro o12 ⟨ho12,no12⟩
            exact CfgA.to (IH (some xa,some xb,none,none,some o9,some o10,some o11,some o12) ⟨hxa,hxb,trivial,(fun _ => rfl),nofun,nofun,trivial⟩ (lt4 (by kernel_rfl))) (by kernel_rfl) (by kernel_rfl) (pmid (l₁ := [(o9,zob),(o10,zob),(o11,zob)])) (Conv.mk (by kernel_rfl))
          ·
           have hxa : MOk xa m := pp1
           have hxb : MOk xb n := pp3
           refine CfgA.to (l' := #[true,true,true,true,true,false,true,false,true,true,true,true,false,false,false,false]) (fuel' := 6) (O' := ([(o9,zob),(o10,zob),(o11,zob),(o12,zob),(tb,tob t),(cb,cob c),(nb,mob n),(mb,mob m)] ++ (memMO xb n ++ (memMO xa m ++ [])))) (Γ' := [(44,[],.agg (oc (oA xa m)).toArray),(46,[],.agg (oc (oA xb n)).toArray),(9,[],.pointer (some ⟨o9,0,none⟩)),(10,[],.pointer (some ⟨o10,0,none⟩)),(11,[],.pointer (some ⟨o11,0,none⟩)),(12,[],.pointer (some ⟨o12,0,none⟩)),(49,[],.agg (tc t).toArray),(47,[],.agg (cc c).toArray),(45,[],.agg (mc n).toArray),(43,[],.agg (mc m).toArray),(7,[],.pointer (some ⟨tb,0,none⟩)),(6,[],.pointer (some ⟨cb,0,none⟩)),(5,[],.pointer (some ⟨nb,0,none⟩)),(4,[],.pointer (some ⟨mb,0,none⟩))]) ?_ (by kernel_rfl) (by kernel_rfl) (List.Perm.refl _) (Conv.mk (by kernel_rfl))
           refine CfgA.many [5] (by kernel_rfl) (by decide) (fuel' := 5) (by kernel_rfl) ⟨?_,trivial⟩
           ·
            refine CfgI.eff (o := _) rfl (by kernel_rfl) (by kernel_rfl) (Eff.callH (vs := [.agg (cc c).toArray]) (fun x : K.Own => .agg (oc (oC x c)).toArray) [] (fun x => Own.o 30 (c.ps.flatMap dgc) x) (fun x => OwnOk x 32 c.ps.length (c.ps.flatMap dgc)) [(o9,zob),(o10,zob),(o11,zob),(o12,zob),(tb,tob t),(cb,cob c),(nb,mob n),(mb,mob m)] (memMO xb n ++ (memMO xa m ++ [])) rfl rfl Tryz.func19 rfl rfl (by kernel_rfl) (fun w1 h _ _ => oCommit c Rl w1 hC (h.hasR (fun e he => List.mem_cons_of_mem _ he)))) (fun _ _ => (.cons _ (.cons _ (.cons _ (.cons _ (.cons_cons _ (.cons_cons _ (.cons_cons _ (.cons_cons _ (List.nil_sublist _)))))))))) ?_
            rintro oc5 hoc5
            exact CfgA.to (IH (some xa,some xb,some oc5,none,some o9,some o10,some o11,some o12) ⟨hxa,hxb,hoc5,(fun _ => rfl),(fun _ => rfl),nofun,trivial⟩ (lt4 (by kernel_rfl))) (by kernel_rfl) (by kernel_rfl) (.refl _) (Conv.mk (by kernel_rfl))
      ·
       exact absurd (dd7_5 rfl) (by decide)
     ·
      rcases oo7 with _ | ⟨⟩
      ·
       rcases oo8 with _ | o9
       ·
        rcases oo9 with _ | o10
        ·
         rcases oo10 with _ | o11
         ·
          rcases oo11 with _ | o12
          ·
           have hxa : MOk xa m := pp1
           have hxb : MOk xb n := pp3
           have hoc5 : OwnOk oc5 32 c.ps.length (c.ps.flatMap dgc) := pp5
           refine CfgA.to (l' := tF 7 9) (fuel' := 9) (O' := ([(tb,tob t),(cb,cob c),(nb,mob n),(mb,mob m)] ++ (Own.o 30 (c.ps.flatMap dgc) oc5 ++ (memMO xb n ++ (memMO xa m ++ []))))) (Γ' := [(44,[],.agg (oc (oA xa m)).toArray),(46,[],.agg (oc (oA xb n)).toArray),(48,[],.agg (oc (oC oc5 c)).toArray),(49,[],.agg (tc t).toArray),(47,[],.agg (cc c).toArray),(45,[],.agg (mc n).toArray),(43,[],.agg (mc m).toArray),(7,[],.pointer (some ⟨tb,0,none⟩)),(6,[],.pointer (some ⟨cb,0,none⟩)),(5,[],.pointer (some ⟨nb,0,none⟩)),(4,[],.pointer (some ⟨mb,0,none⟩))]) ?_ (by kernel_rfl) (by kernel_rfl) (List.Perm.refl _) (Conv.mk (by kernel_rfl))
           refine CfgA.many [7,8,9,10,11] (by kernel_rfl) (by decide) (fuel' := 8) (by kernel_rfl) ⟨?_,?_,?_,?_,?_,trivial⟩
           ·
            refine CfgI.eff (o := _) rfl (by kernel_rfl) (by kernel_rfl) (Eff.callA (vs := [.agg (tc t).toArray]) (.agg (oc (oT t)).toArray) rfl Tryz.func20 rfl rfl (by kernel_rfl) (fun w1 _ => oTag t w1 hd)) (fun _ _ => (.cons_cons _ (.cons_cons _ (.cons_cons _ (.cons_cons _ (List.nil_sublist _)))))) ?_
            rintro ⟨⟩ -
            exact CfgA.to (IH (some xa,some xb,some oc5,some (),none,none,none,none) ⟨hxa,hxb,hoc5,(fun _ => rfl),(fun _ => rfl),(fun _ => rfl),trivial⟩ (lt4 (by kernel_rfl))) (by kernel_rfl) (by kernel_rfl) (.refl _) (Conv.mk (by kernel_rfl))
           ·
            refine CfgI.eff (o := _) rfl (by kernel_rfl) (by kernel_rfl) (Eff.alloc (z := (.agg (oc ⟨0,m0,c0,t0⟩).toArray)) rfl (by kernel_rfl)) (fun _ _ => (.cons _ (.cons_cons _ (.cons_cons _ (.cons_cons _ (.cons_cons _ (List.nil_sublist _))))))) ?_
            rintro o9 ⟨ho9,no9⟩
            exact CfgA.to (IH (some xa,some xb,some oc5,none,some o9,none,none,none) ⟨hxa,hxb,hoc5,(fun _ => rfl),(fun _ => rfl),nofun,trivial⟩ (lt4 (by kernel_rfl))) (by kernel_rfl) (by kernel_rfl) (.refl _) (Conv.mk (by kernel_rfl))
           ·
            refine CfgI.eff (o := _) rfl (by kernel_rfl) (by kernel_rfl) (Eff.alloc (z := (.agg (oc ⟨0,m0,c0,t0⟩).toArray)) rfl (by kernel_rfl)) (fun _ _ => (.cons _ (.cons_cons _ (.cons_cons _ (.cons_cons _ (.cons_cons _ (List.nil_sublist _))))))) ?_
            rintro o10 ⟨ho10,no10⟩
            exact CfgA.to (IH (some xa,some xb,some oc5,none,none,some o10,none,none) ⟨hxa,hxb,hoc5,(fun _ => rfl),(fun _ => rfl),nofun,trivial⟩ (lt4 (by kernel_rfl))) (by kernel_rfl) (by kernel_rfl) (.refl _) (Conv.mk (by kernel_rfl))
           ·
            refine CfgI.eff (o := _) rfl (by kernel_rfl) (by kernel_rfl) (Eff.alloc (z := (.agg (oc ⟨0,m0,c0,t0⟩).toArray)) rfl (by kernel_rfl)) (fun _ _ => (.cons _ (.cons_cons _ (.cons_cons _ (.cons_cons _ (.cons_cons _ (List.nil_sublist _))))))) ?_
            rintro o11 ⟨ho11,no11⟩
            exact CfgA.to (IH (some xa,some xb,some oc5,none,none,none,some o11,none) ⟨hxa,hxb,hoc5,(fun _ => rfl),(fun _ => rfl),nofun,trivial⟩ (lt4 (by kernel_rfl))) (by kernel_rfl) (by kernel_rfl) (.refl _) (Conv.mk (by kernel_rfl))
           ·
            refine CfgI.eff (o := _) rfl (by kernel_rfl) (by kernel_rfl) (Eff.alloc (z := (.agg (oc ⟨0,m0,c0,t0⟩).toArray)) rfl (by kernel_rfl)) (fun _ _ => (.cons _ (.cons_cons _ (.cons_cons _ (.cons_cons _ (.cons_cons _ (List.nil_sublist _))))))) ?_
            rintro o12 ⟨ho12,no12⟩
            exact CfgA.to (IH (some xa,some xb,some oc5,none,none,none,none,some o12) ⟨hxa,hxb,hoc5,(fun _ => rfl),(fun _ => rfl),nofun,trivial⟩ (lt4 (by kernel_rfl))) (by kernel_rfl) (by kernel_rfl) (.refl _) (Conv.mk (by kernel_rfl))
          ·
           have hxa : MOk xa m := pp1
           have hxb : MOk xb n := pp3
           have hoc5 : OwnOk oc5 32 c.ps.length (c.ps.flatMap dgc) := pp5
           refine CfgA.to (l' := #[true,true,true,true,true,true,true,false,false,false,false,true,false,false,false,false]) (fuel' := 8) (O' := ([(o12,zob),(tb,tob t),(cb,cob c),(nb,mob n),(mb,mob m)] ++ (Own.o 30 (c.ps.flatMap dgc) oc5 ++ (memMO xb n ++ (memMO xa m ++ []))))) (Γ' := [(44,[],.agg (oc (oA xa m)).toArray),(46,[],.agg (oc (oA xb n)).toArray),(48,[],.agg (oc (oC oc5 c)).toArray),(12,[],.pointer (some ⟨o12,0,none⟩)),(49,[],.agg (tc t).toArray),(47,[],.agg (cc c).toArray),(45,[],.agg (mc n).toArray),(43,[],.agg (mc m).toArray),(7,[],.pointer (some ⟨tb,0,none⟩)),(6,[],.pointer (some ⟨cb,0,none⟩)),(5,[],.pointer (some ⟨nb,0,none⟩)),(4,[],.pointer (some ⟨mb,0,none⟩))]) ?_ (by kernel_rfl) (by kernel_rfl) (List.Perm.refl _) (Conv.mk (by kernel_rfl))
           refine CfgA.many [7,8,9,10] (by kernel_rfl) (by decide) (fuel' := 7) (by kernel_rfl) ⟨?_,?_,?_,?_,trivial⟩
           ·
            refine CfgI.eff (o := _) rfl (by kernel_rfl) (by kernel_rfl) (Eff.callA (vs := [.agg (tc t).toArray]) (.agg (oc (oT t)).toArray) rfl Tryz.func20 rfl rfl (by kernel_rfl) (fun w1 _ => oTag t w1 hd)) (fun _ _ => (.cons _ (.cons_cons _ (.cons_cons _ (.cons_cons _ (.cons_cons _ (List.nil_sublist _))))))) ?_
            rintro ⟨⟩ -
            exact CfgA.to (IH (some xa,some xb,some oc5,some (),none,none,none,some o12) ⟨hxa,hxb,hoc5,(fun _ => rfl),(fun _ => rfl),(fun _ => rfl),trivial⟩ (lt4 (by kernel_rfl))) (by kernel_rfl) (by kernel_rfl) (.refl _) (Conv.mk (by kernel_rfl))
           ·
            refine CfgI.eff (o := _) rfl (by kernel_rfl) (by kernel_rfl) (Eff.alloc (z := (.agg (oc ⟨0,m0,c0,t0⟩).toArray)) rfl (by kernel_rfl)) (fun _ _ => (.cons _ (.cons _ (.cons_cons _ (.cons_cons _ (.cons_cons _ (.cons_cons _ (List.nil_sublist _)))))))) ?_
            rintro o9 ⟨ho9,no9⟩
            exact CfgA.to (IH (some xa,some xb,some oc5,none,some o9,none,none,some o12) ⟨hxa,hxb,hoc5,(fun _ => rfl),(fun _ => rfl),nofun,trivial⟩ (lt4 (by kernel_rfl))) (by kernel_rfl) (by kernel_rfl) (.refl _) (Conv.mk (by kernel_rfl))
           ·
            refine CfgI.eff (o := _) rfl (by kernel_rfl) (by kernel_rfl) (Eff.alloc (z := (.agg (oc ⟨0,m0,c0,t0⟩).toArray)) rfl (by kernel_rfl)) (fun _ _ => (.cons _ (.cons _ (.cons_cons _ (.cons_cons _ (.cons_cons _ (.cons_cons _ (List.nil_sublist _)))))))) ?_
            rintro o10 ⟨ho10,no10⟩
            exact CfgA.to (IH (some xa,some xb,some oc5,none,none,some o10,none,some o12) ⟨hxa,hxb,hoc5,(fun _ => rfl),(fun _ => rfl),nofun,trivial⟩ (lt4 (by kernel_rfl))) (by kernel_rfl) (by kernel_rfl) (.refl _) (Conv.mk (by kernel_rfl))
           ·
            refine CfgI.eff (o := _) rfl (by kernel_rfl) (by kernel_rfl) (Eff.alloc (z := (.agg (oc ⟨0,m0,c0,t0⟩).toArray)) rfl (by kernel_rfl)) (fun _ _ => (.cons _ (.cons _ (.cons_cons _ (.cons_cons _ (.cons_cons _ (.cons_cons _ (List.nil_sublist _)))))))) ?_
            rintro o11 ⟨ho11,no11⟩
            exact CfgA.to (IH (some xa,some xb,some oc5,none,none,none,some o11,some o12) ⟨hxa,hxb,hoc5,(fun _ => rfl),(fun _ => rfl),nofun,trivial⟩ (lt4 (by kernel_rfl))) (by kernel_rfl) (by kernel_rfl) (.refl _) (Conv.mk (by kernel_rfl))
         ·
          rcases oo11 with _ | o12
          ·
           have hxa : MOk xa m := pp1
           have hxb : MOk xb n := pp3
           have hoc5 : OwnOk oc5 32 c.ps.length (c.ps.flatMap dgc) := pp5
           refine CfgA.to (l' := #[true,true,true,true,true,true,true,false,false,false,true,false,false,false,false,false]) (fuel' := 8) (O' := ([(o11,zob),(tb,tob t),(cb,cob c),(nb,mob n),(mb,mob m)] ++ (Own.o 30 (c.ps.flatMap dgc) oc5 ++ (memMO xb n ++ (memMO xa m ++ []))))) (Γ' := [(44,[],.agg (oc (oA xa m)).toArray),(46,[],.agg (oc (oA xb n)).toArray),(48,[],.agg (oc (oC oc5 c)).toArray),(11,[],.pointer (some ⟨o11,0,none⟩)),(49,[],.agg (tc t).toArray),(47,[],.agg (cc c).toArray),(45,[],.agg (mc n).toArray),(43,[],.agg (mc m).toArray),(7,[],.pointer (some ⟨tb,0,none⟩)),(6,[],.pointer (some ⟨cb,0,none⟩)),(5,[],.pointer (some ⟨nb,0,none⟩)),(4,[],.pointer (some ⟨mb,0,none⟩))]) ?_ (by kernel_rfl) (by kernel_rfl) (List.Perm.refl _) (Conv.mk (by kernel_rfl))
           refine CfgA.many [7,8,9,11] (by kernel_rfl) (by decide) (fuel' := 7) (by kernel_rfl) ⟨?_,?_,?_,?_,trivial⟩
           ·
            refine CfgI.eff (o := _) rfl (by kernel_rfl) (by kernel_rfl) (Eff.callA (vs := [.agg (tc t).toArray]) (.agg (oc (oT t)).toArray) rfl Tryz.func20 rfl rfl (by kernel_rfl) (fun w1 _ => oTag t w1 hd)) (fun _ _ => (.cons _ (.cons_cons _ (.cons_cons _ (.cons_cons _ (.cons_cons _ (List.nil_sublist _))))))) ?_
            rintro ⟨⟩ -
            exact CfgA.to (IH (some xa,some xb,some oc5,some (),none,none,some o11,none) ⟨hxa,hxb,hoc5,(fun _ => rfl),(fun _ => rfl),(fun _ => rfl),trivial⟩ (lt4 (by kernel_rfl))) (by kernel_rfl) (by kernel_rfl) (.refl _) (Conv.mk (by kernel_rfl))
           ·
            refine CfgI.eff (o := _) rfl (by kernel_rfl) (by kernel_rfl) (Eff.alloc (z := (.agg (oc ⟨0,m0,c0,t0⟩).toArray)) rfl (by kernel_rfl)) (fun _ _ => (.cons _ (.cons _ (.cons_cons _ (.cons_cons _ (.cons_cons _ (.cons_cons _ (List.nil_sublist _)))))))) ?_
            rintro o9 ⟨ho9,no9⟩
            exact CfgA.to (IH (some xa,some xb,some oc5,none,some o9,none,some o11,none) ⟨hxa,hxb,hoc5,(fun _ => rfl),(fun _ => rfl),nofun,trivial⟩ (lt4 (by kernel_rfl))) (by kernel_rfl) (by kernel_rfl) (.refl _) (Conv.mk (by kernel_rfl))
           ·
            refine CfgI.eff (o := _) rfl (by kernel_rfl) (by kernel_rfl) (Eff.alloc (z := (.agg (oc ⟨0,m0,c0,t0⟩).toArray)) rfl (by kernel_rfl)) (fun _ _ => (.cons _ (.cons _ (.cons_cons _ (.cons_cons _ (.cons_cons _ (.cons_cons _ (List.nil_sublist _)))))))) ?_
            rintro o10 ⟨ho10,no10⟩
            exact CfgA.to (IH (some xa,some xb,some oc5,none,none,some o10,some o11,none) ⟨hxa,hxb,hoc5,(fun _ => rfl),(fun _ => rfl),nofun,trivial⟩ (lt4 (by kernel_rfl))) (by kernel_rfl) (by kernel_rfl) (.refl _) (Conv.mk (by kernel_rfl))
           ·
            refine CfgI.eff (o := _) rfl (by kernel_rfl) (by kernel_rfl) (Eff.alloc (z := (.agg (oc ⟨0,m0,c0,t0⟩).toArray)) rfl (by kernel_rfl)) (fun _ _ => (.cons _ (.cons _ (.cons_cons _ (.cons_cons _ (.cons_cons _ (.cons_cons _ (List.nil_sublist _)))))))) ?_
            rintro o12 ⟨ho12,no12⟩
            exact CfgA.to (IH (some xa,some xb,some oc5,none,none,none,some o11,some o12) ⟨hxa,hxb,hoc5,(fun _ => rfl),(fun _ => rfl),nofun,trivial⟩ (lt4 (by kernel_rfl))) (by kernel_rfl) (by kernel_rfl) (pmid (l₁ := [(o11,zob)])) (Conv.mk (by kernel_rfl))
          ·
           have hxa : MOk xa m := pp1
           have hxb : MOk xb n := pp3
           have hoc5 : OwnOk oc5 32 c.ps.length (c.ps.flatMap dgc) := pp5
           refine CfgA.to (l' := #[true,true,true,true,true,true,true,false,false,false,true,true,false,false,false,false]) (fuel' := 7) (O' := ([(o11,zob),(o12,zob),(tb,tob t),(cb,cob c),(nb,mob n),(mb,mob m)] ++ (Own.o 30 (c.ps.flatMap dgc) oc5 ++ (memMO xb n ++ (memMO xa m ++ []))))) (Γ' := [(44,[],.agg (oc (oA xa m)).toArray),(46,[],.agg (oc (oA xb n)).toArray),(48,[],.agg (oc (oC oc5 c)).toArray),(11,[],.pointer (some ⟨o11,0,none⟩)),(12,[],.pointer (some ⟨o12,0,none⟩)),(49,[],.agg (tc t).toArray),(47,[],.agg (cc c).toArray),(45,[],.agg (mc n).toArray),(43,[],.agg (mc m).toArray),(7,[],.pointer (some ⟨tb,0,none⟩)),(6,[],.pointer (some ⟨cb,0,none⟩)),(5,[],.pointer (some ⟨nb,0,none⟩)),(4,[],.pointer (some ⟨mb,0,none⟩))]) ?_ (by kernel_rfl) (by kernel_rfl) (List.Perm.refl _) (Conv.mk (by kernel_rfl))
           refine CfgA.many [7,8,9] (by kernel_rfl) (by decide) (fuel' := 6) (by kernel_rfl) ⟨?_,?_,?_,trivial⟩
           ·
            refine CfgI.eff (o := _) rfl (by kernel_rfl) (by kernel_rfl) (Eff.callA (vs := [.agg (tc t).toArray]) (.agg (oc (oT t)).toArray) rfl Tryz.func20 rfl rfl (by kernel_rfl) (fun w1 _ => oTag t w1 hd)) (fun _ _ => (.cons _ (.cons _ (.cons_cons _ (.cons_cons _ (.cons_cons _ (.cons_cons _ (List.nil_sublist _)))))))) ?_
            rintro ⟨⟩ -
            exact CfgA.to (IH (some xa,some xb,some oc5,some (),none,none,some o11,some o12) ⟨hxa,hxb,hoc5,(fun _ => rfl),(fun _ => rfl),(fun _ => rfl),trivial⟩ (lt4 (by kernel_rfl))) (by kernel_rfl) (by kernel_rfl) (.refl _) (Conv.mk (by kernel_rfl))
           ·
            refine CfgI.eff (o := _) rfl (by kernel_rfl) (by kernel_rfl) (Eff.alloc (z := (.agg (oc ⟨0,m0,c0,t0⟩).toArray)) rfl (by kernel_rfl)) (fun _ _ => (.cons _ (.cons _ (.cons _ (.cons_cons _ (.cons_cons _ (.cons_cons _ (.cons_cons _ (List.nil_sublist _))))))))) ?_
            rintro o9 ⟨ho9,no9⟩
            exact CfgA.to (IH (some xa,some xb,some oc5,none,some o9,none,some o11,some o12) ⟨hxa,hxb,hoc5,(fun _ => rfl),(fun _ => rfl),nofun,trivial⟩ (lt4 (by kernel_rfl))) (by kernel_rfl) (by kernel_rfl) (.refl _) (Conv.mk (by kernel_rfl))
           ·
            refine CfgI.eff (o := _) rfl (by kernel_rfl) (by kernel_rfl) (Eff.alloc (z := (.agg (oc ⟨0,m0,c0,t0⟩).toArray)) rfl (by kernel_rfl)) (fun _ _ => (.cons _ (.cons _ (.cons _ (.cons_cons _ (.cons_cons _ (.cons_cons _ (.cons_cons _ (List.nil_sublist _))))))))) ?_
            rintro o10 ⟨ho10,no10⟩
            exact CfgA.to (IH (some xa,some xb,some oc5,none,none,some o10,some o11,some o12) ⟨hxa,hxb,hoc5,(fun _ => rfl),(fun _ => rfl),nofun,trivial⟩ (lt4 (by kernel_rfl))) (by kernel_rfl) (by kernel_rfl) (.refl _) (Conv.mk (by kernel_rfl))
        ·
         rcases oo10 with _ | o11
         ·
          rcases oo11 with _ | o12
          ·
           have hxa : MOk xa m := pp1
           have hxb : MOk xb n := pp3
           have hoc5 : OwnOk oc5 32 c.ps.length (c.ps.flatMap dgc) := pp5
           refine CfgA.to (l' := #[true,true,true,true,true,true,true,false,false,true,false,false,false,false,false,false]) (fuel' := 8) (O' := ([(o10,zob),(tb,tob t),(cb,cob c),(nb,mob n),(mb,mob m)] ++ (Own.o 30 (c.ps.flatMap dgc) oc5 ++ (memMO xb n ++ (memMO xa m ++ []))))) (Γ' := [(44,[],.agg (oc (oA xa m)).toArray),(46,[],.agg (oc (oA xb n)).toArray),(48,[],.agg (oc (oC oc5 c)).toArray),(10,[],.pointer (some ⟨o10,0,none⟩)),(49,[],.agg (tc t).toArray),(47,[],.agg (cc c).toArray),(45,[],.agg (mc n).toArray),(43,[],.agg (mc m).toArray),(7,[],.pointer (some ⟨tb,0,none⟩)),(6,[],.pointer (some ⟨cb,0,none⟩)),(5,[],.pointer (some ⟨nb,0,none⟩)),(4,[],.pointer (some ⟨mb,0,none⟩))]) ?_ (by kernel_rfl) (by kernel_rfl) (List.Perm.refl _) (Conv.mk (by kernel_rfl))
           refine CfgA.many [7,8,10,11] (by kernel_rfl) (by decide) (fuel' := 7) (by kernel_rfl) ⟨?_,?_,?_,?_,trivial⟩
           ·
            refine CfgI.eff (o := _) rfl (by kernel_rfl) (by kernel_rfl) (Eff.callA (vs := [.agg (tc t).toArray]) (.agg (oc (oT t)).toArray) rfl Tryz.func20 rfl rfl (by kernel_rfl) (fun w1 _ => oTag t w1 hd)) (fun _ _ => (.cons _ (.cons_cons _ (.cons_cons _ (.cons_cons _ (.cons_cons _ (List.nil_sublist _))))))) ?_
            rintro ⟨⟩ -
            exact CfgA.to (IH (some xa,some xb,some oc5,some (),none,some o10,none,none) ⟨hxa,hxb,hoc5,(fun _ => rfl),(fun _ => rfl),(fun _ => rfl),trivial⟩ (lt4 (by kernel_rfl))) (by kernel_rfl) (by kernel_rfl) (.refl _) (Conv.mk (by kernel_rfl))
           ·
            refine CfgI.eff (o := _) rfl (by kernel_rfl) (by kernel_rfl) (Eff.alloc (z := (.agg (oc ⟨0,m0,c0,t0⟩).toArray)) rfl (by kernel_rfl)) (fun _ _ => (.cons _ (.cons _ (.cons_cons _ (.cons_cons _ (.cons_cons _ (.cons_cons _ (List.nil_sublist _)))))))) ?_
            rintro o9 ⟨ho9,no9⟩
            exact CfgA.to (IH (some xa,some xb,some oc5,none,some o9,some o10,none,none) ⟨hxa,hxb,hoc5,(fun _ => rfl),(fun _ => rfl),nofun,trivial⟩ (lt4 (by kernel_rfl))) (by kernel_rfl) (by kernel_rfl) (.refl _) (Conv.mk (by kernel_rfl))
           ·
            refine CfgI.eff (o := _) rfl (by kernel_rfl) (by kernel_rfl) (Eff.alloc (z := (.agg (oc ⟨0,m0,c0,t0⟩).toArray)) rfl (by kernel_rfl)) (fun _ _ => (.cons _ (.cons _ (.cons_cons _ (.cons_cons _ (.cons_cons _ (.cons_cons _ (List.nil_sublist _)))))))) ?_
            rintro o11 ⟨ho11,no11⟩
            exact CfgA.to (IH (some xa,some xb,some oc5,none,none,some o10,some o11,none) ⟨hxa,hxb,hoc5,(fun _ => rfl),(fun _ => rfl),nofun,trivial⟩ (lt4 (by kernel_rfl))) (by kernel_rfl) (by kernel_rfl) (pmid (l₁ := [(o10,zob)])) (Conv.mk (by kernel_rfl))
           ·
            refine CfgI.eff (o := _) rfl (by kernel_rfl) (by kernel_rfl) (Eff.alloc (z := (.agg (oc ⟨0,m0,c0,t0⟩).toArray)) rfl (by kernel_rfl)) (fun _ _ => (.cons _ (.cons _ (.cons_cons _ (.cons_cons _ (.cons_cons _ (.cons_cons _ (List.nil_sublist _)))))))) ?_
            rintro o12 ⟨ho12,no12⟩
            exact CfgA.to (IH (some xa,some xb,some oc5,none,none,some o10,none,some o12) ⟨hxa,hxb,hoc5,(fun _ => rfl),(fun _ => rfl),nofun,trivial⟩ (lt4 (by kernel_rfl))) (by kernel_rfl) (by kernel_rfl) (pmid (l₁ := [(o10,zob)])) (Conv.mk (by kernel_rfl))
          ·
           have hxa : MOk xa m := pp1
           have hxb : MOk xb n := pp3
           have hoc5 : OwnOk oc5 32 c.ps.length (c.ps.flatMap dgc) := pp5
           refine CfgA.to (l' := #[true,true,true,true,true,true,true,false,false,true,false,true,false,false,false,false]) (fuel' := 7) (O' := ([(o10,zob),(o12,zob),(tb,tob t),(cb,cob c),(nb,mob n),(mb,mob m)] ++ (Own.o 30 (c.ps.flatMap dgc) oc5 ++ (memMO xb n ++ (memMO xa m ++ []))))) (Γ' := [(44,[],.agg (oc (oA xa m)).toArray),(46,[],.agg (oc (oA xb n)).toArray),(48,[],.agg (oc (oC oc5 c)).toArray),(10,[],.pointer (some ⟨o10,0,none⟩)),(12,[],.pointer (some ⟨o12,0,none⟩)),(49,[],.agg (tc t).toArray),(47,[],.agg (cc c).toArray),(45,[],.agg (mc n).toArray),(43,[],.agg (mc m).toArray),(7,[],.pointer (some ⟨tb,0,none⟩)),(6,[],.pointer (some ⟨cb,0,none⟩)),(5,[],.pointer (some ⟨nb,0,none⟩)),(4,[],.pointer (some ⟨mb,0,none⟩))]) ?_ (by kernel_rfl) (by kernel_rfl) (List.Perm.refl _) (Conv.mk (by kernel_rfl))
           refine CfgA.many [7,8,10] (by kernel_rfl) (by decide) (fuel' := 6) (by kernel_rfl) ⟨?_,?_,?_,trivial⟩
           ·
            refine CfgI.eff (o := _) rfl (by kernel_rfl) (by kernel_rfl) (Eff.callA (vs := [.agg (tc t).toArray]) (.agg (oc (oT t)).toArray) rfl Tryz.func20 rfl rfl (by kernel_rfl) (fun w1 _ => oTag t w1 hd)) (fun _ _ => (.cons _ (.cons _ (.cons_cons _ (.cons_cons _ (.cons_cons _ (.cons_cons _ (List.nil_sublist _)))))))) ?_
            rintro ⟨⟩ -
            exact CfgA.to (IH (some xa,some xb,some oc5,some (),none,some o10,none,some o12) ⟨hxa,hxb,hoc5,(fun _ => rfl),(fun _ => rfl),(fun _ => rfl),trivial⟩ (lt4 (by kernel_rfl))) (by kernel_rfl) (by kernel_rfl) (.refl _) (Conv.mk (by kernel_rfl))
           ·
            refine CfgI.eff (o := _) rfl (by kernel_rfl) (by kernel_rfl) (Eff.alloc (z := (.agg (oc ⟨0,m0,c0,t0⟩).toArray)) rfl (by kernel_rfl)) (fun _ _ => (.cons _ (.cons _ (.cons _ (.cons_cons _ (.cons_cons _ (.cons_cons _ (.cons_cons _ (List.nil_sublist _))))))))) ?_
            rintro o9 ⟨ho9,no9⟩
            exact CfgA.to (IH (some xa,some xb,some oc5,none,some o9,some o10,none,some o12) ⟨hxa,hxb,hoc5,(fun _ => rfl),(fun _ => rfl),nofun,trivial⟩ (lt4 (by kernel_rfl))) (by kernel_rfl) (by kernel_rfl) (.refl _) (Conv.mk (by kernel_rfl))
           ·
            refine CfgI.eff (o := _) rfl (by kernel_rfl) (by kernel_rfl) (Eff.alloc (z := (.agg (oc ⟨0,m0,c0,t0⟩).toArray)) rfl (by kernel_rfl)) (fun _ _ => (.cons _ (.cons _ (.cons _ (.cons_cons _ (.cons_cons _ (.cons_cons _ (.cons_cons _ (List.nil_sublist _))))))))) ?_
            rintro o11 ⟨ho11,no11⟩
            exact CfgA.to (IH (some xa,some xb,some oc5,none,none,some o10,some o11,some o12) ⟨hxa,hxb,hoc5,(fun _ => rfl),(fun _ => rfl),nofun,trivial⟩ (lt4 (by kernel_rfl))) (by kernel_rfl) (by kernel_rfl) (pmid (l₁ := [(o10,zob)])) (Conv.mk (by kernel_rfl))
         ·
          rcases oo11 with _ | o12
          ·
           have hxa : MOk xa m := pp1
           have hxb : MOk xb n := pp3
           have hoc5 : OwnOk oc5 32 c.ps.length (c.ps.flatMap dgc) := pp5
           refine CfgA.to (l' := #[true,true,true,true,true,true,true,false,false,true,true,false,false,false,false,false]) (fuel' := 7) (O' := ([(o10,zob),(o11,zob),(tb,tob t),(cb,cob c),(nb,mob n),(mb,mob m)] ++ (Own.o 30 (c.ps.flatMap dgc) oc5 ++ (memMO xb n ++ (memMO xa m ++ []))))) (Γ' := [(44,[],.agg (oc (oA xa m)).toArray),(46,[],.agg (oc (oA xb n)).toArray),(48,[],.agg (oc (oC oc5 c)).toArray),(10,[],.pointer (some ⟨o10,0,none⟩)),(11,[],.pointer (some ⟨o11,0,none⟩)),(49,[],.agg (tc t).toArray),(47,[],.agg (cc c).toArray),(45,[],.agg (mc n).toArray),(43,[],.agg (mc m).toArray),(7,[],.pointer (some ⟨tb,0,none⟩)),(6,[],.pointer (some ⟨cb,0,none⟩)),(5,[],.pointer (some ⟨nb,0,none⟩)),(4,[],.pointer (some ⟨mb,0,none⟩))]) ?_ (by kernel_rfl) (by kernel_rfl) (List.Perm.refl _) (Conv.mk (by kernel_rfl))
           refine CfgA.many [7,8,11] (by kernel_rfl) (by decide) (fuel' := 6) (by kernel_rfl) ⟨?_,?_,?_,trivial⟩
           ·
            refine CfgI.eff (o := _) rfl (by kernel_rfl) (by kernel_rfl) (Eff.callA (vs := [.agg (tc t).toArray]) (.agg (oc (oT t)).toArray) rfl Tryz.func20 rfl rfl (by kernel_rfl) (fun w1 _ => oTag t w1 hd)) (fun _ _ => (.cons _ (.cons _ (.cons_cons _ (.cons_cons _ (.cons_cons _ (.cons_cons _ (List.nil_sublist _)))))))) ?_
            rintro ⟨⟩ -
            exact CfgA.to (IH (some xa,some xb,some oc5,some (),none,some o10,some o11,none) ⟨hxa,hxb,hoc5,(fun _ => rfl),(fun _ => rfl),(fun _ => rfl),trivial⟩ (lt4 (by kernel_rfl))) (by kernel_rfl) (by kernel_rfl) (.refl _) (Conv.mk (by kernel_rfl))
           ·
            refine CfgI.eff (o := _) rfl (by kernel_rfl) (by kernel_rfl) (Eff.alloc (z := (.agg (oc ⟨0,m0,c0,t0⟩).toArray)) rfl (by kernel_rfl)) (fun _ _ => (.cons _ (.cons _ (.cons _ (.cons_cons _ (.cons_cons _ (.cons_cons _ (.cons_cons _ (List.nil_sublist _))))))))) ?_
            rintro o9 ⟨ho9,no9⟩
            exact CfgA.to (IH (some xa,some xb,some oc5,none,some o9,some o10,some o11,none) ⟨hxa,hxb,hoc5,(fun _ => rfl),(fun _ => rfl),nofun,trivial⟩ (lt4 (by kernel_rfl))) (by kernel_rfl) (by kernel_rfl) (.refl _) (Conv.mk (by kernel_rfl))
           ·
            refine CfgI.eff (o := _) rfl (by kernel_rfl) (by kernel_rfl) (Eff.alloc (z := (.agg (oc ⟨0,m0,c0,t0⟩).toArray)) rfl (by kernel_rfl)) (fun _ _ => (.cons _ (.cons _ (.cons _ (.cons_cons _ (.cons_cons _ (.cons_cons _ (.cons_cons _ (List.nil_sublist _))))))))) ?_
            rintro o12 ⟨ho12,no12⟩
            exact CfgA.to (IH (some xa,some xb,some oc5,none,none,some o10,some o11,some o12) ⟨hxa,hxb,hoc5,(fun _ => rfl),(fun _ => rfl),nofun,trivial⟩ (lt4 (by kernel_rfl))) (by kernel_rfl) (by kernel_rfl) (pmid (l₁ := [(o10,zob),(o11,zob)])) (Conv.mk (by kernel_rfl))
          ·
           have hxa : MOk xa m := pp1
           have hxb : MOk xb n := pp3
           have hoc5 : OwnOk oc5 32 c.ps.length (c.ps.flatMap dgc) := pp5
           refine CfgA.to (l' := #[true,true,true,true,true,true,true,false,false,true,true,true,false,false,false,false]) (fuel' := 6) (O' := ([(o10,zob),(o11,zob),(o12,zob),(tb,tob t),(cb,cob c),(nb,mob n),(mb,mob m)] ++ (Own.o 30 (c.ps.flatMap dgc) oc5 ++ (memMO xb n ++ (memMO xa m ++ []))))) (Γ' := [(44,[],.agg (oc (oA xa m)).toArray),(46,[],.agg (oc (oA xb n)).toArray),(48,[],.agg (oc (oC oc5 c)).toArray),(10,[],.pointer (some ⟨o10,0,none⟩)),(11,[],.pointer (some ⟨o11,0,none⟩)),(12,[],.pointer (some ⟨o12,0,none⟩)),(49,[],.agg (tc t).toArray),(47,[],.agg (cc c).toArray),(45,[],.agg (mc n).toArray),(43,[],.agg (mc m).toArray),(7,[],.pointer (some ⟨tb,0,none⟩)),(6,[],.pointer (some ⟨cb,0,none⟩)),(5,[],.pointer (some ⟨nb,0,none⟩)),(4,[],.pointer (some ⟨mb,0,none⟩))]) ?_ (by kernel_rfl) (by kernel_rfl) (List.Perm.refl _) (Conv.mk (by kernel_rfl))
           refine CfgA.many [7,8] (by kernel_rfl) (by decide) (fuel' := 5) (by kernel_rfl) ⟨?_,?_,trivial⟩
           ·
            refine CfgI.eff (o := _) rfl (by kernel_rfl) (by kernel_rfl) (Eff.callA (vs := [.agg (tc t).toArray]) (.agg (oc (oT t)).toArray) rfl Tryz.func20 rfl rfl (by kernel_rfl) (fun w1 _ => oTag t w1 hd)) (fun _ _ => (.cons _ (.cons _ (.cons _ (.cons_cons _ (.cons_cons _ (.cons_cons _ (.cons_cons _ (List.nil_sublist _))))))))) ?_
            rintro ⟨⟩ -
            exact CfgA.to (IH (some xa,some xb,some oc5,some (),none,some o10,some o11,some o12) ⟨hxa,hxb,hoc5,(fun _ => rfl),(fun _ => rfl),(fun _ => rfl),trivial⟩ (lt4 (by kernel_rfl))) (by kernel_rfl) (by kernel_rfl) (.refl _) (Conv.mk (by kernel_rfl))
           ·
            refine CfgI.eff (o := _) rfl (by kernel_rfl) (by kernel_rfl) (Eff.alloc (z := (.agg (oc ⟨0,m0,c0,t0⟩).toArray)) rfl (by kernel_rfl)) (fun _ _ => (.cons _ (.cons _ (.cons _ (.cons _ (.cons_cons _ (.cons_cons _ (.cons_cons _ (.cons_cons _ (List.nil_sublist _)))))))))) ?_
            rintro o9 ⟨ho9,no9⟩
            exact CfgA.to (IH (some xa,some xb,some oc5,none,some o9,some o10,some o11,some o12) ⟨hxa,hxb,hoc5,(fun _ => rfl),(fun _ => rfl),nofun,trivial⟩ (lt4 (by kernel_rfl))) (by kernel_rfl) (by kernel_rfl) (.refl _) (Conv.mk (by kernel_rfl))
       ·
        rcases oo9 with _ | o10
        ·
         rcases oo10 with _ | o11
         ·
          rcases oo11 with _ | o12
          ·
           have hxa : MOk xa m := pp1
           have hxb : MOk xb n := pp3
           have hoc5 : OwnOk oc5 32 c.ps.length (c.ps.flatMap dgc) := pp5
           refine CfgA.to (l' := #[true,true,true,true,true,true,true,false,true,false,false,false,false,false,false,false]) (fuel' := 8) (O' := ([(o9,zob),(tb,tob t),(cb,cob c),(nb,mob n),(mb,mob m)] ++ (Own.o 30 (c.ps.flatMap dgc) oc5 ++ (memMO xb n ++ (memMO xa m ++ []))))) (Γ' := [(44,[],.agg (oc (oA xa m)).toArray),(46,[],.agg (oc (oA xb n)).toArray),(48,[],.agg (oc (oC oc5 c)).toArray),(9,[],.pointer (some ⟨o9,0,none⟩)),(49,[],.agg (tc t).toArray),(47,[],.agg (cc c).toArray),(45,[],.agg (mc n).toArray),(43,[],.agg (mc m).toArray),(7,[],.pointer (some ⟨tb,0,none⟩)),(6,[],.pointer (some ⟨cb,0,none⟩)),(5,[],.pointer (some ⟨nb,0,none⟩)),(4,[],.pointer (some ⟨mb,0,none⟩))]) ?_ (by kernel_rfl) (by kernel_rfl) (List.Perm.refl _) (Conv.mk (by kernel_rfl))
           refine CfgA.many [7,9,10,11] (by kernel_rfl) (by decide) (fuel' := 7) (by kernel_rfl) ⟨?_,?_,?_,?_,trivial⟩
           ·
            refine CfgI.eff (o := _) rfl (by kernel_rfl) (by kernel_rfl) (Eff.callA (vs := [.agg (tc t).toArray]) (.agg (oc (oT t)).toArray) rfl Tryz.func20 rfl rfl (by kernel_rfl) (fun w1 _ => oTag t w1 hd)) (fun _ _ => (.cons _ (.cons_cons _ (.cons_cons _ (.cons_cons _ (.cons_cons _ (List.nil_sublist _))))))) ?_
            rintro ⟨⟩ -
            exact CfgA.to (IH (some xa,some xb,some oc5,some (),some o9,none,none,none) ⟨hxa,hxb,hoc5,(fun _ => rfl),(fun _ => rfl),(fun _ => rfl),trivial⟩ (lt4 (by kernel_rfl))) (by kernel_rfl) (by kernel_rfl) (.refl _) (Conv.mk (by kernel_rfl))
           ·
            refine CfgI.eff (o := _) rfl (by kernel_rfl) (by kernel_rfl) (Eff.alloc (z := (.agg (oc ⟨0,m0,c0,t0⟩).toArray)) rfl (by kernel_rfl)) (fun _ _ => (.cons _ (.cons _ (.cons_cons _ (.cons_cons _ (.cons_cons _ (.cons_cons _ (List.nil_sublist _)))))))) ?_
            rintro o10 ⟨ho10,no10⟩
            exact CfgA.to (IH (some xa,some xb,some oc5,none,some o9,some o10,none,none) ⟨hxa,hxb,hoc5,(fun _ => rfl),(fun _ => rfl),nofun,trivial⟩ (lt4 (by kernel_rfl))) (by kernel_rfl) (by kernel_rfl) (pmid (l₁ := [(o9,zob)])) (Conv.mk (by kernel_rfl))
           ·
            refine CfgI.eff (o := _) rfl (by kernel_rfl) (by kernel_rfl) (Eff.alloc (z := (.agg (oc ⟨0,m0,c0,t0⟩).toArray)) rfl (by kernel_rfl)) (fun _ _ => (.cons _ (.cons _ (.cons_cons _ (.cons_cons _ (.cons_cons _ (.cons_cons _ (List.nil_sublist _)))))))) ?_
            rintro o11 ⟨ho11,no11⟩
            exact CfgA.to (IH (some xa,some xb,some oc5,none,some o9,none,some o11,none) ⟨hxa,hxb,hoc5,(fun _ => rfl),(fun _ => rfl),nofun,trivial⟩ (lt4 (by kernel_rfl))) (by kernel_rfl) (by kernel_rfl) (pmid (l₁ := [(o9,zob)])) (Conv.mk (by kernel_rfl))
           ·
            refine CfgI.eff (o := _) rfl (by kernel_rfl) (by kernel_rfl) (Eff.alloc (z := (.agg (oc ⟨0,m0,c0,t0⟩).toArray)) rfl (by kernel_rfl)) (fun _ _ => (.cons _ (.cons _ (.cons_cons _ (.cons_cons _ (.cons_cons _ (.cons_cons _ (List.nil_sublist _)))))))) ?_
            rintro o12 ⟨ho12,no12⟩
            exact CfgA.to (IH (some xa,some xb,some oc5,none,some o9,none,none,some o12) ⟨hxa,hxb,hoc5,(fun _ => rfl),(fun _ => rfl),nofun,trivial⟩ (lt4 (by kernel_rfl))) (by kernel_rfl) (by kernel_rfl) (pmid (l₁ := [(o9,zob)])) (Conv.mk (by kernel_rfl))
          ·
           have hxa : MOk xa m := pp1
           have hxb : MOk xb n := pp3
           have hoc5 : OwnOk oc5 32 c.ps.length (c.ps.flatMap dgc) := pp5
           refine CfgA.to (l' := #[true,true,true,true,true,true,true,false,true,false,false,true,false,false,false,false]) (fuel' := 7) (O' := ([(o9,zob),(o12,zob),(tb,tob t),(cb,cob c),(nb,mob n),(mb,mob m)] ++ (Own.o 30 (c.ps.flatMap dgc) oc5 ++ (memMO xb n ++ (memMO xa m ++ []))))) (Γ' := [(44,[],.agg (oc (oA xa m)).toArray),(46,[],.agg (oc (oA xb n)).toArray),(48,[],.agg (oc (oC oc5 c)).toArray),(9,[],.pointer (some ⟨o9,0,none⟩)),(12,[],.pointer (some ⟨o12,0,none⟩)),(49,[],.agg (tc t).toArray),(47,[],.agg (cc c).toArray),(45,[],.agg (mc n).toArray),(43,[],.agg (mc m).toArray),(7,[],.pointer (some ⟨tb,0,none⟩)),(6,[],.pointer (some ⟨cb,0,none⟩)),(5,[],.pointer (some ⟨nb,0,none⟩)),(4,[],.pointer (some ⟨mb,0,none⟩))]) ?_ (by kernel_rfl) (by kernel_rfl) (List.Perm.refl _) (Conv.mk (by kernel_rfl))
           refine CfgA.many [7,9,10] (by kernel_rfl) (by decide) (fuel' := 6) (by kernel_rfl) ⟨?_,?_,?_,trivial⟩
           ·
            refine CfgI.eff (o := _) rfl (by kernel_rfl) (by kernel_rfl) (Eff.callA (vs := [.agg (tc t).toArray]) (.agg (oc (oT t)).toArray) rfl Tryz.func20 rfl rfl (by kernel_rfl) (fun w1 _ => oTag t w1 hd)) (fun _ _ => (.cons _ (.cons _ (.cons_cons _ (.cons_cons _ (.cons_cons _ (.cons_cons _ (List.nil_sublist _)))))))) ?_
            rintro ⟨⟩ -
            exact CfgA.to (IH (some xa,some xb,some oc5,some (),some o9,none,none,some o12) ⟨hxa,hxb,hoc5,(fun _ => rfl),(fun _ => rfl),(fun _ => rfl),trivial⟩ (lt4 (by kernel_rfl))) (by kernel_rfl) (by kernel_rfl) (.refl _) (Conv.mk (by kernel_rfl))
           ·
            refine CfgI.eff (o := _) rfl (by kernel_rfl) (by kernel_rfl) (Eff.alloc (z := (.agg (oc ⟨0,m0,c0,t0⟩).toArray)) rfl (by kernel_rfl)) (fun _ _ => (.cons _ (.cons _ (.cons _ (.cons_cons _ (.cons_cons _ (.cons_cons _ (.cons_cons _ (List.nil_sublist _))))))))) ?_
            rintro o10 ⟨ho10,no10⟩
            exact CfgA.to (IH (some xa,some xb,some oc5,none,some o9,some o10,none,some o12) ⟨hxa,hxb,hoc5,(fun _ => rfl),(fun _ => rfl),nofun,trivial⟩ (lt4 (by kernel_rfl))) (by kernel_rfl) (by kernel_rfl) (pmid (l₁ := [(o9,zob)])) (Conv.mk (by kernel_rfl))
           ·
            refine CfgI.eff (o := _) rfl (by kernel_rfl) (by kernel_rfl) (Eff.alloc (z := (.agg (oc ⟨0,m0,c0,t0⟩).toArray)) rfl (by kernel_rfl)) (fun _ _ => (.cons _ (.cons _ (.cons _ (.cons_cons _ (.cons_cons _ (.cons_cons _ (.cons_cons _ (List.nil_sublist _))))))))) ?_
            rintro o11 ⟨ho11,no11⟩
            exact CfgA.to (IH (some xa,some xb,some oc5,none,some o9,none,some o11,some o12) ⟨hxa,hxb,hoc5,(fun _ => rfl),(fun _ => rfl),nofun,trivial⟩ (lt4 (by kernel_rfl))) (by kernel_rfl) (by kernel_rfl) (pmid (l₁ := [(o9,zob)])) (Conv.mk (by kernel_rfl))
         ·
          rcases oo11 with _ | o12
          ·
           have hxa : MOk xa m := pp1
           have hxb : MOk xb n := pp3
           have hoc5 : OwnOk oc5 32 c.ps.length (c.ps.flatMap dgc) := pp5
           refine CfgA.to (l' := #[true,true,true,true,true,true,true,false,true,false,true,false,false,false,false,false]) (fuel' := 7) (O' := ([(o9,zob),(o11,zob),(tb,tob t),(cb,cob c),(nb,mob n),(mb,mob m)] ++ (Own.o 30 (c.ps.flatMap dgc) oc5 ++ (memMO xb n ++ (memMO xa m ++ []))))) (Γ' := [(44,[],.agg (oc (oA xa m)).toArray),(46,[],.agg (oc (oA xb n)).toArray),(48,[],.agg (oc (oC oc5 c)).toArray),(9,[],.pointer (some ⟨o9,0,none⟩)),(11,[],.pointer (some ⟨o11,0,none⟩)),(49,[],.agg (tc t).toArray),(47,[],.agg (cc c).toArray),(45,[],.agg (mc n).toArray),(43,[],.agg (mc m).toArray),(7,[],.pointer (some ⟨tb,0,none⟩)),(6,[],.pointer (some ⟨cb,0,none⟩)),(5,[],.pointer (some ⟨nb,0,none⟩)),(4,[],.pointer (some ⟨mb,0,none⟩))]) ?_ (by kernel_rfl) (by kernel_rfl) (List.Perm.refl _) (Conv.mk (by kernel_rfl))
           refine CfgA.many [7,9,11] (by kernel_rfl) (by decide) (fuel' := 6) (by kernel_rfl) ⟨?_,?_,?_,trivial⟩
           ·
            refine CfgI.eff (o := _) rfl (by kernel_rfl) (by kernel_rfl) (Eff.callA (vs := [.agg (tc t).toArray]) (.agg (oc (oT t)).toArray) rfl Tryz.func20 rfl rfl (by kernel_rfl) (fun w1 _ => oTag t w1 hd)) (fun _ _ => (.cons _ (.cons _ (.cons_cons _ (.cons_cons _ (.cons_cons _ (.cons_cons _ (List.nil_sublist _)))))))) ?_
            rintro ⟨⟩ -
            exact CfgA.to (IH (some xa,some xb,some oc5,some (),some o9,none,some o11,none) ⟨hxa,hxb,hoc5,(fun _ => rfl),(fun _ => rfl),(fun _ => rfl),trivial⟩ (lt4 (by kernel_rfl))) (by kernel_rfl) (by kernel_rfl) (.refl _) (Conv.mk (by kernel_rfl))
           ·
            refine CfgI.eff (o := _) rfl (by kernel_rfl) (by kernel_rfl) (Eff.alloc (z := (.agg (oc ⟨0,m0,c0,t0⟩).toArray)) rfl (by kernel_rfl)) (fun _ _ => (.cons _ (.cons _ (.cons _ (.cons_cons _ (.cons_cons _ (.cons_cons _ (.cons_cons _ (List.nil_sublist _))))))))) ?_
            rintro o10 ⟨ho10,no10⟩
            exact CfgA.to (IH (some xa,some xb,some oc5,none,some o9,some o10,some o11,none) ⟨hxa,hxb,hoc5,(fun _ => rfl),(fun _ => rfl),nofun,trivial⟩ (lt4 (by kernel_rfl))) (by kernel_rfl) (by kernel_rfl) (pmid (l₁ := [(o9,zob)])) (Conv.mk (by kernel_rfl))
           ·
            refine CfgI.eff (o := _) rfl (by kernel_rfl) (by kernel_rfl) (Eff.alloc (z := (.agg (oc ⟨0,m0,c0,t0⟩).toArray)) rfl (by kernel_rfl)) (fun _ _ => (.cons _ (.cons _ (.cons _ (.cons_cons _ (.cons_cons _ (.cons_cons _ (.cons_cons _ (List.nil_sublist _))))))))) ?_
            rintro o12 ⟨ho12,no12⟩
            exact CfgA.to (IH (some xa,some xb,some oc5,none,some o9,none,some o11,some o12) ⟨hxa,hxb,hoc5,(fun _ => rfl),(fun _ => rfl),nofun,trivial⟩ (lt4 (by kernel_rfl))) (by kernel_rfl) (by kernel_rfl) (pmid (l₁ := [(o9,zob),(o11,zob)])) (Conv.mk (by kernel_rfl))
          ·
           have hxa : MOk xa m := pp1
           have hxb : MOk xb n := pp3
           have hoc5 : OwnOk oc5 32 c.ps.length (c.ps.flatMap dgc) := pp5
           refine CfgA.to (l' := #[true,true,true,true,true,true,true,false,true,false,true,true,false,false,false,false]) (fuel' := 6) (O' := ([(o9,zob),(o11,zob),(o12,zob),(tb,tob t),(cb,cob c),(nb,mob n),(mb,mob m)] ++ (Own.o 30 (c.ps.flatMap dgc) oc5 ++ (memMO xb n ++ (memMO xa m ++ []))))) (Γ' := [(44,[],.agg (oc (oA xa m)).toArray),(46,[],.agg (oc (oA xb n)).toArray),(48,[],.agg (oc (oC oc5 c)).toArray),(9,[],.pointer (some ⟨o9,0,none⟩)),(11,[],.pointer (some ⟨o11,0,none⟩)),(12,[],.pointer (some ⟨o12,0,none⟩)),(49,[],.agg (tc t).toArray),(47,[],.agg (cc c).toArray),(45,[],.agg (mc n).toArray),(43,[],.agg (mc m).toArray),(7,[],.pointer (some ⟨tb,0,none⟩)),(6,[],.pointer (some ⟨cb,0,none⟩)),(5,[],.pointer (some ⟨nb,0,none⟩)),(4,[],.pointer (some ⟨mb,0,none⟩))]) ?_ (by kernel_rfl) (by kernel_rfl) (List.Perm.refl _) (Conv.mk (by kernel_rfl))
           refine CfgA.many [7,9] (by kernel_rfl) (by decide) (fuel' := 5) (by kernel_rfl) ⟨?_,?_,trivial⟩
           ·
            refine CfgI.eff (o := _) rfl (by kernel_rfl) (by kernel_rfl) (Eff.callA (vs := [.agg (tc t).toArray]) (.agg (oc (oT t)).toArray) rfl Tryz.func20 rfl rfl (by kernel_rfl) (fun w1 _ => oTag t w1 hd)) (fun _ _ => (.cons _ (.cons _ (.cons _ (.cons_cons _ (.cons_cons _ (.cons_cons _ (.cons_cons _ (List.nil_sublist _))))))))) ?_
            rintro ⟨⟩ -
            exact CfgA.to (IH (some xa,some xb,some oc5,some (),some o9,none,some o11,some o12) ⟨hxa,hxb,hoc5,(fun _ => rfl),(fun _ => rfl),(fun _ => rfl),trivial⟩ (lt4 (by kernel_rfl))) (by kernel_rfl) (by kernel_rfl) (.refl _) (Conv.mk (by kernel_rfl))
           ·
            refine CfgI.eff (o := _) rfl (by kernel_rfl) (by kernel_rfl) (Eff.alloc (z := (.agg (oc ⟨0,m0,c0,t0⟩).toArray)) rfl (by kernel_rfl)) (fun _ _ => (.cons _ (.cons _ (.cons _ (.cons _ (.cons_cons _ (.cons_cons _ (.cons_cons _ (.cons_cons _ (List.nil_sublist _)))))))))) ?_
            rintro o10 ⟨ho10,no10⟩
            exact CfgA.to (IH (some xa,some xb,some oc5,none,some o9,some o10,some o11,some o12) ⟨hxa,hxb,hoc5,(fun _ => rfl),(fun _ => rfl),nofun,trivial⟩ (lt4 (by kernel_rfl))) (by kernel_rfl) (by kernel_rfl) (pmid (l₁ := [(o9,zob)])) (Conv.mk (by kernel_rfl))
        ·
         rcases oo10 with _ | o11
         ·
          rcases oo11 with _ | o12
          ·
           have hxa : MOk xa m := pp1
           have hxb : MOk xb n := pp3
           have hoc5 : OwnOk oc5 32 c.ps.length (c.ps.flatMap dgc) := pp5
           refine CfgA.to (l' := #[true,true,true,true,true,true,true,false,true,true,false,false,false,false,false,false]) (fuel' := 7) (O' := ([(o9,zob),(o10,zob),(tb,tob t),(cb,cob c),(nb,mob n),(mb,mob m)] ++ (Own.o 30 (c.ps.flatMap dgc) oc5 ++ (memMO xb n ++ (memMO xa m ++ []))))) (Γ' := [(44,[],.agg (oc (oA xa m)).toArray),(46,[],.agg (oc (oA xb n)).toArray),(48,[],.agg (oc (oC oc5 c)).toArray),(9,[],.pointer (some ⟨o9,0,none⟩)),(10,[],.pointer (some ⟨o10,0,none⟩)),(49,[],.agg (tc t).toArray),(47,[],.agg (cc c).toArray),(45,[],.agg (mc n).toArray),(43,[],.agg (mc m).toArray),(7,[],.pointer (some ⟨tb,0,none⟩)),(6,[],.pointer (some ⟨cb,0,none⟩)),(5,[],.pointer (some ⟨nb,0,none⟩)),(4,[],.pointer (some ⟨mb,0,none⟩))]) ?_ (by kernel_rfl) (by kernel_rfl) (List.Perm.refl _) (Conv.mk (by kernel_rfl))
           refine CfgA.many [7,10,11] (by kernel_rfl) (by decide) (fuel' := 6) (by kernel_rfl) ⟨?_,?_,?_,trivial⟩
           ·
            refine CfgI.eff (o := _) rfl (by kernel_rfl) (by kernel_rfl) (Eff.callA (vs := [.agg (tc t).toArray]) (.agg (oc (oT t)).toArray) rfl Tryz.func20 rfl rfl (by kernel_rfl) (fun w1 _ => oTag t w1 hd)) (fun _ _ => (.cons _ (.cons _ (.cons_cons _ (.cons_cons _ (.cons_cons _ (.cons_cons _ (List.nil_sublist _)))))))) ?_
            rintro ⟨⟩ -
            exact CfgA.to (IH (some xa,some xb,some oc5,some (),some o9,some o10,none,none) ⟨hxa,hxb,hoc5,(fun _ => rfl),(fun _ => rfl),(fun _ => rfl),trivial⟩ (lt4 (by kernel_rfl))) (by kernel_rfl) (by kernel_rfl) (.refl _) (Conv.mk (by kernel_rfl))
           ·
            refine CfgI.eff (o := _) rfl (by kernel_rfl) (by kernel_rfl) (Eff.alloc (z := (.agg (oc ⟨0,m0,c0,t0⟩).toArray)) rfl (by kernel_rfl)) (fun _ _ => (.cons _ (.cons _ (.cons _ (.cons_cons _ (.cons_cons _ (.cons_cons _ (.cons_cons _ (List.nil_sublist _))))))))) ?_
            rintro o11 ⟨ho11,no11⟩
            exact CfgA.to (IH (some xa,some xb,some oc5,none,some o9,some o10,some o11,none) ⟨hxa,hxb,hoc5,(fun _ => rfl),(fun _ => rfl),nofun,trivial⟩ (lt4 (by kernel_rfl))) (by kernel_rfl) (by kernel_rfl) (pmid (l₁ := [(o9,zob),(o10,zob)])) (Conv.mk (by kernel_rfl))
           ·
            refine CfgI.eff (o := _) rfl (by kernel_rfl) (by kernel_rfl) (Eff.alloc (z := (.agg (oc ⟨0,m0,c0,t0⟩).toArray)) rfl (by kernel_rfl)) (fun _ _ => (.cons _ (.cons _ (.cons _ (.cons_cons _ (.cons_cons _ (.cons_cons _ (.cons_cons _ (List.nil_sublist _))))))))) ?_
            rintro o12 ⟨ho12,no12⟩
            exact CfgA.to (IH (some xa,some xb,some oc5,none,some o9,some o10,none,some o12) ⟨hxa,hxb,hoc5,(fun _ => rfl),(fun _ => rfl),nofun,trivial⟩ (lt4 (by kernel_rfl))) (by kernel_rfl) (by kernel_rfl) (pmid (l₁ := [(o9,zob),(o10,zob)])) (Conv.mk (by kernel_rfl))
          ·
           have hxa : MOk xa m := pp1
           have hxb : MOk xb n := pp3
           have hoc5 : OwnOk oc5 32 c.ps.length (c.ps.flatMap dgc) := pp5
           refine CfgA.to (l' := #[true,true,true,true,true,true,true,false,true,true,false,true,false,false,false,false]) (fuel' := 6) (O' := ([(o9,zob),(o10,zob),(o12,zob),(tb,tob t),(cb,cob c),(nb,mob n),(mb,mob m)] ++ (Own.o 30 (c.ps.flatMap dgc) oc5 ++ (memMO xb n ++ (memMO xa m ++ []))))) (Γ' := [(44,[],.agg (oc (oA xa m)).toArray),(46,[],.agg (oc (oA xb n)).toArray),(48,[],.agg (oc (oC oc5 c)).toArray),(9,[],.pointer (some ⟨o9,0,none⟩)),(10,[],.pointer (some ⟨o10,0,none⟩)),(12,[],.pointer (some ⟨o12,0,none⟩)),(49,[],.agg (tc t).toArray),(47,[],.agg (cc c).toArray),(45,[],.agg (mc n).toArray),(43,[],.agg (mc m).toArray),(7,[],.pointer (some ⟨tb,0,none⟩)),(6,[],.pointer (some ⟨cb,0,none⟩)),(5,[],.pointer (some ⟨nb,0,none⟩)),(4,[],.pointer (some ⟨mb,0,none⟩))]) ?_ (by kernel_rfl) (by kernel_rfl) (List.Perm.refl _) (Conv.mk (by kernel_rfl))
           refine CfgA.many [7,10] (by kernel_rfl) (by decide) (fuel' := 5) (by kernel_rfl) ⟨?_,?_,trivial⟩
           ·
            refine CfgI.eff (o := _) rfl (by kernel_rfl) (by kernel_rfl) (Eff.callA (vs := [.agg (tc t).toArray]) (.agg (oc (oT t)).toArray) rfl Tryz.func20 rfl rfl (by kernel_rfl) (fun w1 _ => oTag t w1 hd)) (fun _ _ => (.cons _ (.cons _ (.cons _ (.cons_cons _ (.cons_cons _ (.cons_cons _ (.cons_cons _ (List.nil_sublist _))))))))) ?_
            rintro ⟨⟩ -
            exact CfgA.to (IH (some xa,some xb,some oc5,some (),some o9,some o10,none,some o12) ⟨hxa,hxb,hoc5,(fun _ => rfl),(fun _ => rfl),(fun _ => rfl),trivial⟩ (lt4 (by kernel_rfl))) (by kernel_rfl) (by kernel_rfl) (.refl _) (Conv.mk (by kernel_rfl))
           ·
            refine CfgI.eff (o := _) rfl (by kernel_rfl) (by kernel_rfl) (Eff.alloc (z := (.agg (oc ⟨0,m0,c0,t0⟩).toArray)) rfl (by kernel_rfl)) (fun _ _ => (.cons _ (.cons _ (.cons _ (.cons _ (.cons_cons _ (.cons_cons _ (.cons_cons _ (.cons_cons _ (List.nil_sublist _)))))))))) ?_
            rintro o11 ⟨ho11,no11⟩
            exact CfgA.to (IH (some xa,some xb,some oc5,none,some o9,some o10,some o11,some o12) ⟨hxa,hxb,hoc5,(fun _ => rfl),(fun _ => rfl),nofun,trivial⟩ (lt4 (by kernel_rfl))) (by kernel_rfl) (by kernel_rfl) (pmid (l₁ := [(o9,zob),(o10,zob)])) (Conv.mk (by kernel_rfl))
         ·
          rcases oo11 with _ | o12
          ·
           have hxa : MOk xa m := pp1
           have hxb : MOk xb n := pp3
           have hoc5 : OwnOk oc5 32 c.ps.length (c.ps.flatMap dgc) := pp5
           refine CfgA.to (l' := #[true,true,true,true,true,true,true,false,true,true,true,false,false,false,false,false]) (fuel' := 6) (O' := ([(o9,zob),(o10,zob),(o11,zob),(tb,tob t),(cb,cob c),(nb,mob n),(mb,mob m)] ++ (Own.o 30 (c.ps.flatMap dgc) oc5 ++ (memMO xb n ++ (memMO xa m ++ []))))) (Γ' := [(44,[],.agg (oc (oA xa m)).toArray),(46,[],.agg (oc (oA xb n)).toArray),(48,[],.agg (oc (oC oc5 c)).toArray),(9,[],.pointer (some ⟨o9,0,none⟩)),(10,[],.pointer (some ⟨o10,0,none⟩)),(11,[],.pointer (some ⟨o11,0,none⟩)),(49,[],.agg (tc t).toArray),(47,[],.agg (cc c).toArray),(45,[],.agg (mc n).toArray),(43,[],.agg (mc m).toArray),(7,[],.pointer (some ⟨tb,0,none⟩)),(6,[],.pointer (some ⟨cb,0,none⟩)),(5,[],.pointer (some ⟨nb,0,none⟩)),(4,[],.pointer (some ⟨mb,0,none⟩))]) ?_ (by kernel_rfl) (by kernel_rfl) (List.Perm.refl _) (Conv.mk (by kernel_rfl))
           refine CfgA.many [7,11] (by kernel_rfl) (by decide) (fuel' := 5) (by kernel_rfl) ⟨?_,?_,trivial⟩
           ·
            refine CfgI.eff (o := _) rfl (by kernel_rfl) (by kernel_rfl) (Eff.callA (vs := [.agg (tc t).toArray]) (.agg (oc (oT t)).toArray) rfl Tryz.func20 rfl rfl (by kernel_rfl) (fun w1 _ => oTag t w1 hd)) (fun _ _ => (.cons _ (.cons _ (.cons _ (.cons_cons _ (.cons_cons _ (.cons_cons _ (.cons_cons _ (List.nil_sublist _))))))))) ?_
            rintro ⟨⟩ -
            exact CfgA.to (IH (some xa,some xb,some oc5,some (),some o9,some o10,some o11,none) ⟨hxa,hxb,hoc5,(fun _ => rfl),(fun _ => rfl),(fun _ => rfl),trivial⟩ (lt4 (by kernel_rfl))) (by kernel_rfl) (by kernel_rfl) (.refl _) (Conv.mk (by kernel_rfl))
           ·
            refine CfgI.eff (o := _) rfl (by kernel_rfl) (by kernel_rfl) (Eff.alloc (z := (.agg (oc ⟨0,m0,c0,t0⟩).toArray)) rfl (by kernel_rfl)) (fun _ _ => (.cons _ (.cons _ (.cons _ (.cons _ (.cons_cons _ (.cons_cons _ (.cons_cons _ (.cons_cons _ (List.nil_sublist _)))))))))) ?_
            rintro o12 ⟨ho12,no12⟩
            exact CfgA.to (IH (some xa,some xb,some oc5,none,some o9,some o10,some o11,some o12) ⟨hxa,hxb,hoc5,(fun _ => rfl),(fun _ => rfl),nofun,trivial⟩ (lt4 (by kernel_rfl))) (by kernel_rfl) (by kernel_rfl) (pmid (l₁ := [(o9,zob),(o10,zob),(o11,zob)])) (Conv.mk (by kernel_rfl))
          ·
           have hxa : MOk xa m := pp1
           have hxb : MOk xb n := pp3
           have hoc5 : OwnOk oc5 32 c.ps.length (c.ps.flatMap dgc) := pp5
           refine CfgA.to (l' := #[true,true,true,true,true,true,true,false,true,true,true,true,false,false,false,false]) (fuel' := 5) (O' := ([(o9,zob),(o10,zob),(o11,zob),(o12,zob),(tb,tob t),(cb,cob c),(nb,mob n),(mb,mob m)] ++ (Own.o 30 (c.ps.flatMap dgc) oc5 ++ (memMO xb n ++ (memMO xa m ++ []))))) (Γ' := [(44,[],.agg (oc (oA xa m)).toArray),(46,[],.agg (oc (oA xb n)).toArray),(48,[],.agg (oc (oC oc5 c)).toArray),(9,[],.pointer (some ⟨o9,0,none⟩)),(10,[],.pointer (some ⟨o10,0,none⟩)),(11,[],.pointer (some ⟨o11,0,none⟩)),(12,[],.pointer (some ⟨o12,0,none⟩)),(49,[],.agg (tc t).toArray),(47,[],.agg (cc c).toArray),(45,[],.agg (mc n).toArray),(43,[],.agg (mc m).toArray),(7,[],.pointer (some ⟨tb,0,none⟩)),(6,[],.pointer (some ⟨cb,0,none⟩)),(5,[],.pointer (some ⟨nb,0,none⟩)),(4,[],.pointer (some ⟨mb,0,none⟩))]) ?_ (by kernel_rfl) (by kernel_rfl) (List.Perm.refl _) (Conv.mk (by kernel_rfl))
           refine CfgA.many [7] (by kernel_rfl) (by decide) (fuel' := 4) (by kernel_rfl) ⟨?_,trivial⟩
           ·
            refine CfgI.eff (o := _) rfl (by kernel_rfl) (by kernel_rfl) (Eff.callA (vs := [.agg (tc t).toArray]) (.agg (oc (oT t)).toArray) rfl Tryz.func20 rfl rfl (by kernel_rfl) (fun w1 _ => oTag t w1 hd)) (fun _ _ => (.cons _ (.cons _ (.cons _ (.cons _ (.cons_cons _ (.cons_cons _ (.cons_cons _ (.cons_cons _ (List.nil_sublist _)))))))))) ?_
            rintro ⟨⟩ -
            exact CfgA.to (IH (some xa,some xb,some oc5,some (),some o9,some o10,some o11,some o12) ⟨hxa,hxb,hoc5,(fun _ => rfl),(fun _ => rfl),(fun _ => rfl),trivial⟩ (lt4 (by kernel_rfl))) (by kernel_rfl) (by kernel_rfl) (.refl _) (Conv.mk (by kernel_rfl))
      ·
       rcases oo8 with _ | o9
       ·
        rcases oo9 with _ | o10
        ·
         rcases oo10 with _ | o11
         ·
          rcases oo11 with _ | o12
          ·
           have hxa : MOk xa m := pp1
           have hxb : MOk xb n := pp3
           have hoc5 : OwnOk oc5 32 c.ps.length (c.ps.flatMap dgc) := pp5
           refine CfgA.to (l' := tF 8 8) (fuel' := 8) (O' := ([(tb,tob t),(cb,cob c),(nb,mob n),(mb,mob m)] ++ (Own.o 30 (c.ps.flatMap dgc) oc5 ++ (memMO xb n ++ (memMO xa m ++ []))))) (Γ' := [(44,[],.agg (oc (oA xa m)).toArray),(46,[],.agg (oc (oA xb n)).toArray),(48,[],.agg (oc (oC oc5 c)).toArray),(50,[],.agg (oc (oT t)).toArray),(49,[],.agg (tc t).toArray),(47,[],.agg (cc c).toArray),(45,[],.agg (mc n).toArray),(43,[],.agg (mc m).toArray),(7,[],.pointer (some ⟨tb,0,none⟩)),(6,[],.pointer (some ⟨cb,0,none⟩)),(5,[],.pointer (some ⟨nb,0,none⟩)),(4,[],.pointer (some ⟨mb,0,none⟩))]) ?_ (by kernel_rfl) (by kernel_rfl) (List.Perm.refl _) (Conv.mk (by kernel_rfl))
           refine CfgA.many [8,9,10,11] (by kernel_rfl) (by decide) (fuel' := 7) (by kernel_rfl) ⟨?_,?_,?_,?_,trivial⟩
           ·
            refine CfgI.eff (o := _) rfl (by kernel_rfl) (by kernel_rfl) (Eff.alloc (z := (.agg (oc ⟨0,m0,c0,t0⟩).toArray)) rfl (by kernel_rfl)) (fun _ _ => (.cons _ (.cons_cons _ (.cons_cons _ (.cons_cons _ (.cons_cons _ (List.nil_sublist _))))))) ?_
            rintro o9 ⟨ho9,no9⟩
            exact CfgA.to (IH (some xa,some xb,some oc5,some (),some o9,none,none,none) ⟨hxa,hxb,hoc5,(fun _ => rfl),(fun _ => rfl),(fun _ => rfl),trivial⟩ (lt4 (by kernel_rfl))) (by kernel_rfl) (by kernel_rfl) (.refl _) (Conv.mk (by kernel_rfl))
           ·
            refine CfgI.eff (o := _) rfl (by kernel_rfl) (by kernel_rfl) (Eff.alloc (z := (.agg (oc ⟨0,m0,c0,t0⟩).toArray)) rfl (by kernel_rfl)) (fun _ _ => (.cons _ (.cons_cons _ (.cons_cons _ (.cons_cons _ (.cons_cons _ (List.nil_sublist _))))))) ?_
            rintro o10 ⟨ho10,no10⟩
            exact CfgA.to (IH (some xa,some xb,some oc5,some (),none,some o10,none,none) ⟨hxa,hxb,hoc5,(fun _ => rfl),(fun _ => rfl),(fun _ => rfl),trivial⟩ (lt4 (by kernel_rfl))) (by kernel_rfl) (by kernel_rfl) (.refl _) (Conv.mk (by kernel_rfl))
           ·
            refine CfgI.eff (o := _) rfl (by kernel_rfl) (by kernel_rfl) (Eff.alloc (z := (.agg (oc ⟨0,m0,c0,t0⟩).toArray)) rfl (by kernel_rfl)) (fun _ _ => (.cons _ (.cons_cons _ (.cons_cons _ (.cons_cons _ (.cons_cons _ (List.nil_sublist _))))))) ?_
            rintro o11 ⟨ho11,no11⟩
            exact CfgA.to (IH (some xa,some xb,some oc5,some (),none,none,some o11,none) ⟨hxa,hxb,hoc5,(fun _ => rfl),(fun _ => rfl),(fun _ => rfl),trivial⟩ (lt4 (by kernel_rfl))) (by kernel_rfl) (by kernel_rfl) (.refl _) (Conv.mk (by kernel_rfl))
           ·
            refine CfgI.eff (o := _) rfl (by kernel_rfl) (by kernel_rfl) (Eff.alloc (z := (.agg (oc ⟨0,m0,c0,t0⟩).toArray)) rfl (by kernel_rfl)) (fun _ _ => (.cons _ (.cons_cons _ (.cons_cons _ (.cons_cons _ (.cons_cons _ (List.nil_sublist _))))))) ?_
            rintro o12 ⟨ho12,no12⟩
            exact CfgA.to (IH (some xa,some xb,some oc5,some (),none,none,none,some o12) ⟨hxa,hxb,hoc5,(fun _ => rfl),(fun _ => rfl),(fun _ => rfl),trivial⟩ (lt4 (by kernel_rfl))) (by kernel_rfl) (by kernel_rfl) (.refl _) (Conv.mk (by kernel_rfl))
          ·
           have hxa : MOk xa m := pp1
           have hxb : MOk xb n := pp3
           have hoc5 : OwnOk oc5 32 c.ps.length (c.ps.flatMap dgc) := pp5
           refine CfgA.to (l' := #[true,true,true,true,true,true,true,true,false,false,false,true,false,false,false,false]) (fuel' := 7) (O' := ([(o12,zob),(tb,tob t),(cb,cob c),(nb,mob n),(mb,mob m)] ++ (Own.o 30 (c.ps.flatMap dgc) oc5 ++ (memMO xb n ++ (memMO xa m ++ []))))) (Γ' := [(44,[],.agg (oc (oA xa m)).toArray),(46,[],.agg (oc (oA xb n)).toArray),(48,[],.agg (oc (oC oc5 c)).toArray),(50,[],.agg (oc (oT t)).toArray),(12,[],.pointer (some ⟨o12,0,none⟩)),(49,[],.agg (tc t).toArray),(47,[],.agg (cc c).toArray),(45,[],.agg (mc n).toArray),(43,[],.agg (mc m).toArray),(7,[],.pointer (some ⟨tb,0,none⟩)),(6,[],.pointer (some ⟨cb,0,none⟩)),(5,[],.pointer (some ⟨nb,0,none⟩)),(4,[],.pointer (some ⟨mb,0,none⟩))]) ?_ (by kernel_rfl) (by kernel_rfl) (List.Perm.refl _) (Conv.mk (by kernel_rfl))
           refine CfgA.many [8,9,10] (by kernel_rfl) (by decide) (fuel' := 6) (by kernel_rfl) ⟨?_,?_,?_,trivial⟩
           ·
            refine CfgI.eff (o := _) rfl (by kernel_rfl) (by kernel_rfl) (Eff.alloc (z := (.agg (oc ⟨0,m0,c0,t0⟩).toArray)) rfl (by kernel_rfl)) (fun _ _ => (.cons _ (.cons _ (.cons_cons _ (.cons_cons _ (.cons_cons _ (.cons_cons _ (List.nil_sublist _)))))))) ?_
            rintro o9 ⟨ho9,no9⟩
            exact CfgA.to (IH (some xa,some xb,some oc5,some (),some o9,none,none,some o12) ⟨hxa,hxb,hoc5,(fun _ => rfl),(fun _ => rfl),(fun _ => rfl),trivial⟩ (lt4 (by kernel_rfl))) (by kernel_rfl) (by kernel_rfl) (.refl _) (Conv.mk (by kernel_rfl))
           ·
            refine CfgI.eff (o := _) rfl (by kernel_rfl) (by kernel_rfl) (Eff.alloc (z := (.agg (oc ⟨0,m0,c0,t0⟩).toArray)) rfl (by kernel_rfl)) (fun _ _ => (.cons _ (.cons _ (.cons_cons _ (.cons_cons _ (.cons_cons _ (.cons_cons _ (List.nil_sublist _)))))))) ?_
            rintro o10 ⟨ho10,no10⟩
            exact CfgA.to (IH (some xa,some xb,some oc5,some (),none,some o10,none,some o12) ⟨hxa,hxb,hoc5,(fun _ => rfl),(fun _ => rfl),(fun _ => rfl),trivial⟩ (lt4 (by kernel_rfl))) (by kernel_rfl) (by kernel_rfl) (.refl _) (Conv.mk (by kernel_rfl))
           ·
            refine CfgI.eff (o := _) rfl (by kernel_rfl) (by kernel_rfl) (Eff.alloc (z := (.agg (oc ⟨0,m0,c0,t0⟩).toArray)) rfl (by kernel_rfl)) (fun _ _ => (.cons _ (.cons _ (.cons_cons _ (.cons_cons _ (.cons_cons _ (.cons_cons _ (List.nil_sublist _)))))))) ?_
            rintro o11 ⟨ho11,no11⟩
            exact CfgA.to (IH (some xa,some xb,some oc5,some (),none,none,some o11,some o12) ⟨hxa,hxb,hoc5,(fun _ => rfl),(fun _ => rfl),(fun _ => rfl),trivial⟩ (lt4 (by kernel_rfl))) (by kernel_rfl) (by kernel_rfl) (.refl _) (Conv.mk (by kernel_rfl))
         ·
          rcases oo11 with _ | o12
          ·
           have hxa : MOk xa m := pp1
           have hxb : MOk xb n := pp3
           have hoc5 : OwnOk oc5 32 c.ps.length (c.ps.flatMap dgc) := pp5
           refine CfgA.to (l' := #[true,true,true,true,true,true,true,true,false,false,true,false,false,false,false,false]) (fuel' := 7) (O' := ([(o11,zob),(tb,tob t),(cb,cob c),(nb,mob n),(mb,mob m)] ++ (Own.o 30 (c.ps.flatMap dgc) oc5 ++ (memMO xb n ++ (memMO xa m ++ []))))) (Γ' := [(44,[],.agg (oc (oA xa m)).toArray),(46,[],.agg (oc (oA xb n)).toArray),(48,[],.agg (oc (oC oc5 c)).toArray),(50,[],.agg (oc (oT t)).toArray),(11,[],.pointer (some ⟨o11,0,none⟩)),(49,[],.agg (tc t).toArray),(47,[],.agg (cc c).toArray),(45,[],.agg (mc n).toArray),(43,[],.agg (mc m).toArray),(7,[],.pointer (some ⟨tb,0,none⟩)),(6,[],.pointer (some ⟨cb,0,none⟩)),(5,[],.pointer (some ⟨nb,0,none⟩)),(4,[],.pointer (some ⟨mb,0,none⟩))]) ?_ (by kernel_rfl) (by kernel_rfl) (List.Perm.refl _) (Conv.mk (by kernel_rfl))
           refine CfgA.many [8,9,11] (by kernel_rfl) (by decide) (fuel' := 6) (by kernel_rfl) ⟨?_,?_,?_,trivial⟩
           ·
            refine CfgI.eff (o := _) rfl (by kernel_rfl) (by kernel_rfl) (Eff.alloc (z := (.agg (oc ⟨0,m0,c0,t0⟩).toArray)) rfl (by kernel_rfl)) (fun _ _ => (.cons _ (.cons _ (.cons_cons _ (.cons_cons _ (.cons_cons _ (.cons_cons _ (List.nil_sublist _)))))))) ?_
            rintro o9 ⟨ho9,no9⟩
            exact CfgA.to (IH (some xa,some xb,some oc5,some (),some o9,none,some o11,none) ⟨hxa,hxb,hoc5,(fun _ => rfl),(fun _ => rfl),(fun _ => rfl),trivial⟩ (lt4 (by kernel_rfl))) (by kernel_rfl) (by kernel_rfl) (.refl _) (Conv.mk (by kernel_rfl))
           ·
            refine CfgI.eff (o := _) rfl (by kernel_rfl) (by kernel_rfl) (Eff.alloc (z := (.agg (oc ⟨0,m0,c0,t0⟩).toArray)) rfl (by kernel_rfl)) (fun _ _ => (.cons _ (.cons _ (.cons_cons _ (.cons_cons _ (.cons_cons _ (.cons_cons _ (List.nil_sublist _)))))))) ?_
            rintro o10 ⟨ho10,no10⟩
            exact CfgA.to (IH (some xa,some xb,some oc5,some (),none,some o10,some o11,none) ⟨hxa,hxb,hoc5,(fun _ => rfl),(fun _ => rfl),(fun _ => rfl),trivial⟩ (lt4 (by kernel_rfl))) (by kernel_rfl) (by kernel_rfl) (.refl _) (Conv.mk (by kernel_rfl))
           ·
            refine CfgI.eff (o := _) rfl (by kernel_rfl) (by kernel_rfl) (Eff.alloc (z := (.agg (oc ⟨0,m0,c0,t0⟩).toArray)) rfl (by kernel_rfl)) (fun _ _ => (.cons _ (.cons _ (.cons_cons _ (.cons_cons _ (.cons_cons _ (.cons_cons _ (List.nil_sublist _)))))))) ?_
            rintro o12 ⟨ho12,no12⟩
            exact CfgA.to (IH (some xa,some xb,some oc5,some (),none,none,some o11,some o12) ⟨hxa,hxb,hoc5,(fun _ => rfl),(fun _ => rfl),(fun _ => rfl),trivial⟩ (lt4 (by kernel_rfl))) (by kernel_rfl) (by kernel_rfl) (pmid (l₁ := [(o11,zob)])) (Conv.mk (by kernel_rfl))
          ·
           have hxa : MOk xa m := pp1
           have hxb : MOk xb n := pp3
           have hoc5 : OwnOk oc5 32 c.ps.length (c.ps.flatMap dgc) := pp5
           refine CfgA.to (l' := #[true,true,true,true,true,true,true,true,false,false,true,true,false,false,false,false]) (fuel' := 6) (O' := ([(o11,zob),(o12,zob),(tb,tob t),(cb,cob c),(nb,mob n),(mb,mob m)] ++ (Own.o 30 (c.ps.flatMap dgc) oc5 ++ (memMO xb n ++ (memMO xa m ++ []))))) (Γ' := [(44,[],.agg (oc (oA xa m)).toArray),(46,[],.agg (oc (oA xb n)).toArray),(48,[],.agg (oc (oC oc5 c)).toArray),(50,[],.agg (oc (oT t)).toArray),(11,[],.pointer (some ⟨o11,0,none⟩)),(12,[],.pointer (some ⟨o12,0,none⟩)),(49,[],.agg (tc t).toArray),(47,[],.agg (cc c).toArray),(45,[],.agg (mc n).toArray),(43,[],.agg (mc m).toArray),(7,[],.pointer (some ⟨tb,0,none⟩)),(6,[],.pointer (some ⟨cb,0,none⟩)),(5,[],.pointer (some ⟨nb,0,none⟩)),(4,[],.pointer (some ⟨mb,0,none⟩))]) ?_ (by kernel_rfl) (by kernel_rfl) (List.Perm.refl _) (Conv.mk (by kernel_rfl))
           refine CfgA.many [8,9] (by kernel_rfl) (by decide) (fuel' := 5) (by kernel_rfl) ⟨?_,?_,trivial⟩
           ·
            refine CfgI.eff (o := _) rfl (by kernel_rfl) (by kernel_rfl) (Eff.alloc (z := (.agg (oc ⟨0,m0,c0,t0⟩).toArray)) rfl (by kernel_rfl)) (fun _ _ => (.cons _ (.cons _ (.cons _ (.cons_cons _ (.cons_cons _ (.cons_cons _ (.cons_cons _ (List.nil_sublist _))))))))) ?_
            rintro o9 ⟨ho9,no9⟩
            exact CfgA.to (IH (some xa,some xb,some oc5,some (),some o9,none,some o11,some o12) ⟨hxa,hxb,hoc5,(fun _ => rfl),(fun _ => rfl),(fun _ => rfl),trivial⟩ (lt4 (by kernel_rfl))) (by kernel_rfl) (by kernel_rfl) (.refl _) (Conv.mk (by kernel_rfl))
           ·
            refine CfgI.eff (o := _) rfl (by kernel_rfl) (by kernel_rfl) (Eff.alloc (z := (.agg (oc ⟨0,m0,c0,t0⟩).toArray)) rfl (by kernel_rfl)) (fun _ _ => (.cons _ (.cons _ (.cons _ (.cons_cons _ (.cons_cons _ (.cons_cons _ (.cons_cons _ (List.nil_sublist _))))))))) ?_
            rintro o10 ⟨ho10,no10⟩
            exact CfgA.to (IH (some xa,some xb,some oc5,some (),none,some o10,some o11,some o12) ⟨hxa,hxb,hoc5,(fun _ => rfl),(fun _ => rfl),(fun _ => rfl),trivial⟩ (lt4 (by kernel_rfl))) (by kernel_rfl) (by kernel_rfl) (.refl _) (Conv.mk (by kernel_rfl))
        ·
         rcases oo10 with _ | o11
         ·
          rcases oo11 with _ | o12
          ·
           have hxa : MOk xa m := pp1
           have hxb : MOk xb n := pp3
           have hoc5 : OwnOk oc5 32 c.ps.length (c.ps.flatMap dgc) := pp5
           refine CfgA.to (l' := #[true,true,true,true,true,true,true,true,false,true,false,false,false,false,false,false]) (fuel' := 7) (O' := ([(o10,zob),(tb,tob t),(cb,cob c),(nb,mob n),(mb,mob m)] ++ (Own.o 30 (c.ps.flatMap dgc) oc5 ++ (memMO xb n ++ (memMO xa m ++ []))))) (Γ' := [(44,[],.agg (oc (oA xa m)).toArray),(46,[],.agg (oc (oA xb n)).toArray),(48,[],.agg (oc (oC oc5 c)).toArray),(50,[],.agg (oc (oT t)).toArray),(10,[],.pointer (some ⟨o10,0,none⟩)),(49,[],.agg (tc t).toArray),(47,[],.agg (cc c).toArray),(45,[],.agg (mc n).toArray),(43,[],.agg (mc m).toArray),(7,[],.pointer (some ⟨tb,0,none⟩)),(6,[],.pointer (some ⟨cb,0,none⟩)),(5,[],.pointer (some ⟨nb,0,none⟩)),(4,[],.pointer (some ⟨mb,0,none⟩))]) ?_ (by kernel_rfl) (by kernel_rfl) (List.Perm.refl _) (Conv.mk (by kernel_rfl))
           refine CfgA.many [8,10,11] (by kernel_rfl) (by decide) (fuel' := 6) (by kernel_rfl) ⟨?_,?_,?_,trivial⟩
           ·
            refine CfgI.eff (o := _) rfl (by kernel_rfl) (by kernel_rfl) (Eff.alloc (z := (.agg (oc ⟨0,m0,c0,t0⟩).toArray)) rfl (by kernel_rfl)) (fun _ _ => (.cons _ (.cons _ (.cons_cons _ (.cons_cons _ (.cons_cons _ (.cons_cons _ (List.nil_sublist _)))))))) ?_
            rintro o9 ⟨ho9,no9⟩
            exact CfgA.to (IH (some xa,some xb,some oc5,some (),some o9,some o10,none,none) ⟨hxa,hxb,hoc5,(fun _ => rfl),(fun _ => rfl),(fun _ => rfl),trivial⟩ (lt4 (by kernel_rfl))) (by kernel_rfl) (by kernel_rfl) (.refl _) (Conv.mk (by kernel_rfl))
           ·
            refine CfgI.eff (o := _) rfl (by kernel_rfl) (by kernel_rfl) (Eff.alloc (z := (.agg (oc ⟨0,m0,c0,t0⟩).toArray)) rfl (by kernel_rfl)) (fun _ _ => (.cons _ (.cons _ (.cons_cons _ (.cons_cons _ (.cons_cons _ (.cons_cons _ (List.nil_sublist _)))))))) ?_
            rintro o11 ⟨ho11,no11⟩
            exact CfgA.to (IH (some xa,some xb,some oc5,some (),none,some o10,some o11,none) ⟨hxa,hxb,hoc5,(fun _ => rfl),(fun _ => rfl),(fun _ => rfl),trivial⟩ (lt4 (by kernel_rfl))) (by kernel_rfl) (by kernel_rfl) (pmid (l₁ := [(o10,zob)])) (Conv.mk (by kernel_rfl))
           ·
            refine CfgI.eff (o := _) rfl (by kernel_rfl) (by kernel_rfl) (Eff.alloc (z := (.agg (oc ⟨0,m0,c0,t0⟩).toArray)) rfl (by kernel_rfl)) (fun _ _ => (.cons _ (.cons _ (.cons_cons _ (.cons_cons _ (.cons_cons _ (.cons_cons _ (List.nil_sublist _)))))))) ?_
            rintro o12 ⟨ho12,no12⟩
            exact CfgA.to (IH (some xa,some xb,some oc5,some (),none,some o10,none,some o12) ⟨hxa,hxb,hoc5,(fun _ => rfl),(fun _ => rfl),(fun _ => rfl),trivial⟩ (lt4 (by kernel_rfl))) (by kernel_rfl) (by kernel_rfl) (pmid (l₁ := [(o10,zob)])) (Conv.mk (by kernel_rfl))
          ·
           have hxa : MOk xa m := pp1
           have hxb : MOk xb n := pp3
           have hoc5 : OwnOk oc5 32 c.ps.length (c.ps.flatMap dgc) := pp5
           refine CfgA.to (l' := #[true,true,true,true,true,true,true,true,false,true,false,true,false,false,false,false]) (fuel' := 6) (O' := ([(o10,zob),(o12,zob),(tb,tob t),(cb,cob c),(nb,mob n),(mb,mob m)] ++ (Own.o 30 (c.ps.flatMap dgc) oc5 ++ (memMO xb n ++ (memMO xa m ++ []))))) (Γ' := [(44,[],.agg (oc (oA xa m)).toArray),(46,[],.agg (oc (oA xb n)).toArray),(48,[],.agg (oc (oC oc5 c)).toArray),(50,[],.agg (oc (oT t)).toArray),(10,[],.pointer (some ⟨o10,0,none⟩)),(12,[],.pointer (some ⟨o12,0,none⟩)),(49,[],.agg (tc t).toArray),(47,[],.agg (cc c).toArray),(45,[],.agg (mc n).toArray),(43,[],.agg (mc m).toArray),(7,[],.pointer (some ⟨tb,0,none⟩)),(6,[],.pointer (some ⟨cb,0,none⟩)),(5,[],.pointer (some ⟨nb,0,none⟩)),(4,[],.pointer (some ⟨mb,0,none⟩))]) ?_ (by kernel_rfl) (by kernel_rfl) (List.Perm.refl _) (Conv.mk (by kernel_rfl))
           refine CfgA.many [8,10] (by kernel_rfl) (by decide) (fuel' := 5) (by kernel_rfl) ⟨?_,?_,trivial⟩
           ·
            refine CfgI.eff (o := _) rfl (by kernel_rfl) (by kernel_rfl) (Eff.alloc (z := (.agg (oc ⟨0,m0,c0,t0⟩).toArray)) rfl (by kernel_rfl)) (fun _ _ => (.cons _ (.cons _ (.cons _ (.cons_cons _ (.cons_cons _ (.cons_cons _ (.cons_cons _ (List.nil_sublist _))))))))) ?_
            rintro o9 ⟨ho9,no9⟩
            exact CfgA.to (IH (some xa,some xb,some oc5,some (),some o9,some o10,none,some o12) ⟨hxa,hxb,hoc5,(fun _ => rfl),(fun _ => rfl),(fun _ => rfl),trivial⟩ (lt4 (by kernel_rfl))) (by kernel_rfl) (by kernel_rfl) (.refl _) (Conv.mk (by kernel_rfl))
           ·
            refine CfgI.eff (o := _) rfl (by kernel_rfl) (by kernel_rfl) (Eff.alloc (z := (.agg (oc ⟨0,m0,c0,t0⟩).toArray)) rfl (by kernel_rfl)) (fun _ _ => (.cons _ (.cons _ (.cons _ (.cons_cons _ (.cons_cons _ (.cons_cons _ (.cons_cons _ (List.nil_sublist _))))))))) ?_
            rintro o11 ⟨ho11,no11⟩
            exact CfgA.to (IH (some xa,some xb,some oc5,some (),none,some o10,some o11,some o12) ⟨hxa,hxb,hoc5,(fun _ => rfl),(fun _ => rfl),(fun _ => rfl),trivial⟩ (lt4 (by kernel_rfl))) (by kernel_rfl) (by kernel_rfl) (pmid (l₁ := [(o10,zob)])) (Conv.mk (by kernel_rfl))
         ·
          rcases oo11 with _ | o12
          ·
           have hxa : MOk xa m := pp1
           have hxb : MOk xb n := pp3
           have hoc5 : OwnOk oc5 32 c.ps.length (c.ps.flatMap dgc) := pp5
           refine CfgA.to (l' := #[true,true,true,true,true,true,true,true,false,true,true,false,false,false,false,false]) (fuel' := 6) (O' := ([(o10,zob),(o11,zob),(tb,tob t),(cb,cob c),(nb,mob n),(mb,mob m)] ++ (Own.o 30 (c.ps.flatMap dgc) oc5 ++ (memMO xb n ++ (memMO xa m ++ []))))) (Γ' := [(44,[],.agg (oc (oA xa m)).toArray),(46,[],.agg (oc (oA xb n)).toArray),(48,[],.agg (oc (oC oc5 c)).toArray),(50,[],.agg (oc (oT t)).toArray),(10,[],.pointer (some ⟨o10,0,none⟩)),(11,[],.pointer (some ⟨o11,0,none⟩)),(49,[],.agg (tc t).toArray),(47,[],.agg (cc c).toArray),(45,[],.agg (mc n).toArray),(43,[],.agg (mc m).toArray),(7,[],.pointer (some ⟨tb,0,none⟩)),(6,[],.pointer (some ⟨cb,0,none⟩)),(5,[],.pointer (some ⟨nb,0,none⟩)),(4,[],.pointer (some ⟨mb,0,none⟩))]) ?_ (by kernel_rfl) (by kernel_rfl) (List.Perm.refl _) (Conv.mk (by kernel_rfl))
           refine CfgA.many [8,11] (by kernel_rfl) (by decide) (fuel' := 5) (by kernel_rfl) ⟨?_,?_,trivial⟩
           ·
            refine CfgI.eff (o := _) rfl (by kernel_rfl) (by kernel_rfl) (Eff.alloc (z := (.agg (oc ⟨0,m0,c0,t0⟩).toArray)) rfl (by kernel_rfl)) (fun _ _ => (.cons _ (.cons _ (.cons _ (.cons_cons _ (.cons_cons _ (.cons_cons _ (.cons_cons _ (List.nil_sublist _))))))))) ?_
            rintro o9 ⟨ho9,no9⟩
            exact CfgA.to (IH (some xa,some xb,some oc5,some (),some o9,some o10,some o11,none) ⟨hxa,hxb,hoc5,(fun _ => rfl),(fun _ => rfl),(fun _ => rfl),trivial⟩ (lt4 (by kernel_rfl))) (by kernel_rfl) (by kernel_rfl) (.refl _) (Conv.mk (by kernel_rfl))
           ·
            refine CfgI.eff (o := _) rfl (by kernel_rfl) (by kernel_rfl) (Eff.alloc (z := (.agg (oc ⟨0,m0,c0,t0⟩).toArray)) rfl (by kernel_rfl)) (fun _ _ => (.cons _ (.cons _ (.cons _ (.cons_cons _ (.cons_cons _ (.cons_cons _ (.cons_cons _ (List.nil_sublist _))))))))) ?_
            rintro o12 ⟨ho12,no12⟩
            exact CfgA.to (IH (some xa,some xb,some oc5,some (),none,some o10,some o11,some o12) ⟨hxa,hxb,hoc5,(fun _ => rfl),(fun _ => rfl),(fun _ => rfl),trivial⟩ (lt4 (by kernel_rfl))) (by kernel_rfl) (by kernel_rfl) (pmid (l₁ := [(o10,zob),(o11,zob)])) (Conv.mk (by kernel_rfl))
          ·
           have hxa : MOk xa m := pp1
           have hxb : MOk xb n := pp3
           have hoc5 : OwnOk oc5 32 c.ps.length (c.ps.flatMap dgc) := pp5
           refine CfgA.to (l' := #[true,true,true,true,true,true,true,true,false,true,true,true,false,false,false,false]) (fuel' := 5) (O' := ([(o10,zob),(o11,zob),(o12,zob),(tb,tob t),(cb,cob c),(nb,mob n),(mb,mob m)] ++ (Own.o 30 (c.ps.flatMap dgc) oc5 ++ (memMO xb n ++ (memMO xa m ++ []))))) (Γ' := [(44,[],.agg (oc (oA xa m)).toArray),(46,[],.agg (oc (oA xb n)).toArray),(48,[],.agg (oc (oC oc5 c)).toArray),(50,[],.agg (oc (oT t)).toArray),(10,[],.pointer (some ⟨o10,0,none⟩)),(11,[],.pointer (some ⟨o11,0,none⟩)),(12,[],.pointer (some ⟨o12,0,none⟩)),(49,[],.agg (tc t).toArray),(47,[],.agg (cc c).toArray),(45,[],.agg (mc n).toArray),(43,[],.agg (mc m).toArray),(7,[],.pointer (some ⟨tb,0,none⟩)),(6,[],.pointer (some ⟨cb,0,none⟩)),(5,[],.pointer (some ⟨nb,0,none⟩)),(4,[],.pointer (some ⟨mb,0,none⟩))]) ?_ (by kernel_rfl) (by kernel_rfl) (List.Perm.refl _) (Conv.mk (by kernel_rfl))
           refine CfgA.many [8] (by kernel_rfl) (by decide) (fuel' := 4) (by kernel_rfl) ⟨?_,trivial⟩
           ·
            refine CfgI.eff (o := _) rfl (by kernel_rfl) (by kernel_rfl) (Eff.alloc (z := (.agg (oc ⟨0,m0,c0,t0⟩).toArray)) rfl (by kernel_rfl)) (fun _ _ => (.cons _ (.cons _ (.cons _ (.cons _ (.cons_cons _ (.cons_cons _ (.cons_cons _ (.cons_cons _ (List.nil_sublist _)))))))))) ?_
            rintro o9 ⟨ho9,no9⟩
            exact CfgA.to (IH (some xa,some xb,some oc5,some (),some o9,some o10,some o11,some o12) ⟨hxa,hxb,hoc5,(fun _ => rfl),(fun _ => rfl),(fun _ => rfl),trivial⟩ (lt4 (by kernel_rfl))) (by kernel_rfl) (by kernel_rfl) (.refl _) (Conv.mk (by kernel_rfl))
       ·
        rcases oo9 with _ | o10
        ·
         rcases oo10 with _ | o11
         ·
          rcases oo11 with _ | o12
          ·
           have hxa : MOk xa m := pp1
           have hxb : MOk xb n := pp3
           have hoc5 : OwnOk oc5 32 c.ps.length (c.ps.flatMap dgc) := pp5
           refine CfgA.to (l' := tF 9 7) (fuel' := 7) (O' := ([(o9,zob),(tb,tob t),(cb,cob c),(nb,mob n),(mb,mob m)] ++ (Own.o 30 (c.ps.flatMap dgc) oc5 ++ (memMO xb n ++ (memMO xa m ++ []))))) (Γ' := [(44,[],.agg (oc (oA xa m)).toArray),(46,[],.agg (oc (oA xb n)).toArray),(48,[],.agg (oc (oC oc5 c)).toArray),(50,[],.agg (oc (oT t)).toArray),(9,[],.pointer (some ⟨o9,0,none⟩)),(49,[],.agg (tc t).toArray),(47,[],.agg (cc c).toArray),(45,[],.agg (mc n).toArray),(43,[],.agg (mc m).toArray),(7,[],.pointer (some ⟨tb,0,none⟩)),(6,[],.pointer (some ⟨cb,0,none⟩)),(5,[],.pointer (some ⟨nb,0,none⟩)),(4,[],.pointer (some ⟨mb,0,none⟩))]) ?_ (by kernel_rfl) (by kernel_rfl) (List.Perm.refl _) (Conv.mk (by kernel_rfl))
           refine CfgA.many [9,10,11] (by kernel_rfl) (by decide) (fuel' := 6) (by kernel_rfl) ⟨?_,?_,?_,trivial⟩
           ·
            refine CfgI.eff (o := _) rfl (by kernel_rfl) (by kernel_rfl) (Eff.alloc (z := (.agg (oc ⟨0,m0,c0,t0⟩).toArray)) rfl (by kernel_rfl)) (fun _ _ => (.cons _ (.cons _ (.cons_cons _ (.cons_cons _ (.cons_cons _ (.cons_cons _ (List.nil_sublist _)))))))) ?_
            rintro o10 ⟨ho10,no10⟩
            exact CfgA.to (IH (some xa,some xb,some oc5,some (),some o9,some o10,none,none) ⟨hxa,hxb,hoc5,(fun _ => rfl),(fun _ => rfl),(fun _ => rfl),trivial⟩ (lt4 (by kernel_rfl))) (by kernel_rfl) (by kernel_rfl) (pmid (l₁ := [(o9,zob)])) (Conv.mk (by kernel_rfl))
           ·
            refine CfgI.eff (o := _) rfl (by kernel_rfl) (by kernel_rfl) (Eff.alloc (z := (.agg (oc ⟨0,m0,c0,t0⟩).toArray)) rfl (by kernel_rfl)) (fun _ _ => (.cons _ (.cons _ (.cons_cons _ (.cons_cons _ (.cons_cons _ (.cons_cons _ (List.nil_sublist _)))))))) ?_
            rintro o11 ⟨ho11,no11⟩
            exact CfgA.to (IH (some xa,some xb,some oc5,some (),some o9,none,some o11,none) ⟨hxa,hxb,hoc5,(fun _ => rfl),(fun _ => rfl),(fun _ => rfl),trivial⟩ (lt4 (by kernel_rfl))) (by kernel_rfl) (by kernel_rfl) (pmid (l₁ := [(o9,zob)])) (Conv.mk (by kernel_rfl))
           ·
            refine CfgI.eff (o := _) rfl (by kernel_rfl) (by kernel_rfl) (Eff.alloc (z := (.agg (oc ⟨0,m0,c0,t0⟩).toArray)) rfl (by kernel_rfl)) (fun _ _ => (.cons _ (.cons _ (.cons_cons _ (.cons_cons _ (.cons_cons _ (.cons_cons _ (List.nil_sublist _)))))))) ?_
            rintro o12 ⟨ho12,no12⟩
            exact CfgA.to (IH (some xa,some xb,some oc5,some (),some o9,none,none,some o12) ⟨hxa,hxb,hoc5,(fun _ => rfl),(fun _ => rfl),(fun _ => rfl),trivial⟩ (lt4 (by kernel_rfl))) (by kernel_rfl) (by kernel_rfl) (pmid (l₁ := [(o9,zob)])) (Conv.mk (by kernel_rfl))
          ·
           have hxa : MOk xa m := pp1
           have hxb : MOk xb n := pp3
           have hoc5 : OwnOk oc5 32 c.ps.length (c.ps.flatMap dgc) := pp5
           refine CfgA.to (l' := #[true,true,true,true,true,true,true,true,true,false,false,true,false,false,false,false]) (fuel' := 6) (O' := ([(o9,zob),(o12,zob),(tb,tob t),(cb,cob c),(nb,mob n),(mb,mob m)] ++ (Own.o 30 (c.ps.flatMap dgc) oc5 ++ (memMO xb n ++ (memMO xa m ++ []))))) (Γ' := [(44,[],.agg (oc (oA xa m)).toArray),(46,[],.agg (oc (oA xb n)).toArray),(48,[],.agg (oc (oC oc5 c)).toArray),(50,[],.agg (oc (oT t)).toArray),(9,[],.pointer (some ⟨o9,0,none⟩)),(12,[],.pointer (some ⟨o12,0,none⟩)),(49,[],.agg (tc t).toArray),(47,[],.agg (cc c).toArray),(45,[],.agg (mc n).toArray),(43,[],.agg (mc m).toArray),(7,[],.pointer (some ⟨tb,0,none⟩)),(6,[],.pointer (some ⟨cb,0,none⟩)),(5,[],.pointer (some ⟨nb,0,none⟩)),(4,[],.pointer (some ⟨mb,0,none⟩))]) ?_ (by kernel_rfl) (by kernel_rfl) (List.Perm.refl _) (Conv.mk (by kernel_rfl))
           refine CfgA.many [9,10] (by kernel_rfl) (by decide) (fuel' := 5) (by kernel_rfl) ⟨?_,?_,trivial⟩
           ·
            refine CfgI.eff (o := _) rfl (by kernel_rfl) (by kernel_rfl) (Eff.alloc (z := (.agg (oc ⟨0,m0,c0,t0⟩).toArray)) rfl (by kernel_rfl)) (fun _ _ => (.cons _ (.cons _ (.cons _ (.cons_cons _ (.cons_cons _ (.cons_cons _ (.cons_cons _ (List.nil_sublist _))))))))) ?_
            rintro o10 ⟨ho10,no10⟩
            exact CfgA.to (IH (some xa,some xb,some oc5,some (),some o9,some o10,none,some o12) ⟨hxa,hxb,hoc5,(fun _ => rfl),(fun _ => rfl),(fun _ => rfl),trivial⟩ (lt4 (by kernel_rfl))) (by kernel_rfl) (by kernel_rfl) (pmid (l₁ := [(o9,zob)])) (Conv.mk (by kernel_rfl))
           ·
            refine CfgI.eff (o := _) rfl (by kernel_rfl) (by kernel_rfl) (Eff.alloc (z := (.agg (oc ⟨0,m0,c0,t0⟩).toArray)) rfl (by kernel_rfl)) (fun _ _ => (.cons _ (.cons _ (.cons _ (.cons_cons _ (.cons_cons _ (.cons_cons _ (.cons_cons _ (List.nil_sublist _))))))))) ?_
            rintro o11 ⟨ho11,no11⟩
            exact CfgA.to (IH (some xa,some xb,some oc5,some (),some o9,none,some o11,some o12) ⟨hxa,hxb,hoc5,(fun _ => rfl),(fun _ => rfl),(fun _ => rfl),trivial⟩ (lt4 (by kernel_rfl))) (by kernel_rfl) (by kernel_rfl) (pmid (l₁ := [(o9,zob)])) (Conv.mk (by kernel_rfl))
         ·
          rcases oo11 with _ | o12
          ·
           have hxa : MOk xa m := pp1
           have hxb : MOk xb n := pp3
           have hoc5 : OwnOk oc5 32 c.ps.length (c.ps.flatMap dgc) := pp5
           refine CfgA.to (l' := #[true,true,true,true,true,true,true,true,true,false,true,false,false,false,false,false]) (fuel' := 6) (O' := ([(o9,zob),(o11,zob),(tb,tob t),(cb,cob c),(nb,mob n),(mb,mob m)] ++ (Own.o 30 (c.ps.flatMap dgc) oc5 ++ (memMO xb n ++ (memMO xa m ++ []))))) (Γ' := [(44,[],.agg (oc (oA xa m)).toArray),(46,[],.agg (oc (oA xb n)).toArray),(48,[],.agg (oc (oC oc5 c)).toArray),(50,[],.agg (oc (oT t)).toArray),(9,[],.pointer (some ⟨o9,0,none⟩)),(11,[],.pointer (some ⟨o11,0,none⟩)),(49,[],.agg (tc t).toArray),(47,[],.agg (cc c).toArray),(45,[],.agg (mc n).toArray),(43,[],.agg (mc m).toArray),(7,[],.pointer (some ⟨tb,0,none⟩)),(6,[],.pointer (some ⟨cb,0,none⟩)),(5,[],.pointer (some ⟨nb,0,none⟩)),(4,[],.pointer (some ⟨mb,0,none⟩))]) ?_ (by kernel_rfl) (by kernel_rfl) (List.Perm.refl _) (Conv.mk (by kernel_rfl))
           refine CfgA.many [9,11] (by kernel_rfl) (by decide) (fuel' := 5) (by kernel_rfl) ⟨?_,?_,trivial⟩
           ·
            refine CfgI.eff (o := _) rfl (by kernel_rfl) (by kernel_rfl) (Eff.alloc (z := (.agg (oc ⟨0,m0,c0,t0⟩).toArray)) rfl (by kernel_rfl)) (fun _ _ => (.cons _ (.cons _ (.cons _ (.cons_cons _ (.cons_cons _ (.cons_cons _ (.cons_cons _ (List.nil_sublist _))))))))) ?_
            rintro o10 ⟨ho10,no10⟩
            exact CfgA.to (IH (some xa,some xb,some oc5,some (),some o9,some o10,some o11,none) ⟨hxa,hxb,hoc5,(fun _ => rfl),(fun _ => rfl),(fun _ => rfl),trivial⟩ (lt4 (by kernel_rfl))) (by kernel_rfl) (by kernel_rfl) (pmid (l₁ := [(o9,zob)])) (Conv.mk (by kernel_rfl))
           ·
            refine CfgI.eff (o := _) rfl (by kernel_rfl) (by kernel_rfl) (Eff.alloc (z := (.agg (oc ⟨0,m0,c0,t0⟩).toArray)) rfl (by kernel_rfl)) (fun _ _ => (.cons _ (.cons _ (.cons _ (.cons_cons _ (.cons_cons _ (.cons_cons _ (.cons_cons _ (List.nil_sublist _))))))))) ?_
            rintro o12 ⟨ho12,no12⟩
            exact CfgA.to (IH (some xa,some xb,some oc5,some (),some o9,none,some o11,some o12) ⟨hxa,hxb,hoc5,(fun _ => rfl),(fun _ => rfl),(fun _ => rfl),trivial⟩ (lt4 (by kernel_rfl))) (by kernel_rfl) (by kernel_rfl) (pmid (l₁ := [(o9,zob),(o11,zob)])) (Conv.mk (by kernel_rfl))
          ·
           have hxa : MOk xa m := pp1
           have hxb : MOk xb n := pp3
           have hoc5 : OwnOk oc5 32 c.ps.length (c.ps.flatMap dgc) := pp5
           refine CfgA.to (l' := #[true,true,true,true,true,true,true,true,true,false,true,true,false,false,false,false]) (fuel' := 5) (O' := ([(o9,zob),(o11,zob),(o12,zob),(tb,tob t),(cb,cob c),(nb,mob n),(mb,mob m)] ++ (Own.o 30 (c.ps.flatMap dgc) oc5 ++ (memMO xb n ++ (memMO xa m ++ []))))) (Γ' := [(44,[],.agg (oc (oA xa m)).toArray),(46,[],.agg (oc (oA xb n)).toArray),(48,[],.agg (oc (oC oc5 c)).toArray),(50,[],.agg (oc (oT t)).toArray),(9,[],.pointer (some ⟨o9,0,none⟩)),(11,[],.pointer (some ⟨o11,0,none⟩)),(12,[],.pointer (some ⟨o12,0,none⟩)),(49,[],.agg (tc t).toArray),(47,[],.agg (cc c).toArray),(45,[],.agg (mc n).toArray),(43,[],.agg (mc m).toArray),(7,[],.pointer (some ⟨tb,0,none⟩)),(6,[],.pointer (some ⟨cb,0,none⟩)),(5,[],.pointer (some ⟨nb,0,none⟩)),(4,[],.pointer (some ⟨mb,0,none⟩))]) ?_ (by kernel_rfl) (by kernel_rfl) (List.Perm.refl _) (Conv.mk (by kernel_rfl))
           refine CfgA.many [9] (by kernel_rfl) (by decide) (fuel' := 4) (by kernel_rfl) ⟨?_,trivial⟩
           ·
            refine CfgI.eff (o := _) rfl (by kernel_rfl) (by kernel_rfl) (Eff.alloc (z := (.agg (oc ⟨0,m0,c0,t0⟩).toArray)) rfl (by kernel_rfl)) (fun _ _ => (.cons _ (.cons _ (.cons _ (.cons _ (.cons_cons _ (.cons_cons _ (.cons_cons _ (.cons_cons _ (List.nil_sublist _)))))))))) ?_
            rintro o10 ⟨ho10,no10⟩
            exact CfgA.to (IH (some xa,some xb,some oc5,some (),some o9,some o10,some o11,some o12) ⟨hxa,hxb,hoc5,(fun _ => rfl),(fun _ => rfl),(fun _ => rfl),trivial⟩ (lt4 (by kernel_rfl))) (by kernel_rfl) (by kernel_rfl) (pmid (l₁ := [(o9,zob)])) (Conv.mk (by kernel_rfl))
        ·
         rcases oo10 with _ | o11
         ·
          rcases oo11 with _ | o12
          ·
           have hxa : MOk xa m := pp1
           have hxb : MOk xb n := pp3
           have hoc5 : OwnOk oc5 32 c.ps.length (c.ps.flatMap dgc) := pp5
           refine CfgA.to (l' := tF 10 6) (fuel' := 6) (O' := ([(o9,zob),(o10,zob),(tb,tob t),(cb,cob c),(nb,mob n),(mb,mob m)] ++ (Own.o 30 (c.ps.flatMap dgc) oc5 ++ (memMO xb n ++ (memMO xa m ++ []))))) (Γ' := [(44,[],.agg (oc (oA xa m)).toArray),(46,[],.agg (oc (oA xb n)).toArray),(48,[],.agg (oc (oC oc5 c)).toArray),(50,[],.agg (oc (oT t)).toArray),(9,[],.pointer (some ⟨o9,0,none⟩)),(10,[],.pointer (some ⟨o10,0,none⟩)),(49,[],.agg (tc t).toArray),(47,[],.agg (cc c).toArray),(45,[],.agg (mc n).toArray),(43,[],.agg (mc m).toArray),(7,[],.pointer (some ⟨tb,0,none⟩)),(6,[],.pointer (some ⟨cb,0,none⟩)),(5,[],.pointer (some ⟨nb,0,none⟩)),(4,[],.pointer (some ⟨mb,0,none⟩))]) ?_ (by kernel_rfl) (by kernel_rfl) (List.Perm.refl _) (Conv.mk (by kernel_rfl))
           refine CfgA.many [10,11] (by kernel_rfl) (by decide) (fuel' := 5) (by kernel_rfl) ⟨?_,?_,trivial⟩
           ·
            refine CfgI.eff (o := _) rfl (by kernel_rfl) (by kernel_rfl) (Eff.alloc (z := (.agg (oc ⟨0,m0,c0,t0⟩).toArray)) rfl (by kernel_rfl)) (fun _ _ => (.cons _ (.cons _ (.cons _ (.cons_cons _ (.cons_cons _ (.cons_cons _ (.cons_cons _ (List.nil_sublist _))))))))) ?_
            rintro o11 ⟨ho11,no11⟩
            exact CfgA.to (IH (some xa,some xb,some oc5,some (),some o9,some o10,some o11,none) ⟨hxa,hxb,hoc5,(fun _ => rfl),(fun _ => rfl),(fun _ => rfl),trivial⟩ (lt4 (by kernel_rfl))) (by kernel_rfl) (by kernel_rfl) (pmid (l₁ := [(o9,zob),(o10,zob)])) (Conv.mk (by kernel_rfl))
           ·
            refine CfgI.eff (o := _) rfl (by kernel_rfl) (by kernel_rfl) (Eff.alloc (z := (.agg (oc ⟨0,m0,c0,t0⟩).toArray)) rfl (by kernel_rfl)) (fun _ _ => (.cons _ (.cons _ (.cons _ (.cons_cons _ (.cons_cons _ (.cons_cons _ (.cons_cons _ (List.nil_sublist _))))))))) ?_
            rintro o12 ⟨ho12,no12⟩
            exact CfgA.to (IH (some xa,some xb,some oc5,some (),some o9,some o10,none,some o12) ⟨hxa,hxb,hoc5,(fun _ => rfl),(fun _ => rfl),(fun _ => rfl),trivial⟩ (lt4 (by kernel_rfl))) (by kernel_rfl) (by kernel_rfl) (pmid (l₁ := [(o9,zob),(o10,zob)])) (Conv.mk (by kernel_rfl))
          ·
           have hxa : MOk xa m := pp1
           have hxb : MOk xb n := pp3
           have hoc5 : OwnOk oc5 32 c.ps.length (c.ps.flatMap dgc) := pp5
           refine CfgA.to (l' := #[true,true,true,true,true,true,true,true,true,true,false,true,false,false,false,false]) (fuel' := 5) (O' := ([(o9,zob),(o10,zob),(o12,zob),(tb,tob t),(cb,cob c),(nb,mob n),(mb,mob m)] ++ (Own.o 30 (c.ps.flatMap dgc) oc5 ++ (memMO xb n ++ (memMO xa m ++ []))))) (Γ' := [(44,[],.agg (oc (oA xa m)).toArray),(46,[],.agg (oc (oA xb n)).toArray),(48,[],.agg (oc (oC oc5 c)).toArray),(50,[],.agg (oc (oT t)).toArray),(9,[],.pointer (some ⟨o9,0,none⟩)),(10,[],.pointer (some ⟨o10,0,none⟩)),(12,[],.pointer (some ⟨o12,0,none⟩)),(49,[],.agg (tc t).toArray),(47,[],.agg (cc c).toArray),(45,[],.agg (mc n).toArray),(43,[],.agg (mc m).toArray),(7,[],.pointer (some ⟨tb,0,none⟩)),(6,[],.pointer (some ⟨cb,0,none⟩)),(5,[],.pointer (some ⟨nb,0,none⟩)),(4,[],.pointer (some ⟨mb,0,none⟩))]) ?_ (by kernel_rfl) (by kernel_rfl) (List.Perm.refl _) (Conv.mk (by kernel_rfl))
           refine CfgA.many [10] (by kernel_rfl) (by decide) (fuel' := 4) (by kernel_rfl) ⟨?_,trivial⟩
           ·
            refine CfgI.eff (o := _) rfl (by kernel_rfl) (by kernel_rfl) (Eff.alloc (z := (.agg (oc ⟨0,m0,c0,t0⟩).toArray)) rfl (by kernel_rfl)) (fun _ _ => (.cons _ (.cons _ (.cons _ (.cons _ (.cons_cons _ (.cons_cons _ (.cons_cons _ (.cons_cons _ (List.nil_sublist _)))))))))) ?_
            rintro o11 ⟨ho11,no11⟩
            exact CfgA.to (IH (some xa,some xb,some oc5,some (),some o9,some o10,some o11,some o12) ⟨hxa,hxb,hoc5,(fun _ => rfl),(fun _ => rfl),(fun _ => rfl),trivial⟩ (lt4 (by kernel_rfl))) (by kernel_rfl) (by kernel_rfl) (pmid (l₁ := [(o9,zob),(o10,zob)])) (Conv.mk (by kernel_rfl))
         ·
          rcases oo11 with _ | o12
          ·
           have hxa : MOk xa m := pp1
           have hxb : MOk xb n := pp3
           have hoc5 : OwnOk oc5 32 c.ps.length (c.ps.flatMap dgc) := pp5
           refine CfgA.to (l' := tF 11 5) (fuel' := 5) (O' := ([(o9,zob),(o10,zob),(o11,zob),(tb,tob t),(cb,cob c),(nb,mob n),(mb,mob m)] ++ (Own.o 30 (c.ps.flatMap dgc) oc5 ++ (memMO xb n ++ (memMO xa m ++ []))))) (Γ' := [(44,[],.agg (oc (oA xa m)).toArray),(46,[],.agg (oc (oA xb n)).toArray),(48,[],.agg (oc (oC oc5 c)).toArray),(50,[],.agg (oc (oT t)).toArray),(9,[],.pointer (some ⟨o9,0,none⟩)),(10,[],.pointer (some ⟨o10,0,none⟩)),(11,[],.pointer (some ⟨o11,0,none⟩)),(49,[],.agg (tc t).toArray),(47,[],.agg (cc c).toArray),(45,[],.agg (mc n).toArray),(43,[],.agg (mc m).toArray),(7,[],.pointer (some ⟨tb,0,none⟩)),(6,[],.pointer (some ⟨cb,0,none⟩)),(5,[],.pointer (some ⟨nb,0,none⟩)),(4,[],.pointer (some ⟨mb,0,none⟩))]) ?_ (by kernel_rfl) (by kernel_rfl) (List.Perm.refl _) (Conv.mk (by kernel_rfl))
           refine CfgA.many [11] (by kernel_rfl) (by decide) (fuel' := 4) (by kernel_rfl) ⟨?_,trivial⟩
           ·
            refine CfgI.eff (o := _) rfl (by kernel_rfl) (by kernel_rfl) (Eff.alloc (z := (.agg (oc ⟨0,m0,c0,t0⟩).toArray)) rfl (by kernel_rfl)) (fun _ _ => (.cons _ (.cons _ (.cons _ (.cons _ (.cons_cons _ (.cons_cons _ (.cons_cons _ (.cons_cons _ (List.nil_sublist _)))))))))) ?_
            rintro o12 ⟨ho12,no12⟩
            exact CfgA.to (IH (some xa,some xb,some oc5,some (),some o9,some o10,some o11,some o12) ⟨hxa,hxb,hoc5,(fun _ => rfl),(fun _ => rfl),(fun _ => rfl),trivial⟩ (lt4 (by kernel_rfl))) (by kernel_rfl) (by kernel_rfl) (pmid (l₁ := [(o9,zob),(o10,zob),(o11,zob)])) (Conv.mk (by kernel_rfl))
          ·
           have hxa : MOk xa m := pp1
           have hxb : MOk xb n := pp3
           have hoc5 : OwnOk oc5 32 c.ps.length (c.ps.flatMap dgc) := pp5
           refine CfgA.to (l' := tF 12 4) (fuel' := 4) (O' := ([(o9,zob),(o10,zob),(o11,zob),(o12,zob),(tb,tob t),(cb,cob c),(nb,mob n),(mb,mob m)] ++ (Own.o 30 (c.ps.flatMap dgc) oc5 ++ (memMO xb n ++ (memMO xa m ++ []))))) (Γ' := [(44,[],.agg (oc (oA xa m)).toArray),(46,[],.agg (oc (oA xb n)).toArray),(48,[],.agg (oc (oC oc5 c)).toArray),(50,[],.agg (oc (oT t)).toArray),(9,[],.pointer (some ⟨o9,0,none⟩)),(10,[],.pointer (some ⟨o10,0,none⟩)),(11,[],.pointer (some ⟨o11,0,none⟩)),(12,[],.pointer (some ⟨o12,0,none⟩)),(49,[],.agg (tc t).toArray),(47,[],.agg (cc c).toArray),(45,[],.agg (mc n).toArray),(43,[],.agg (mc m).toArray),(7,[],.pointer (some ⟨tb,0,none⟩)),(6,[],.pointer (some ⟨cb,0,none⟩)),(5,[],.pointer (some ⟨nb,0,none⟩)),(4,[],.pointer (some ⟨mb,0,none⟩))]) ?_ (by kernel_rfl) (by kernel_rfl) (List.Perm.refl _) (Conv.mk (by kernel_rfl))
           refine CfgA.eff 12 (o := _) rfl (by kernel_rfl) (fuel' := 3) rfl (by kernel_rfl) (by kernel_rfl) (Eff.storeN (b := o9) (off := 0) (vs := (oc (oA xa m)).toArray) (n := 72) rfl (by kernel_rfl) (by kernel_rfl) (by kernel_rfl) (by rw [List.size_toArray,oc_len d0_len d0_len]) (fun q hq => all_oc _ q hq) 0 (cs := (oc ⟨0,m0,c0,t0⟩).toArray) (e := 38) (by kernel_rfl) (by rw [zero_obj]; decide)) (fun _ _ => (.cons _ (.cons _ (.cons _ (.cons _ (.cons_cons _ (.cons_cons _ (.cons_cons _ (.cons_cons _ (List.nil_sublist _)))))))))) ?_
           rintro ⟨⟩ -
           refine CfgA.setO (O' := ([(o9,oob (oA xa m)),(o10,zob),(o11,zob),(o12,zob),(tb,tob t),(cb,cob c),(nb,mob n),(mb,mob m)] ++ (Own.o 30 (c.ps.flatMap dgc) oc5 ++ (memMO xb n ++ (memMO xa m ++ []))))) (congrArg (fun (xq : Array Value) => (([(o9,.cells xq 38 (0,0)),(o10,zob),(o11,zob),(o12,zob),(tb,tob t),(cb,cob c),(nb,mob n),(mb,mob m)] ++ (Own.o 30 (c.ps.flatMap dgc) oc5 ++ (memMO xb n ++ (memMO xa m ++ [])))) : List (Nat × Obj))) (spl_all (by rw [List.size_toArray,oc_len d0_len d0_len]; rfl))) ?_
           refine CfgA.eff 13 (o := _) rfl (by kernel_rfl) (fuel' := 2) rfl (by kernel_rfl) (by kernel_rfl) (Eff.storeN (b := o10) (off := 0) (vs := (oc (oA xb n)).toArray) (n := 72) rfl (by kernel_rfl) (by kernel_rfl) (by kernel_rfl) (by rw [List.size_toArray,oc_len d0_len d0_len]) (fun q hq => all_oc _ q hq) 1 (cs := (oc ⟨0,m0,c0,t0⟩).toArray) (e := 38) (by kernel_rfl) (by rw [zero_obj]; decide)) (fun _ _ => (.cons _ (.cons _ (.cons _ (.cons _ (.cons_cons _ (.cons_cons _ (.cons_cons _ (.cons_cons _ (List.nil_sublist _)))))))))) ?_
           rintro ⟨⟩ -
           refine CfgA.setO (O' := ([(o9,oob (oA xa m)),(o10,oob (oA xb n)),(o11,zob),(o12,zob),(tb,tob t),(cb,cob c),(nb,mob n),(mb,mob m)] ++ (Own.o 30 (c.ps.flatMap dgc) oc5 ++ (memMO xb n ++ (memMO xa m ++ []))))) (congrArg (fun (xq : Array Value) => (([(o9,oob (oA xa m)),(o10,.cells xq 38 (0,0)),(o11,zob),(o12,zob),(tb,tob t),(cb,cob c),(nb,mob n),(mb,mob m)] ++ (Own.o 30 (c.ps.flatMap dgc) oc5 ++ (memMO xb n ++ (memMO xa m ++ [])))) : List (Nat × Obj))) (spl_all (by rw [List.size_toArray,oc_len d0_len d0_len]; rfl))) ?_
           refine CfgA.eff 14 (o := _) rfl (by kernel_rfl) (fuel' := 1) rfl (by kernel_rfl) (by kernel_rfl) (Eff.storeN (b := o11) (off := 0) (vs := (oc (oC oc5 c)).toArray) (n := 72) rfl (by kernel_rfl) (by kernel_rfl) (by kernel_rfl) (by rw [List.size_toArray,oc_len hcd d0_len]) (fun q hq => all_oc _ q hq) 2 (cs := (oc ⟨0,m0,c0,t0⟩).toArray) (e := 38) (by kernel_rfl) (by rw [zero_obj]; decide)) (fun _ _ => (.cons _ (.cons _ (.cons _ (.cons _ (.cons_cons _ (.cons_cons _ (.cons_cons _ (.cons_cons _ (List.nil_sublist _)))))))))) ?_
           rintro ⟨⟩ -
           refine CfgA.setO (O' := ([(o9,oob (oA xa m)),(o10,oob (oA xb n)),(o11,oob (oC oc5 c)),(o12,zob),(tb,tob t),(cb,cob c),(nb,mob n),(mb,mob m)] ++ (Own.o 30 (c.ps.flatMap dgc) oc5 ++ (memMO xb n ++ (memMO xa m ++ []))))) (congrArg (fun (xq : Array Value) => (([(o9,oob (oA xa m)),(o10,oob (oA xb n)),(o11,.cells xq 38 (0,0)),(o12,zob),(tb,tob t),(cb,cob c),(nb,mob n),(mb,mob m)] ++ (Own.o 30 (c.ps.flatMap dgc) oc5 ++ (memMO xb n ++ (memMO xa m ++ [])))) : List (Nat × Obj))) (spl_all (by rw [List.size_toArray,oc_len hcd d0_len]; rfl))) ?_
           refine CfgA.eff 15 (o := _) rfl (by kernel_rfl) (fuel' := 0) rfl (by kernel_rfl) (by kernel_rfl) (Eff.storeN (b := o12) (off := 0) (vs := (oc (oT t)).toArray) (n := 72) rfl (by kernel_rfl) (by kernel_rfl) (by kernel_rfl) (by rw [List.size_toArray,oc_len d0_len hd]) (fun q hq => all_oc _ q hq) 3 (cs := (oc ⟨0,m0,c0,t0⟩).toArray) (e := 38) (by kernel_rfl) (by rw [zero_obj]; decide)) (fun _ _ => (.cons _ (.cons _ (.cons _ (.cons _ (.cons_cons _ (.cons_cons _ (.cons_cons _ (.cons_cons _ (List.nil_sublist _)))))))))) ?_
           rintro ⟨⟩ -
           refine CfgA.setO (O' := ([(o9,oob (oA xa m)),(o10,oob (oA xb n)),(o11,oob (oC oc5 c)),(o12,oob (oT t)),(tb,tob t),(cb,cob c),(nb,mob n),(mb,mob m)] ++ (Own.o 30 (c.ps.flatMap dgc) oc5 ++ (memMO xb n ++ (memMO xa m ++ []))))) (congrArg (fun (xq : Array Value) => (([(o9,oob (oA xa m)),(o10,oob (oA xb n)),(o11,oob (oC oc5 c)),(o12,.cells xq 38 (0,0)),(tb,tob t),(cb,cob c),(nb,mob n),(mb,mob m)] ++ (Own.o 30 (c.ps.flatMap dgc) oc5 ++ (memMO xb n ++ (memMO xa m ++ [])))) : List (Nat × Obj))) (spl_all (by rw [List.size_toArray,oc_len d0_len hd]; rfl))) ?_
           refine CfgA.done (by kernel_rfl) ?_
           refine Conv.cfg (Γ' := [(9,[],.pointer (some ⟨o9,0,none⟩)),(10,[],.pointer (some ⟨o10,0,none⟩)),(11,[],.pointer (some ⟨o11,0,none⟩)),(12,[],.pointer (some ⟨o12,0,none⟩)),(7,[],.pointer (some ⟨tb,0,none⟩)),(6,[],.pointer (some ⟨cb,0,none⟩)),(5,[],.pointer (some ⟨nb,0,none⟩)),(4,[],.pointer (some ⟨mb,0,none⟩))]) (Conv.mk (by kernel_rfl)) ?_
           refine Cfg.begL rfl ?_
           refine CfgL.pure 1 [(0,false,some (.agg (cc c).toArray))] (some [4,5,7,9,10,11,12,51]) (Γ' := [(51,[],.agg (cc c).toArray),(9,[],.pointer (some ⟨o9,0,none⟩)),(10,[],.pointer (some ⟨o10,0,none⟩)),(11,[],.pointer (some ⟨o11,0,none⟩)),(12,[],.pointer (some ⟨o12,0,none⟩)),(7,[],.pointer (some ⟨tb,0,none⟩)),(5,[],.pointer (some ⟨nb,0,none⟩)),(4,[],.pointer (some ⟨mb,0,none⟩))]) (nd := (fun S => [(∀ w1,S w1 → (loadVar 34 ⟨cb,0,none⟩).run Tryz.prog w1 = .ok (.agg (cc c).toArray) w1)])) (by kernel_rfl) (fun _ => by kernel_rfl) ⟨(fun w1 h => load_list Tryz.underlying34 rfl (by kernel_rfl) (cc_len hcd) (fun j v hj => h.ocell 5 rfl (by rw [List.getElem?_toArray]; exact (fun j v hj => by rw [Nat.zero_add]; exact hj) j v hj))),trivial⟩ ?_
           refine CfgL.eff (o := _) rfl (by kernel_rfl) (by kernel_rfl) (Eff.alloc (z := (.agg (cc c0).toArray)) rfl (by kernel_rfl)) ?_
           rintro db ⟨hdb,ndb⟩
           refine CfgL.eff (o := _) rfl (by kernel_rfl) (by kernel_rfl) (Eff.storeN (b := db) (off := 0) (vs := (cc c).toArray) (n := 35) rfl (by kernel_rfl) (by kernel_rfl) (by kernel_rfl) (by rw [List.size_toArray,cc_len hcd]) (fun q hq => all_cc _ q hq) 0 (cs := (cc c0).toArray) (e := 34) (by kernel_rfl) (by decide)) ?_
           rintro ⟨⟩ -
           refine CfgL.setO (O' := ([(db,cob c),(o9,oob (oA xa m)),(o10,oob (oA xb n)),(o11,oob (oC oc5 c)),(o12,oob (oT t)),(tb,tob t),(cb,cob c),(nb,mob n),(mb,mob m)] ++ (Own.o 30 (c.ps.flatMap dgc) oc5 ++ (memMO xb n ++ (memMO xa m ++ []))))) (congrArg (fun (xq : Array Value) => (([(db,.cells xq 34 (0,0)),(o9,oob (oA xa m)),(o10,oob (oA xb n)),(o11,oob (oC oc5 c)),(o12,oob (oT t)),(tb,tob t),(cb,cob c),(nb,mob n),(mb,mob m)] ++ (Own.o 30 (c.ps.flatMap dgc) oc5 ++ (memMO xb n ++ (memMO xa m ++ [])))) : List (Nat × Obj))) (spl_all (by rw [List.size_toArray,cc_len hcd]; rfl))) ?_
           refine CfgL.done rfl ?_
           refine Conv.cfg (Γ' := [(13,[],.pointer (some ⟨db,0,none⟩)),(9,[],.pointer (some ⟨o9,0,none⟩)),(10,[],.pointer (some ⟨o10,0,none⟩)),(11,[],.pointer (some ⟨o11,0,none⟩)),(12,[],.pointer (some ⟨o12,0,none⟩)),(7,[],.pointer (some ⟨tb,0,none⟩)),(5,[],.pointer (some ⟨nb,0,none⟩)),(4,[],.pointer (some ⟨mb,0,none⟩))]) (Conv.mk (by kernel_rfl)) ?_
           refine Cfg.begL rfl ?_
           refine CfgL.pure 4 [dZ,(0,false,some (.int .u64 (c.n : Int)))] (some [4,5,7,9,10,11,12,13,54,55]) (Γ' := [(55,[],.pointer (some ⟨db,33,none⟩)),(54,[],.int .u64 (((c.n : Int) + 1) % 18446744073709551616)),(13,[],.pointer (some ⟨db,0,none⟩)),(9,[],.pointer (some ⟨o9,0,none⟩)),(10,[],.pointer (some ⟨o10,0,none⟩)),(11,[],.pointer (some ⟨o11,0,none⟩)),(12,[],.pointer (some ⟨o12,0,none⟩)),(7,[],.pointer (some ⟨tb,0,none⟩)),(5,[],.pointer (some ⟨nb,0,none⟩)),(4,[],.pointer (some ⟨mb,0,none⟩))]) (nd := (fun S => [(∀ w1,S w1 → w1.cell? ⟨db,33,none⟩ = some (.int .u64 (c.n : Int)))])) (by kernel_rfl) (fun _ => by kernel_rfl) ⟨(fun w1 h => h.ocell 0 rfl (by rw [List.getElem?_toArray]; exact (cc_n hcd))),trivial⟩ ?_
           refine CfgL.eff (o := _) rfl (by kernel_rfl) (by kernel_rfl) (Eff.store1 (b := db) (off := 33) (v := .int .u64 (((c.n : Int) + 1) % 18446744073709551616)) rfl (by kernel_rfl) (by kernel_rfl) rfl (by kernel_rfl) 0 (cs := (cc c).toArray) (e := 34) (by kernel_rfl) (by rw [List.size_toArray,cc_len hcd]; decide)) ?_
           rintro ⟨⟩ -
           refine CfgL.done rfl ?_
           refine Conv.cfg (Γ' := [(13,[],.pointer (some ⟨db,0,none⟩)),(9,[],.pointer (some ⟨o9,0,none⟩)),(10,[],.pointer (some ⟨o10,0,none⟩)),(11,[],.pointer (some ⟨o11,0,none⟩)),(12,[],.pointer (some ⟨o12,0,none⟩)),(7,[],.pointer (some ⟨tb,0,none⟩)),(5,[],.pointer (some ⟨nb,0,none⟩)),(4,[],.pointer (some ⟨mb,0,none⟩))]) (Conv.mk (by kernel_rfl)) ?_
           refine Cfg.setO (O' := ([(db,cob (cN c)),(o9,oob (oA xa m)),(o10,oob (oA xb n)),(o11,oob (oC oc5 c)),(o12,oob (oT t)),(tb,tob t),(cb,cob c),(nb,mob n),(mb,mob m)] ++ (Own.o 30 (c.ps.flatMap dgc) oc5 ++ (memMO xb n ++ (memMO xa m ++ []))))) (congrArg (fun (xq : Array Value) => (([(db,.cells xq 34 (0,0)),(o9,oob (oA xa m)),(o10,oob (oA xb n)),(o11,oob (oC oc5 c)),(o12,oob (oT t)),(tb,tob t),(cb,cob c),(nb,mob n),(mb,mob m)] ++ (Own.o 30 (c.ps.flatMap dgc) oc5 ++ (memMO xb n ++ (memMO xa m ++ [])))) : List (Nat × Obj))) (cc_setn hcd)) ?_
           refine Cfg.begL rfl ?_
           refine CfgL.pure 1 [(0,false,some (.agg (tc t).toArray))] (some [4,5,9,10,11,12,13,56]) (Γ' := [(56,[],.agg (tc t).toArray),(13,[],.pointer (some ⟨db,0,none⟩)),(9,[],.pointer (some ⟨o9,0,none⟩)),(10,[],.pointer (some ⟨o10,0,none⟩)),(11,[],.pointer (some ⟨o11,0,none⟩)),(12,[],.pointer (some ⟨o12,0,none⟩)),(5,[],.pointer (some ⟨nb,0,none⟩)),(4,[],.pointer (some ⟨mb,0,none⟩))]) (nd := (fun S => [(∀ w1,S w1 → (loadVar 36 ⟨tb,0,none⟩).run Tryz.prog w1 = .ok (.agg (tc t).toArray) w1)])) (by kernel_rfl) (fun _ => by kernel_rfl) ⟨(fun w1 h => load_list Tryz.underlying36 rfl (by kernel_rfl) (tc_len hd) (fun j v hj => h.ocell 5 rfl (by rw [List.getElem?_toArray]; exact (fun j v hj => by rw [Nat.zero_add]; exact hj) j v hj))),trivial⟩ ?_
           refine CfgL.eff (o := _) rfl (by kernel_rfl) (by kernel_rfl) (Eff.alloc (z := (.agg (tc t0).toArray)) rfl (by kernel_rfl)) ?_
           rintro ub ⟨hub,nub⟩
           refine CfgL.eff (o := _) rfl (by kernel_rfl) (by kernel_rfl) (Eff.storeN (b := ub) (off := 0) (vs := (tc t).toArray) (n := 33) rfl (by kernel_rfl) (by kernel_rfl) (by kernel_rfl) (by rw [List.size_toArray,tc_len hd]) (fun q hq => all_tc _ q hq) 0 (cs := (tc t0).toArray) (e := 36) (by kernel_rfl) (by decide)) ?_
           rintro ⟨⟩ -
           refine CfgL.setO (O' := ([(ub,tob t),(db,cob (cN c)),(o9,oob (oA xa m)),(o10,oob (oA xb n)),(o11,oob (oC oc5 c)),(o12,oob (oT t)),(tb,tob t),(cb,cob c),(nb,mob n),(mb,mob m)] ++ (Own.o 30 (c.ps.flatMap dgc) oc5 ++ (memMO xb n ++ (memMO xa m ++ []))))) (congrArg (fun (xq : Array Value) => (([(ub,.cells xq 36 (0,0)),(db,cob (cN c)),(o9,oob (oA xa m)),(o10,oob (oA xb n)),(o11,oob (oC oc5 c)),(o12,oob (oT t)),(tb,tob t),(cb,cob c),(nb,mob n),(mb,mob m)] ++ (Own.o 30 (c.ps.flatMap dgc) oc5 ++ (memMO xb n ++ (memMO xa m ++ [])))) : List (Nat × Obj))) (spl_all (by rw [List.size_toArray,tc_len hd]; rfl))) ?_
           refine CfgL.done rfl ?_
           refine Conv.cfg (Γ' := [(14,[],.pointer (some ⟨ub,0,none⟩)),(13,[],.pointer (some ⟨db,0,none⟩)),(9,[],.pointer (some ⟨o9,0,none⟩)),(10,[],.pointer (some ⟨o10,0,none⟩)),(11,[],.pointer (some ⟨o11,0,none⟩)),(12,[],.pointer (some ⟨o12,0,none⟩)),(5,[],.pointer (some ⟨nb,0,none⟩)),(4,[],.pointer (some ⟨mb,0,none⟩))]) (Conv.mk (by kernel_rfl)) ?_
           refine Cfg.begL rfl ?_
           refine CfgL.pure 4 [dZ,(0,false,some (.string t.t))] (some [4,5,9,10,11,12,13,14,59,60]) (Γ' := [(60,[],.pointer (some ⟨ub,32,none⟩)),(59,[],.string (t.t ++ (⟨#[33]⟩ : ByteArray))),(14,[],.pointer (some ⟨ub,0,none⟩)),(13,[],.pointer (some ⟨db,0,none⟩)),(9,[],.pointer (some ⟨o9,0,none⟩)),(10,[],.pointer (some ⟨o10,0,none⟩)),(11,[],.pointer (some ⟨o11,0,none⟩)),(12,[],.pointer (some ⟨o12,0,none⟩)),(5,[],.pointer (some ⟨nb,0,none⟩)),(4,[],.pointer (some ⟨mb,0,none⟩))]) (nd := (fun S => [(∀ w1,S w1 → w1.cell? ⟨ub,32,none⟩ = some (.string t.t)),(t.t.size + 1 ≤ 9223372036854775807)])) (by kernel_rfl) (fun _ => by kernel_rfl) ⟨(fun w1 h => h.ocell 0 rfl (by rw [List.getElem?_toArray]; exact (tc_t hd))),(by omega),trivial⟩ ?_
           refine CfgL.eff (o := _) rfl (by kernel_rfl) (by kernel_rfl) (Eff.store1 (b := ub) (off := 32) (v := .string (t.t ++ (⟨#[33]⟩ : ByteArray))) rfl (by kernel_rfl) (by kernel_rfl) rfl (by kernel_rfl) 0 (cs := (tc t).toArray) (e := 36) (by kernel_rfl) (by rw [List.size_toArray,tc_len hd]; decide)) ?_
           rintro ⟨⟩ -
           refine CfgL.done rfl ?_
           refine Conv.cfg (Γ' := [(14,[],.pointer (some ⟨ub,0,none⟩)),(13,[],.pointer (some ⟨db,0,none⟩)),(9,[],.pointer (some ⟨o9,0,none⟩)),(10,[],.pointer (some ⟨o10,0,none⟩)),(11,[],.pointer (some ⟨o11,0,none⟩)),(12,[],.pointer (some ⟨o12,0,none⟩)),(5,[],.pointer (some ⟨nb,0,none⟩)),(4,[],.pointer (some ⟨mb,0,none⟩))]) (Conv.mk (by kernel_rfl)) ?_
           refine Cfg.setO (O' := ([(ub,tob (tB t)),(db,cob (cN c)),(o9,oob (oA xa m)),(o10,oob (oA xb n)),(o11,oob (oC oc5 c)),(o12,oob (oT t)),(tb,tob t),(cb,cob c),(nb,mob n),(mb,mob m)] ++ (Own.o 30 (c.ps.flatMap dgc) oc5 ++ (memMO xb n ++ (memMO xa m ++ []))))) (congrArg (fun (xq : Array Value) => (([(ub,.cells xq 36 (0,0)),(db,cob (cN c)),(o9,oob (oA xa m)),(o10,oob (oA xb n)),(o11,oob (oC oc5 c)),(o12,oob (oT t)),(tb,tob t),(cb,cob c),(nb,mob n),(mb,mob m)] ++ (Own.o 30 (c.ps.flatMap dgc) oc5 ++ (memMO xb n ++ (memMO xa m ++ [])))) : List (Nat × Obj))) (tc_sett hd)) ?_
           obtain ⟨ZZ,hZZ⟩ : ∃ Z : List (Nat × Obj),Z = ((0,Obj.cells (wv Kc) tt0 fr0) :: Rl) ++ ([(ub,tob (tB t)),(db,cob (cN c)),(o9,oob (oA xa m)),(o10,oob (oA xb n)),(o11,oob (oC oc5 c)),(o12,oob (oT t)),(tb,tob t),(cb,cob c),(nb,mob n),(mb,mob m)] ++ (Own.o 30 (c.ps.flatMap dgc) oc5 ++ (memMO xb n ++ (memMO xa m ++ [])))) := ⟨_,rfl⟩
           have hzz : ∀ w1,HP w [] ((0,Obj.cells (wv Kc) tt0 fr0) :: Rl) ([(ub,tob (tB t)),(db,cob (cN c)),(o9,oob (oA xa m)),(o10,oob (oA xb n)),(o11,oob (oC oc5 c)),(o12,oob (oT t)),(tb,tob t),(cb,cob c),(nb,mob n),(mb,mob m)] ++ (Own.o 30 (c.ps.flatMap dgc) oc5 ++ (memMO xb n ++ (memMO xa m ++ [])))) w1 → Has w1 ZZ := fun w1 h => by rw [hZZ]; exact hp_all h
           have hzR : ∀ e ∈ Rl,e ∈ ZZ := fun e he => by rw [hZZ]; exact List.mem_append_left _ (List.mem_cons_of_mem _ he)
           have hzO : ∀ e ∈ ([(ub,tob (tB t)),(db,cob (cN c)),(o9,oob (oA xa m)),(o10,oob (oA xb n)),(o11,oob (oC oc5 c)),(o12,oob (oT t)),(tb,tob t),(cb,cob c),(nb,mob n),(mb,mob m)] ++ (Own.o 30 (c.ps.flatMap dgc) oc5 ++ (memMO xb n ++ (memMO xa m ++ [])))),e ∈ ZZ := fun e he => by rw [hZZ]; exact List.mem_append_right _ he
           have ia : InO ZZ (oA xa m) := ⟨(hxa.inM hM).mono (fun e he => hzO e (List.mem_append_right _ (List.mem_append_right (Own.o 30 (c.ps.flatMap dgc) oc5) (List.mem_append_right (memMO xb n) (List.mem_append_left _ he))))),InC.zero _,d0_len⟩
           have ib : InO ZZ (oA xb n) := ⟨(hxb.inM hN).mono (fun e he => hzO e (List.mem_append_right _ (List.mem_append_right (Own.o 30 (c.ps.flatMap dgc) oc5) (List.mem_append_left _ he)))),InC.zero _,d0_len⟩
           have ic : InO ZZ (oC oc5 c) := ⟨InM.zero _,(cC_in hC hoc5).mono (fun e he => hzO e (List.mem_append_right _ (List.mem_append_left _ he))),d0_len⟩
           have it : InO ZZ (oT t) := ⟨InM.zero _,InC.zero _,hd⟩
           refine Cfg.begA rfl (by kernel_rfl) ([(ub,tob (tB t)),(db,cob (cN c)),(o9,oob (oA xa m)),(o10,oob (oA xb n)),(o11,oob (oC oc5 c)),(o12,oob (oT t)),(tb,tob t),(cb,cob c),(nb,mob n),(mb,mob m)] ++ (Own.o 30 (c.ps.flatMap dgc) oc5 ++ (memMO xb n ++ (memMO xa m ++ [])))) ?_
           refine CfgA.pure [0,1,2,3,4,5,6,7,8,9,10,11,12,13,14,15,17,18] [dZ,(0,false,some (.int .u8 109)),dZ,dZ,(1,false,none),(1,false,some (.int .u8 99)),(1,false,none),dZ,dZ,(1,false,none),(1,false,some (.int .u8 116)),(1,false,none),dZ,dZ,(1,false,some (.agg (oc (oA xa m)).toArray)),(1,false,some (.agg (oc (oA xb n)).toArray)),(1,false,some (.agg (mc m).toArray)),(1,false,some (.agg (mc n).toArray))] (some [9,11,12,13,14,74,75,76,78,79]) (l' := #[true,true,true,true,true,true,true,true,true,true,true,true,true,true,true,true,false,true,true,false,false,false,false,false,false,false,false,false,false,false,false,false,false,false,false,false,false,false,false,false,false,false,false,false,false,false,false,false,false,false,false,false,false,false,false,false,false,false,false,false,false,false,false,false]) (by kernel_rfl) (by kernel_rfl) (.cons_cons _ (.cons_cons _ (.cons_cons _ (.cons_cons _ (.cons_cons _ (.cons_cons _ (.cons_cons _ (.cons_cons _ (.cons_cons _ (.cons_cons _ (List.Sublist.refl _))))))))))) 46 rfl (Γ' := [(79,[],.agg (mc n).toArray),(78,[],.agg (mc m).toArray),(76,[],.agg (oc (oA xb n)).toArray),(75,[],.agg (oc (oA xa m)).toArray),(74,[],.bool true),(14,[],.pointer (some ⟨ub,0,none⟩)),(13,[],.pointer (some ⟨db,0,none⟩)),(9,[],.pointer (some ⟨o9,0,none⟩)),(11,[],.pointer (some ⟨o11,0,none⟩)),(12,[],.pointer (some ⟨o12,0,none⟩))]) (nd := (fun S => [(∀ w1,S w1 → w1.cell? ⟨o9,0,none⟩ = some (.int .u8 109)),((.bool true : Value) = .bool true),((.bool true : Value) = .bool true),(∀ w1,S w1 → w1.cell? ⟨o11,0,none⟩ = some (.int .u8 99)),((.bool true : Value) = .bool true),((.bool true : Value) = .bool true),((.bool true : Value) = .bool true),(∀ w1,S w1 → w1.cell? ⟨o12,0,none⟩ = some (.int .u8 116)),((.bool true : Value) = .bool true),((.bool true : Value) = .bool true),(∀ w1,S w1 → (loadVar 38 ⟨o9,0,none⟩).run Tryz.prog w1 = .ok (.agg (oc (oA xa m)).toArray) w1),((.bool true : Value) = .bool true),(∀ w1,S w1 → (loadVar 38 ⟨o10,0,none⟩).run Tryz.prog w1 = .ok (.agg (oc (oA xb n)).toArray) w1),((.bool true : Value) = .bool true),(∀ w1,S w1 → (loadVar 28 ⟨mb,0,none⟩).run Tryz.prog w1 = .ok (.agg (mc m).toArray) w1),((.bool true : Value) = .bool true),(∀ w1,S w1 → (loadVar 28 ⟨nb,0,none⟩).run Tryz.prog w1 = .ok (.agg (mc n).toArray) w1)])) (fun _ => by kernel_rfl) ⟨(fun w1 h => h.ocell 2 rfl (by rw [List.getElem?_toArray]; exact rfl)),rfl,rfl,(fun w1 h => h.ocell 4 rfl (by rw [List.getElem?_toArray]; exact rfl)),rfl,rfl,rfl,(fun w1 h => h.ocell 5 rfl (by rw [List.getElem?_toArray]; exact rfl)),rfl,rfl,(fun w1 h => load_list Tryz.underlying38 rfl (by kernel_rfl) (oc_len d0_len d0_len) (fun j v hj => h.ocell 2 rfl (by rw [List.getElem?_toArray]; exact (fun j v hj => by rw [Nat.zero_add]; exact hj) j v hj))),rfl,(fun w1 h => load_list Tryz.underlying38 rfl (by kernel_rfl) (oc_len d0_len d0_len) (fun j v hj => h.ocell 3 rfl (by rw [List.getElem?_toArray]; exact (fun j v hj => by rw [Nat.zero_add]; exact hj) j v hj))),rfl,(fun w1 h => load_list Tryz.underlying28 rfl (by kernel_rfl) rfl (fun j v hj => h.ocell 9 rfl (by rw [List.getElem?_toArray]; exact (fun j v hj => by rw [Nat.zero_add]; exact hj) j v hj))),rfl,(fun w1 h => load_list Tryz.underlying28 rfl (by kernel_rfl) rfl (fun j v hj => h.ocell 8 rfl (by rw [List.getElem?_toArray]; exact (fun j v hj => by rw [Nat.zero_add]; exact hj) j v hj))),trivial⟩ ?_
           refine CfgA.eff 16 (o := _) rfl (by kernel_rfl) (fuel' := 45) rfl (by kernel_rfl) (by kernel_rfl) (Eff.callA (vs := [.agg (oc (oA xa m)).toArray,.agg (oc (oA xb n)).toArray]) (.bool (osame (oA xa m) (oA xb n))) rfl Tryz.func21 rfl rfl (by kernel_rfl) (fun w1 h => oSame (oA xa m) (oA xb n) ZZ w1 ia ib (hzz w1 (h)))) (fun _ _ => (.cons_cons _ (.cons_cons _ (.cons_cons _ (.cons_cons _ (.cons_cons _ (.cons_cons _ (.cons_cons _ (.cons_cons _ (.cons_cons _ (.cons_cons _ (List.Sublist.refl _)))))))))))) ?_
           rintro ⟨⟩ -
           refine CfgA.eff 19 (o := _) rfl (by kernel_rfl) (fuel' := 44) rfl (by kernel_rfl) (by kernel_rfl) (Eff.callA (vs := [.agg (mc m).toArray,.agg (mc n).toArray]) (.bool (msame m n)) rfl Tryz.func22 rfl rfl (by kernel_rfl) (fun w1 h => r10Same m n Rl w1 hM hN (h.hasR (fun e he => List.mem_cons_of_mem _ he)))) (fun _ _ => (.cons_cons _ (.cons_cons _ (.cons_cons _ (.cons_cons _ (.cons_cons _ (.cons_cons _ (.cons_cons _ (.cons_cons _ (.cons_cons _ (.cons_cons _ (List.Sublist.refl _)))))))))))) ?_
           rintro ⟨⟩ -
           refine CfgA.pure [20,21,22] [(1,false,none)] (some [9,11,12,13,14,83]) (l' := tF 23 41) (by kernel_rfl) (by kernel_rfl) (.cons_cons _ (.cons_cons _ (.cons_cons _ (.cons_cons _ (.cons_cons _ (.cons_cons _ (.cons_cons _ (.cons_cons _ (.cons_cons _ (.cons_cons _ (List.Sublist.refl _))))))))))) 41 rfl (Γ' := [(83,[],.bool ((osame (oA xa m) (oA xb n)) == (msame m n))),(14,[],.pointer (some ⟨ub,0,none⟩)),(13,[],.pointer (some ⟨db,0,none⟩)),(9,[],.pointer (some ⟨o9,0,none⟩)),(11,[],.pointer (some ⟨o11,0,none⟩)),(12,[],.pointer (some ⟨o12,0,none⟩))]) (nd := (fun _ => [((.bool true : Value) = .bool true)])) (fun _ => by kernel_rfl) ⟨rfl,trivial⟩ ?_
           refine CfgA.known 83 (b := ((osame (oA xa m) (oA xb n)) == (msame m n))) (by kernel_rfl) true (by rw [same_ab hxa hxb]; exact beq_self_eq_true _) ?_
           refine CfgA.pure [23,24] [(1,false,some (.agg (oc (oA xa m)).toArray)),(1,false,some (.agg (oc (oA xa m)).toArray))] none (l' := tF 25 39) (by kernel_rfl) (by kernel_rfl) (.cons_cons _ (.cons_cons _ (.cons_cons _ (.cons_cons _ (.cons_cons _ (.cons_cons _ (.cons_cons _ (.cons_cons _ (.cons_cons _ (.cons_cons _ (List.Sublist.refl _))))))))))) 39 rfl (Γ' := [(85,[],.agg (oc (oA xa m)).toArray),(84,[],.agg (oc (oA xa m)).toArray),(83,[],.bool true),(14,[],.pointer (some ⟨ub,0,none⟩)),(13,[],.pointer (some ⟨db,0,none⟩)),(9,[],.pointer (some ⟨o9,0,none⟩)),(11,[],.pointer (some ⟨o11,0,none⟩)),(12,[],.pointer (some ⟨o12,0,none⟩))]) (nd := (fun S => [((.bool true : Value) = .bool true),(∀ w1,S w1 → (loadVar 38 ⟨o9,0,none⟩).run Tryz.prog w1 = .ok (.agg (oc (oA xa m)).toArray) w1),((.bool true : Value) = .bool true),(∀ w1,S w1 → (loadVar 38 ⟨o9,0,none⟩).run Tryz.prog w1 = .ok (.agg (oc (oA xa m)).toArray) w1)])) (fun _ => by kernel_rfl) ⟨rfl,(fun w1 h => load_list Tryz.underlying38 rfl (by kernel_rfl) (oc_len d0_len d0_len) (fun j v hj => h.ocell 2 rfl (by rw [List.getElem?_toArray]; exact (fun j v hj => by rw [Nat.zero_add]; exact hj) j v hj))),rfl,(fun w1 h => load_list Tryz.underlying38 rfl (by kernel_rfl) (oc_len d0_len d0_len) (fun j v hj => h.ocell 2 rfl (by rw [List.getElem?_toArray]; exact (fun j v hj => by rw [Nat.zero_add]; exact hj) j v hj))),trivial⟩ ?_
           refine CfgA.eff 25 (o := _) rfl (by kernel_rfl) (fuel' := 38) rfl (by kernel_rfl) (by kernel_rfl) (Eff.callA (vs := [.agg (oc (oA xa m)).toArray,.agg (oc (oA xa m)).toArray]) (.bool (osame (oA xa m) (oA xa m))) rfl Tryz.func21 rfl rfl (by kernel_rfl) (fun w1 h => oSame (oA xa m) (oA xa m) ZZ w1 ia ia (hzz w1 (h)))) (fun _ _ => (.cons_cons _ (.cons_cons _ (.cons_cons _ (.cons_cons _ (.cons_cons _ (.cons_cons _ (.cons_cons _ (.cons_cons _ (.cons_cons _ (.cons_cons _ (List.Sublist.refl _)))))))))))) ?_
           rintro ⟨⟩ -
           refine CfgA.pure [26,27] [] (some [9,11,12,13,14,88]) (l' := tF 28 36) (by kernel_rfl) (by kernel_rfl) (.cons_cons _ (.cons_cons _ (.cons_cons _ (.cons_cons _ (.cons_cons _ (.cons_cons _ (.cons_cons _ (.cons_cons _ (.cons_cons _ (.cons_cons _ (List.Sublist.refl _))))))))))) 36 rfl (Γ' := [(88,[],.bool (osame (oA xa m) (oA xa m))),(14,[],.pointer (some ⟨ub,0,none⟩)),(13,[],.pointer (some ⟨db,0,none⟩)),(9,[],.pointer (some ⟨o9,0,none⟩)),(11,[],.pointer (some ⟨o11,0,none⟩)),(12,[],.pointer (some ⟨o12,0,none⟩))]) (nd := (fun _ => [])) (fun _ => by kernel_rfl) trivial ?_
           refine CfgA.known 88 (b := (osame (oA xa m) (oA xa m))) (by kernel_rfl) true (osame_refl _) ?_
           refine CfgA.pure [28,29] [(1,false,some (.agg (oc (oC oc5 c)).toArray)),(1,false,some (.agg (oc (oC oc5 c)).toArray))] none (l' := tF 30 34) (by kernel_rfl) (by kernel_rfl) (.cons_cons _ (.cons_cons _ (.cons_cons _ (.cons_cons _ (.cons_cons _ (.cons_cons _ (.cons_cons _ (.cons_cons _ (.cons_cons _ (.cons_cons _ (List.Sublist.refl _))))))))))) 34 rfl (Γ' := [(90,[],.agg (oc (oC oc5 c)).toArray),(89,[],.agg (oc (oC oc5 c)).toArray),(88,[],.bool true),(14,[],.pointer (some ⟨ub,0,none⟩)),(13,[],.pointer (some ⟨db,0,none⟩)),(9,[],.pointer (some ⟨o9,0,none⟩)),(11,[],.pointer (some ⟨o11,0,none⟩)),(12,[],.pointer (some ⟨o12,0,none⟩))]) (nd := (fun S => [((.bool true : Value) = .bool true),(∀ w1,S w1 → (loadVar 38 ⟨o11,0,none⟩).run Tryz.prog w1 = .ok (.agg (oc (oC oc5 c)).toArray) w1),((.bool true : Value) = .bool true),(∀ w1,S w1 → (loadVar 38 ⟨o11,0,none⟩).run Tryz.prog w1 = .ok (.agg (oc (oC oc5 c)).toArray) w1)])) (fun _ => by kernel_rfl) ⟨rfl,(fun w1 h => load_list Tryz.underlying38 rfl (by kernel_rfl) (oc_len hcd d0_len) (fun j v hj => h.ocell 4 rfl (by rw [List.getElem?_toArray]; exact (fun j v hj => by rw [Nat.zero_add]; exact hj) j v hj))),rfl,(fun w1 h => load_list Tryz.underlying38 rfl (by kernel_rfl) (oc_len hcd d0_len) (fun j v hj => h.ocell 4 rfl (by rw [List.getElem?_toArray]; exact (fun j v hj => by rw [Nat.zero_add]; exact hj) j v hj))),trivial⟩ ?_
           refine CfgA.eff 30 (o := _) rfl (by kernel_rfl) (fuel' := 33) rfl (by kernel_rfl) (by kernel_rfl) (Eff.callA (vs := [.agg (oc (oC oc5 c)).toArray,.agg (oc (oC oc5 c)).toArray]) (.bool (osame (oC oc5 c) (oC oc5 c))) rfl Tryz.func21 rfl rfl (by kernel_rfl) (fun w1 h => oSame (oC oc5 c) (oC oc5 c) ZZ w1 ic ic (hzz w1 (h)))) (fun _ _ => (.cons_cons _ (.cons_cons _ (.cons_cons _ (.cons_cons _ (.cons_cons _ (.cons_cons _ (.cons_cons _ (.cons_cons _ (.cons_cons _ (.cons_cons _ (List.Sublist.refl _)))))))))))) ?_
           rintro ⟨⟩ -
           refine CfgA.pure [31,32] [] (some [9,11,12,13,14,93]) (l' := tF 33 31) (by kernel_rfl) (by kernel_rfl) (.cons_cons _ (.cons_cons _ (.cons_cons _ (.cons_cons _ (.cons_cons _ (.cons_cons _ (.cons_cons _ (.cons_cons _ (.cons_cons _ (.cons_cons _ (List.Sublist.refl _))))))))))) 31 rfl (Γ' := [(93,[],.bool (osame (oC oc5 c) (oC oc5 c))),(14,[],.pointer (some ⟨ub,0,none⟩)),(13,[],.pointer (some ⟨db,0,none⟩)),(9,[],.pointer (some ⟨o9,0,none⟩)),(11,[],.pointer (some ⟨o11,0,none⟩)),(12,[],.pointer (some ⟨o12,0,none⟩))]) (nd := (fun _ => [])) (fun _ => by kernel_rfl) trivial ?_
           refine CfgA.known 93 (b := (osame (oC oc5 c) (oC oc5 c))) (by kernel_rfl) true (osame_refl _) ?_
           refine CfgA.pure [33,34] [(1,false,some (.agg (oc (oT t)).toArray)),(1,false,some (.agg (oc (oT t)).toArray))] none (l' := tF 35 29) (by kernel_rfl) (by kernel_rfl) (.cons_cons _ (.cons_cons _ (.cons_cons _ (.cons_cons _ (.cons_cons _ (.cons_cons _ (.cons_cons _ (.cons_cons _ (.cons_cons _ (.cons_cons _ (List.Sublist.refl _))))))))))) 29 rfl (Γ' := [(95,[],.agg (oc (oT t)).toArray),(94,[],.agg (oc (oT t)).toArray),(93,[],.bool true),(14,[],.pointer (some ⟨ub,0,none⟩)),(13,[],.pointer (some ⟨db,0,none⟩)),(9,[],.pointer (some ⟨o9,0,none⟩)),(11,[],.pointer (some ⟨o11,0,none⟩)),(12,[],.pointer (some ⟨o12,0,none⟩))]) (nd := (fun S => [((.bool true : Value) = .bool true),(∀ w1,S w1 → (loadVar 38 ⟨o12,0,none⟩).run Tryz.prog w1 = .ok (.agg (oc (oT t)).toArray) w1),((.bool true : Value) = .bool true),(∀ w1,S w1 → (loadVar 38 ⟨o12,0,none⟩).run Tryz.prog w1 = .ok (.agg (oc (oT t)).toArray) w1)])) (fun _ => by kernel_rfl) ⟨rfl,(fun w1 h => load_list Tryz.underlying38 rfl (by kernel_rfl) (oc_len d0_len hd) (fun j v hj => h.ocell 5 rfl (by rw [List.getElem?_toArray]; exact (fun j v hj => by rw [Nat.zero_add]; exact hj) j v hj))),rfl,(fun w1 h => load_list Tryz.underlying38 rfl (by kernel_rfl) (oc_len d0_len hd) (fun j v hj => h.ocell 5 rfl (by rw [List.getElem?_toArray]; exact (fun j v hj => by rw [Nat.zero_add]; exact hj) j v hj))),trivial⟩ ?_
           refine CfgA.eff 35 (o := _) rfl (by kernel_rfl) (fuel' := 28) rfl (by kernel_rfl) (by kernel_rfl) (Eff.callA (vs := [.agg (oc (oT t)).toArray,.agg (oc (oT t)).toArray]) (.bool (osame (oT t) (oT t))) rfl Tryz.func21 rfl rfl (by kernel_rfl) (fun w1 h => oSame (oT t) (oT t) ZZ w1 it it (hzz w1 (h)))) (fun _ _ => (.cons_cons _ (.cons_cons _ (.cons_cons _ (.cons_cons _ (.cons_cons _ (.cons_cons _ (.cons_cons _ (.cons_cons _ (.cons_cons _ (.cons_cons _ (List.Sublist.refl _)))))))))))) ?_
           rintro ⟨⟩ -
           refine CfgA.pure [36,37] [] (some [9,11,12,13,14,98]) (l' := tF 38 26) (by kernel_rfl) (by kernel_rfl) (.cons_cons _ (.cons_cons _ (.cons_cons _ (.cons_cons _ (.cons_cons _ (.cons_cons _ (.cons_cons _ (.cons_cons _ (.cons_cons _ (.cons_cons _ (List.Sublist.refl _))))))))))) 26 rfl (Γ' := [(98,[],.bool (osame (oT t) (oT t))),(14,[],.pointer (some ⟨ub,0,none⟩)),(13,[],.pointer (some ⟨db,0,none⟩)),(9,[],.pointer (some ⟨o9,0,none⟩)),(11,[],.pointer (some ⟨o11,0,none⟩)),(12,[],.pointer (some ⟨o12,0,none⟩))]) (nd := (fun _ => [])) (fun _ => by kernel_rfl) trivial ?_
           refine CfgA.known 98 (b := (osame (oT t) (oT t))) (by kernel_rfl) true (osame_refl _) ?_
           refine CfgA.pure [38,39] [(1,false,some (.agg (oc (oA xa m)).toArray)),(1,false,some (.agg (oc (oC oc5 c)).toArray))] (some [11,12,13,14,98,99,100]) (l' := tF 40 24) (by kernel_rfl) (by kernel_rfl) (.cons_cons _ (.cons_cons _ (.cons_cons _ (.cons_cons _ (.cons_cons _ (.cons_cons _ (.cons_cons _ (.cons_cons _ (.cons_cons _ (.cons_cons _ (List.Sublist.refl _))))))))))) 24 rfl (Γ' := [(100,[],.agg (oc (oC oc5 c)).toArray),(99,[],.agg (oc (oA xa m)).toArray),(98,[],.bool true),(14,[],.pointer (some ⟨ub,0,none⟩)),(13,[],.pointer (some ⟨db,0,none⟩)),(11,[],.pointer (some ⟨o11,0,none⟩)),(12,[],.pointer (some ⟨o12,0,none⟩))]) (nd := (fun S => [((.bool true : Value) = .bool true),(∀ w1,S w1 → (loadVar 38 ⟨o9,0,none⟩).run Tryz.prog w1 = .ok (.agg (oc (oA xa m)).toArray) w1),((.bool true : Value) = .bool true),(∀ w1,S w1 → (loadVar 38 ⟨o11,0,none⟩).run Tryz.prog w1 = .ok (.agg (oc (oC oc5 c)).toArray) w1)])) (fun _ => by kernel_rfl) ⟨rfl,(fun w1 h => load_list Tryz.underlying38 rfl (by kernel_rfl) (oc_len d0_len d0_len) (fun j v hj => h.ocell 2 rfl (by rw [List.getElem?_toArray]; exact (fun j v hj => by rw [Nat.zero_add]; exact hj) j v hj))),rfl,(fun w1 h => load_list Tryz.underlying38 rfl (by kernel_rfl) (oc_len hcd d0_len) (fun j v hj => h.ocell 4 rfl (by rw [List.getElem?_toArray]; exact (fun j v hj => by rw [Nat.zero_add]; exact hj) j v hj))),trivial⟩ ?_
           refine CfgA.eff 40 (o := _) rfl (by kernel_rfl) (fuel' := 23) rfl (by kernel_rfl) (by kernel_rfl) (Eff.callA (vs := [.agg (oc (oA xa m)).toArray,.agg (oc (oC oc5 c)).toArray]) (.bool (osame (oA xa m) (oC oc5 c))) rfl Tryz.func21 rfl rfl (by kernel_rfl) (fun w1 h => oSame (oA xa m) (oC oc5 c) ZZ w1 ia ic (hzz w1 (h)))) (fun _ _ => (.cons_cons _ (.cons_cons _ (.cons_cons _ (.cons_cons _ (.cons_cons _ (.cons_cons _ (.cons_cons _ (.cons_cons _ (.cons_cons _ (.cons_cons _ (List.Sublist.refl _)))))))))))) ?_
           rintro ⟨⟩ -
           refine CfgA.pure [41,42,43] [(1,false,none)] (some [11,12,13,14,104]) (l' := tF 44 20) (by kernel_rfl) (by kernel_rfl) (.cons_cons _ (.cons_cons _ (.cons_cons _ (.cons_cons _ (.cons_cons _ (.cons_cons _ (.cons_cons _ (.cons_cons _ (.cons_cons _ (.cons_cons _ (List.Sublist.refl _))))))))))) 20 rfl (Γ' := [(104,[],.bool (!(osame (oA xa m) (oC oc5 c)))),(14,[],.pointer (some ⟨ub,0,none⟩)),(13,[],.pointer (some ⟨db,0,none⟩)),(11,[],.pointer (some ⟨o11,0,none⟩)),(12,[],.pointer (some ⟨o12,0,none⟩))]) (nd := (fun _ => [((.bool true : Value) = .bool true)])) (fun _ => by kernel_rfl) ⟨rfl,trivial⟩ ?_
           refine CfgA.known 104 (b := (!(osame (oA xa m) (oC oc5 c)))) (by kernel_rfl) true (by rw [same_ac]; rfl) ?_
           refine CfgA.pure [44,45] [(1,false,some (.agg (oc (oC oc5 c)).toArray)),(1,false,some (.agg (oc (oT t)).toArray))] none (l' := tF 46 18) (by kernel_rfl) (by kernel_rfl) (.cons_cons _ (.cons_cons _ (.cons_cons _ (.cons_cons _ (.cons_cons _ (.cons_cons _ (.cons_cons _ (.cons_cons _ (.cons_cons _ (.cons_cons _ (List.Sublist.refl _))))))))))) 18 rfl (Γ' := [(106,[],.agg (oc (oT t)).toArray),(105,[],.agg (oc (oC oc5 c)).toArray),(104,[],.bool true),(14,[],.pointer (some ⟨ub,0,none⟩)),(13,[],.pointer (some ⟨db,0,none⟩)),(11,[],.pointer (some ⟨o11,0,none⟩)),(12,[],.pointer (some ⟨o12,0,none⟩))]) (nd := (fun S => [((.bool true : Value) = .bool true),(∀ w1,S w1 → (loadVar 38 ⟨o11,0,none⟩).run Tryz.prog w1 = .ok (.agg (oc (oC oc5 c)).toArray) w1),((.bool true : Value) = .bool true),(∀ w1,S w1 → (loadVar 38 ⟨o12,0,none⟩).run Tryz.prog w1 = .ok (.agg (oc (oT t)).toArray) w1)])) (fun _ => by kernel_rfl) ⟨rfl,(fun w1 h => load_list Tryz.underlying38 rfl (by kernel_rfl) (oc_len hcd d0_len) (fun j v hj => h.ocell 4 rfl (by rw [List.getElem?_toArray]; exact (fun j v hj => by rw [Nat.zero_add]; exact hj) j v hj))),rfl,(fun w1 h => load_list Tryz.underlying38 rfl (by kernel_rfl) (oc_len d0_len hd) (fun j v hj => h.ocell 5 rfl (by rw [List.getElem?_toArray]; exact (fun j v hj => by rw [Nat.zero_add]; exact hj) j v hj))),trivial⟩ ?_
           refine CfgA.eff 46 (o := _) rfl (by kernel_rfl) (fuel' := 17) rfl (by kernel_rfl) (by kernel_rfl) (Eff.callA (vs := [.agg (oc (oC oc5 c)).toArray,.agg (oc (oT t)).toArray]) (.bool (osame (oC oc5 c) (oT t))) rfl Tryz.func21 rfl rfl (by kernel_rfl) (fun w1 h => oSame (oC oc5 c) (oT t) ZZ w1 ic it (hzz w1 (h)))) (fun _ _ => (.cons_cons _ (.cons_cons _ (.cons_cons _ (.cons_cons _ (.cons_cons _ (.cons_cons _ (.cons_cons _ (.cons_cons _ (.cons_cons _ (.cons_cons _ (List.Sublist.refl _)))))))))))) ?_
           rintro ⟨⟩ -
           refine CfgA.pure [47,48,49] [(1,false,none)] (some [11,12,13,14,110]) (l' := tF 50 14) (by kernel_rfl) (by kernel_rfl) (.cons_cons _ (.cons_cons _ (.cons_cons _ (.cons_cons _ (.cons_cons _ (.cons_cons _ (.cons_cons _ (.cons_cons _ (.cons_cons _ (.cons_cons _ (List.Sublist.refl _))))))))))) 14 rfl (Γ' := [(110,[],.bool (!(osame (oC oc5 c) (oT t)))),(14,[],.pointer (some ⟨ub,0,none⟩)),(13,[],.pointer (some ⟨db,0,none⟩)),(11,[],.pointer (some ⟨o11,0,none⟩)),(12,[],.pointer (some ⟨o12,0,none⟩))]) (nd := (fun _ => [((.bool true : Value) = .bool true)])) (fun _ => by kernel_rfl) ⟨rfl,trivial⟩ ?_
           refine CfgA.known 110 (b := (!(osame (oC oc5 c) (oT t)))) (by kernel_rfl) true (by rw [same_ct]; rfl) ?_
           refine CfgA.pure [50,51] [(1,false,some (.agg (oc (oC oc5 c)).toArray)),(1,false,some (.agg (cc (cN c)).toArray))] (some [12,14,110,111,112]) (l' := tF 52 12) (by kernel_rfl) (by kernel_rfl) (.cons_cons _ (.cons_cons _ (.cons_cons _ (.cons_cons _ (.cons_cons _ (.cons_cons _ (.cons_cons _ (.cons_cons _ (.cons_cons _ (.cons_cons _ (List.Sublist.refl _))))))))))) 12 rfl (Γ' := [(112,[],.agg (cc (cN c)).toArray),(111,[],.agg (oc (oC oc5 c)).toArray),(110,[],.bool true),(14,[],.pointer (some ⟨ub,0,none⟩)),(12,[],.pointer (some ⟨o12,0,none⟩))]) (nd := (fun S => [((.bool true : Value) = .bool true),(∀ w1,S w1 → (loadVar 38 ⟨o11,0,none⟩).run Tryz.prog w1 = .ok (.agg (oc (oC oc5 c)).toArray) w1),((.bool true : Value) = .bool true),(∀ w1,S w1 → (loadVar 34 ⟨db,0,none⟩).run Tryz.prog w1 = .ok (.agg (cc (cN c)).toArray) w1)])) (fun _ => by kernel_rfl) ⟨rfl,(fun w1 h => load_list Tryz.underlying38 rfl (by kernel_rfl) (oc_len hcd d0_len) (fun j v hj => h.ocell 4 rfl (by rw [List.getElem?_toArray]; exact (fun j v hj => by rw [Nat.zero_add]; exact hj) j v hj))),rfl,(fun w1 h => load_list Tryz.underlying34 rfl (by kernel_rfl) (cc_len hcd) (fun j v hj => h.ocell 1 rfl (by rw [List.getElem?_toArray]; exact (fun j v hj => by rw [Nat.zero_add]; exact hj) j v hj))),trivial⟩ ?_
           refine CfgA.eff 52 (o := _) rfl (by kernel_rfl) (fuel' := 11) rfl (by kernel_rfl) (by kernel_rfl) (Eff.callH (vs := [.agg (cc (cN c)).toArray]) (fun x : K.Own => .agg (oc (oC x (cN c))).toArray) [] (fun x => Own.o 30 (c.ps.flatMap dgc) x) (fun x => OwnOk x 32 c.ps.length (c.ps.flatMap dgc)) [(ub,tob (tB t)),(db,cob (cN c)),(o9,oob (oA xa m)),(o10,oob (oA xb n)),(o11,oob (oC oc5 c)),(o12,oob (oT t)),(tb,tob t),(cb,cob c),(nb,mob n),(mb,mob m)] (Own.o 30 (c.ps.flatMap dgc) oc5 ++ (memMO xb n ++ (memMO xa m ++ []))) rfl rfl Tryz.func19 rfl rfl (by kernel_rfl) (fun w1 h _ _ => oCommit (cN c) Rl w1 (cN_in hC) (h.hasR (fun e he => List.mem_cons_of_mem _ he)))) (by rintro od hod; exact (.cons_cons _ (.cons_cons _ (.cons_cons _ (.cons_cons _ (.cons_cons _ (.cons_cons _ (.cons_cons _ (.cons_cons _ (.cons_cons _ (.cons_cons _ (show List.Sublist (Own.o 30 (c.ps.flatMap dgc) oc5 ++ (memMO xb n ++ (memMO xa m ++ []))) (Own.o 30 (c.ps.flatMap dgc) od ++ (Own.o 30 (c.ps.flatMap dgc) oc5 ++ (memMO xb n ++ (memMO xa m ++ [])))) from (List.Sublist.trans (List.Sublist.append (List.Sublist.refl (Own.o 30 (c.ps.flatMap dgc) oc5)) (List.Sublist.append (List.Sublist.refl (memMO xb n)) (List.Sublist.append (List.Sublist.refl (memMO xa m)) (List.nil_sublist _)))) (List.sublist_append_right (Own.o 30 (c.ps.flatMap dgc) od) _)))))))))))))) ?_
           rintro od hod
           refine CfgA.eff 53 (o := _) rfl (by kernel_rfl) (fuel' := 10) rfl (by kernel_rfl) (by kernel_rfl) (Eff.callA (vs := [.agg (oc (oC oc5 c)).toArray,.agg (oc (oC od (cN c))).toArray]) (.bool (osame (oC oc5 c) (oC od (cN c)))) rfl Tryz.func21 rfl rfl (by kernel_rfl) (fun w1 h => oSame (oC oc5 c) (oC od (cN c)) (Own.o 30 (c.ps.flatMap dgc) od ++ ZZ) w1 (ic.mono (fun e he => List.mem_append_right _ he)) ⟨InM.zero _,(cC_in (cN_in hC) hod).mono (fun e he => List.mem_append_left _ he),d0_len⟩ (fun e he => (List.mem_append.1 he).elim (fun h1 => h.own e (List.mem_append_right _ (List.mem_append_left _ h1))) (fun h1 => hzz w1 (h.sub (od_sub _ _ _)) e h1)))) (by rintro ⟨⟩ -; exact (.cons_cons _ (.cons_cons _ (.cons_cons _ (.cons_cons _ (.cons_cons _ (.cons_cons _ (.cons_cons _ (.cons_cons _ (.cons_cons _ (.cons_cons _ (show List.Sublist (Own.o 30 (c.ps.flatMap dgc) oc5 ++ (memMO xb n ++ (memMO xa m ++ []))) (Own.o 30 (c.ps.flatMap dgc) od ++ (Own.o 30 (c.ps.flatMap dgc) oc5 ++ (memMO xb n ++ (memMO xa m ++ [])))) from (List.Sublist.trans (List.Sublist.append (List.Sublist.refl (Own.o 30 (c.ps.flatMap dgc) oc5)) (List.Sublist.append (List.Sublist.refl (memMO xb n)) (List.Sublist.append (List.Sublist.refl (memMO xa m)) (List.nil_sublist _)))) (List.sublist_append_right (Own.o 30 (c.ps.flatMap dgc) od) _)))))))))))))) ?_
           rintro ⟨⟩ -
           refine CfgA.pure [54,55,56] [(1,false,none)] (some [12,14,117]) (l' := tF 57 7) (by kernel_rfl) (by kernel_rfl) (.cons_cons _ (.cons_cons _ (.cons_cons _ (.cons_cons _ (.cons_cons _ (.cons_cons _ (.cons_cons _ (.cons_cons _ (.cons_cons _ (.cons_cons _ (show List.Sublist (Own.o 30 (c.ps.flatMap dgc) oc5 ++ (memMO xb n ++ (memMO xa m ++ []))) (Own.o 30 (c.ps.flatMap dgc) od ++ (Own.o 30 (c.ps.flatMap dgc) oc5 ++ (memMO xb n ++ (memMO xa m ++ [])))) from (List.Sublist.trans (List.Sublist.append (List.Sublist.refl (Own.o 30 (c.ps.flatMap dgc) oc5)) (List.Sublist.append (List.Sublist.refl (memMO xb n)) (List.Sublist.append (List.Sublist.refl (memMO xa m)) (List.nil_sublist _)))) (List.sublist_append_right (Own.o 30 (c.ps.flatMap dgc) od) _))))))))))))) 7 rfl (Γ' := [(117,[],.bool (!(osame (oC oc5 c) (oC od (cN c))))),(14,[],.pointer (some ⟨ub,0,none⟩)),(12,[],.pointer (some ⟨o12,0,none⟩))]) (nd := (fun _ => [((.bool true : Value) = .bool true)])) (fun _ => by kernel_rfl) ⟨rfl,trivial⟩ ?_
           refine CfgA.known 117 (b := (!(osame (oC oc5 c) (oC od (cN c))))) (by kernel_rfl) true (by rw [same_cc]; rfl) ?_
           refine CfgA.pure [57,58] [(1,false,some (.agg (oc (oT t)).toArray)),(1,false,some (.agg (tc (tB t)).toArray))] (some [117,118,119]) (l' := tF 59 5) (by kernel_rfl) (by kernel_rfl) (.cons_cons _ (.cons_cons _ (.cons_cons _ (.cons_cons _ (.cons_cons _ (.cons_cons _ (.cons_cons _ (.cons_cons _ (.cons_cons _ (.cons_cons _ (show List.Sublist (Own.o 30 (c.ps.flatMap dgc) oc5 ++ (memMO xb n ++ (memMO xa m ++ []))) (Own.o 30 (c.ps.flatMap dgc) od ++ (Own.o 30 (c.ps.flatMap dgc) oc5 ++ (memMO xb n ++ (memMO xa m ++ [])))) from (List.Sublist.trans (List.Sublist.append (List.Sublist.refl (Own.o 30 (c.ps.flatMap dgc) oc5)) (List.Sublist.append (List.Sublist.refl (memMO xb n)) (List.Sublist.append (List.Sublist.refl (memMO xa m)) (List.nil_sublist _)))) (List.sublist_append_right (Own.o 30 (c.ps.flatMap dgc) od) _))))))))))))) 5 rfl (Γ' := [(119,[],.agg (tc (tB t)).toArray),(118,[],.agg (oc (oT t)).toArray),(117,[],.bool true)]) (nd := (fun S => [((.bool true : Value) = .bool true),(∀ w1,S w1 → (loadVar 38 ⟨o12,0,none⟩).run Tryz.prog w1 = .ok (.agg (oc (oT t)).toArray) w1),((.bool true : Value) = .bool true),(∀ w1,S w1 → (loadVar 36 ⟨ub,0,none⟩).run Tryz.prog w1 = .ok (.agg (tc (tB t)).toArray) w1)])) (fun _ => by kernel_rfl) ⟨rfl,(fun w1 h => load_list Tryz.underlying38 rfl (by kernel_rfl) (oc_len d0_len hd) (fun j v hj => h.ocell 5 rfl (by rw [List.getElem?_toArray]; exact (fun j v hj => by rw [Nat.zero_add]; exact hj) j v hj))),rfl,(fun w1 h => load_list Tryz.underlying36 rfl (by kernel_rfl) (tc_len hd) (fun j v hj => h.ocell 0 rfl (by rw [List.getElem?_toArray]; exact (fun j v hj => by rw [Nat.zero_add]; exact hj) j v hj))),trivial⟩ ?_
           refine CfgA.eff 59 (o := _) rfl (by kernel_rfl) (fuel' := 4) rfl (by kernel_rfl) (by kernel_rfl) (Eff.callA (vs := [.agg (tc (tB t)).toArray]) (.agg (oc (oT (tB t))).toArray) rfl Tryz.func20 rfl rfl (by kernel_rfl) (fun w1 _ => oTag (tB t) w1 hd)) (by rintro ⟨⟩ -; exact (.cons_cons _ (.cons_cons _ (.cons_cons _ (.cons_cons _ (.cons_cons _ (.cons_cons _ (.cons_cons _ (.cons_cons _ (.cons_cons _ (.cons_cons _ (show List.Sublist (Own.o 30 (c.ps.flatMap dgc) oc5 ++ (memMO xb n ++ (memMO xa m ++ []))) (Own.o 30 (c.ps.flatMap dgc) od ++ (Own.o 30 (c.ps.flatMap dgc) oc5 ++ (memMO xb n ++ (memMO xa m ++ [])))) from (List.Sublist.trans (List.Sublist.append (List.Sublist.refl (Own.o 30 (c.ps.flatMap dgc) oc5)) (List.Sublist.append (List.Sublist.refl (memMO xb n)) (List.Sublist.append (List.Sublist.refl (memMO xa m)) (List.nil_sublist _)))) (List.sublist_append_right (Own.o 30 (c.ps.flatMap dgc) od) _)))))))))))))) ?_
           rintro ⟨⟩ -
           refine CfgA.eff 60 (o := _) rfl (by kernel_rfl) (fuel' := 3) rfl (by kernel_rfl) (by kernel_rfl) (Eff.callA (vs := [.agg (oc (oT t)).toArray,.agg (oc (oT (tB t))).toArray]) (.bool (osame (oT t) (oT (tB t)))) rfl Tryz.func21 rfl rfl (by kernel_rfl) (fun w1 h => oSame (oT t) (oT (tB t)) ZZ w1 it ⟨InM.zero _,InC.zero _,hd⟩ (hzz w1 (h.sub (od_sub _ _ _))))) (by rintro ⟨⟩ -; exact (.cons_cons _ (.cons_cons _ (.cons_cons _ (.cons_cons _ (.cons_cons _ (.cons_cons _ (.cons_cons _ (.cons_cons _ (.cons_cons _ (.cons_cons _ (show List.Sublist (Own.o 30 (c.ps.flatMap dgc) oc5 ++ (memMO xb n ++ (memMO xa m ++ []))) (Own.o 30 (c.ps.flatMap dgc) od ++ (Own.o 30 (c.ps.flatMap dgc) oc5 ++ (memMO xb n ++ (memMO xa m ++ [])))) from (List.Sublist.trans (List.Sublist.append (List.Sublist.refl (Own.o 30 (c.ps.flatMap dgc) oc5)) (List.Sublist.append (List.Sublist.refl (memMO xb n)) (List.Sublist.append (List.Sublist.refl (memMO xa m)) (List.nil_sublist _)))) (List.sublist_append_right (Own.o 30 (c.ps.flatMap dgc) od) _)))))))))))))) ?_
           rintro ⟨⟩ -
           refine CfgA.pure [61,62,63] [(1,false,none)] (some [8]) (l' := tF 64 0) (by kernel_rfl) (by kernel_rfl) (.cons_cons _ (.cons_cons _ (.cons_cons _ (.cons_cons _ (.cons_cons _ (.cons_cons _ (.cons_cons _ (.cons_cons _ (.cons_cons _ (.cons_cons _ (show List.Sublist (Own.o 30 (c.ps.flatMap dgc) oc5 ++ (memMO xb n ++ (memMO xa m ++ []))) (Own.o 30 (c.ps.flatMap dgc) od ++ (Own.o 30 (c.ps.flatMap dgc) oc5 ++ (memMO xb n ++ (memMO xa m ++ [])))) from (List.Sublist.trans (List.Sublist.append (List.Sublist.refl (Own.o 30 (c.ps.flatMap dgc) oc5)) (List.Sublist.append (List.Sublist.refl (memMO xb n)) (List.Sublist.append (List.Sublist.refl (memMO xa m)) (List.nil_sublist _)))) (List.sublist_append_right (Own.o 30 (c.ps.flatMap dgc) od) _))))))))))))) 0 rfl (Γ' := [(8,[],.bool (!(osame (oT t) (oT (tB t)))))]) (nd := (fun _ => [((.bool true : Value) = .bool true)])) (fun _ => by kernel_rfl) ⟨rfl,trivial⟩ ?_
           refine CfgA.done (by kernel_rfl) ?_
           refine Cfg.ret rfl (rs := [.tmp 8]) rfl [.bool (!(osame (oT t) (oT (tB t))))] ⟨by kernel_rfl,trivial⟩ (fun w1 hp => ?_)
           exact ⟨by rw [same_tt]; rfl,hp.ext⟩
end Go.Proofs.YtojefiolcedigaaGreatDoor
