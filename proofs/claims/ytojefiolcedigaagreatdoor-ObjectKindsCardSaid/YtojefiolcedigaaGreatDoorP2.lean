/- Texts on which the proof of this claim stands: Ob3, Ob4, K23, K28. -/
import Derived.Test.YtojefiolcedigaaGreatDoorP1
namespace Go.Proofs.YtojefiolcedigaaGreatDoor
open K
set_option linter.unusedVariables false
theorem list32 {d : List UInt8} (h : d.length = 32) : ∃ x0 x1 x2 x3 x4 x5 x6 x7 x8 x9 x10 x11 x12 x13 x14 x15 x16 x17 x18 x19 x20 x21 x22 x23 x24 x25 x26 x27 x28 x29 x30 x31,d = [x0,x1,x2,x3,x4,x5,x6,x7,x8,x9,x10,x11,x12,x13,x14,x15,x16,x17,x18,x19,x20,x21,x22,x23,x24,x25,x26,x27,x28,x29,x30,x31] := by
 match d,h with
 | [x0,x1,x2,x3,x4,x5,x6,x7,x8,x9,x10,x11,x12,x13,x14,x15,x16,x17,x18,x19,x20,x21,x22,x23,x24,x25,x26,x27,x28,x29,x30,x31],_ => exact ⟨x0,x1,x2,x3,x4,x5,x6,x7,x8,x9,x10,x11,x12,x13,x14,x15,x16,x17,x18,x19,x20,x21,x22,x23,x24,x25,x26,x27,x28,x29,x30,x31,rfl⟩
set_option maxRecDepth 100000 in
theorem build_tag {t : TM} (hd : t.d.length = 32) (w : World) : (Instr.build 38 #[(0,.int .u8 116),(3,.agg (tc t).toArray)]).run Tryz.prog w = .ok (.agg (oc ⟨116,m0,c0,t⟩).toArray) w := by
 obtain ⟨d,s⟩ := t
 obtain ⟨x0,x1,x2,x3,x4,x5,x6,x7,x8,x9,x10,x11,x12,x13,x14,x15,x16,x17,x18,x19,x20,x21,x22,x23,x24,x25,x26,x27,x28,x29,x30,x31,rfl⟩ := list32 hd
 kernel_rfl
set_option maxRecDepth 100000 in
theorem build_com {c : CM} (hd : c.d.length = 32) (w : World) : (Instr.build 38 #[(0,.int .u8 99),(2,.agg (cc c).toArray)]).run Tryz.prog w = .ok (.agg (oc ⟨99,m0,c,t0⟩).toArray) w := by
 obtain ⟨d,pa,pc,ps,n,s⟩ := c
 obtain ⟨x0,x1,x2,x3,x4,x5,x6,x7,x8,x9,x10,x11,x12,x13,x14,x15,x16,x17,x18,x19,x20,x21,x22,x23,x24,x25,x26,x27,x28,x29,x30,x31,rfl⟩ := list32 hd
 kernel_rfl
set_option maxRecDepth 100000 in
theorem build_map (m : MM) (w : World) : (Instr.build 38 #[(0,.int .u8 109),(1,.agg (mc m).toArray)]).run Tryz.prog w = .ok (.agg (oc ⟨109,m,c0,t0⟩).toArray) w := by
 kernel_rfl
theorem zero_obj : (oc ⟨0,m0,c0,t0⟩).toArray.size = 72 := rfl
def oT (t : TM) : OM := ⟨116,m0,c0,t⟩
def cC (o : K.Own) (c : CM) : CM := { c with pa := Own.a o,pc := Own.c o }
def oC (o : K.Own) (c : CM) : OM := ⟨99,m0,cC o c,t0⟩
theorem cc_set {c : CM} (hd : c.d.length = 32) (o : K.Own) : ((cc c).toArray.setIfInBounds 32 (.slice (Own.a o) c.ps.length (Own.c o))) = (cc (cC o c)).toArray := by
 rw [List.setIfInBounds_toArray]
 congr 1
 unfold cc
 rw [List.set_append_right _ _ (by rw [dgc_len hd]; exact Nat.le_refl _),dgc_len hd]
 rfl
def msame (a b : MM) : Bool := (decide (a.vs = b.vs) && decide (a.es = b.es)) && decide (a.rs.map RowU.xs = b.rs.map RowU.xs)
def csame (a b : CM) : Bool := (((a.d == b.d) && decide (a.ps = b.ps)) && ((a.n : Int) == (b.n : Int))) && (a.t.toList == b.t.toList)
def tsame (a b : TM) : Bool := (a.d == b.d) && (a.t.toList == b.t.toList)
def osame (a b : OM) : Bool :=
 if (a.k : Int) ≠ (b.k : Int) then false else if (a.k : Int) = 109 then msame a.m b.m else if (a.k : Int) = 99 then csame a.c b.c else if (a.k : Int) = 116 then tsame a.t b.t else true
theorem os_kind {a b : OM} (h : (a.k : Int) ≠ (b.k : Int)) : osame a b = false := if_pos h
theorem os_map {a b : OM} (h : (a.k : Int) = (b.k : Int)) (h2 : (a.k : Int) = 109) : osame a b = msame a.m b.m := (if_neg (fun e => e h)).trans (if_pos h2)
theorem os_com {a b : OM} (h : (a.k : Int) = (b.k : Int)) (h2 : (a.k : Int) ≠ 109) (h3 : (a.k : Int) = 99) : osame a b = csame a.c b.c := (if_neg (fun e => e h)).trans ((if_neg h2).trans (if_pos h3))
theorem os_tag {a b : OM} (h : (a.k : Int) = (b.k : Int)) (h2 : (a.k : Int) ≠ 109) (h3 : (a.k : Int) ≠ 99) (h4 : (a.k : Int) = 116) : osame a b = tsame a.t b.t := (if_neg (fun e => e h)).trans ((if_neg h2).trans ((if_neg h3).trans (if_pos h4)))
theorem os_else {a b : OM} (h : (a.k : Int) = (b.k : Int)) (h2 : (a.k : Int) ≠ 109) (h3 : (a.k : Int) ≠ 99) (h4 : (a.k : Int) ≠ 116) : osame a b = true := (if_neg (fun e => e h)).trans ((if_neg h2).trans ((if_neg h3).trans (if_neg h4)))
theorem tag_equal {a b : TM} (ha : a.d.length = 32) (hb : b.d.length = 32) (w : World) : (Op.equal 36 (.agg (tc a).toArray) (.agg (tc b).toArray)).run Tryz.prog w = .ok (tsame a b) w := by
 show (Op.equalIn (9999 + 1) 36 (.agg (tc a).toArray) (.agg (tc b).toArray)).run Tryz.prog w = _
 rw [run_equalIn_struct w 9999 36 _ _ (by kernel_rfl) (by kernel_rfl)]
 rw [show (Tryz.prog.fieldsOf 36).toList = [⟨ "At",30,0,false,"","",0⟩,⟨ "Text",9,32,false,"","",32⟩] by kernel_rfl]
 obtain ⟨inf,hi,hs⟩ := Option.map_eq_some_iff.1 (show (Tryz.prog.info? 30).map (·.size) = some 32 by kernel_rfl)
 have p1 : ∀ (r : TM),r.d.length = 32 → (part 30 (tc r).toArray 0).run Tryz.prog w = .ok (.agg (bv r.d)) w := fun r hr => by
  have e : (tc r).toArray.extract 0 (0 + 32) = bv r.d := by
   apply Array.ext'
   rw [Array.toList_extract]
   show List.extract (dgc r.d ++ [.string r.t]) 0 32 = _
   rw [List.extract_eq_take_drop,List.drop_zero,List.take_append_of_le_length (by rw [dgc_len hr]; decide),List.take_of_length_le (by rw [dgc_len hr]; decide)]
   rfl
  simp only [part,isAgg,Sem.run_bind,run_underlying' Tryz.underlying30,Result.andThen_ok,Sem.run_pure,if_true,run_sizeOf' hi,hs,e]
 have p2 : ∀ (r : TM),r.d.length = 32 → (part 9 (tc r).toArray 32).run Tryz.prog w = .ok (.string r.t) w := fun r hr => by
  have hg : (tc r).toArray[32]? = some (.string r.t) := by rw [List.getElem?_toArray]; exact tc_t hr
  simp only [part,isAgg,Sem.run_bind,run_underlying' Tryz.underlying9,Result.andThen_ok]
  simp [hg]
 have n1 : ¬ ("At" = "_") := by decide
 have n2 : ¬ ("Text" = "_") := by decide
 have q1 : (Op.equalIn 9999 30 (.agg (bv a.d)) (.agg (bv b.d))).run Tryz.prog w = .ok (a.d == b.d) w :=
  run_equalIn_bytes w 9997 30 5 32 Tryz.underlying30 Tryz.underlying5 (fun w => by obtain ⟨i2,h2,s2⟩ := Option.map_eq_some_iff.1 (show (Tryz.prog.info? 5).map (·.size) = some 1 by kernel_rfl); rw [run_sizeOf' h2,s2]) a.d b.d ha hb
 simp only [Op.eqFields,ne_eq,n1,n2,not_false_eq_true,if_true,Sem.run_bind]
 rw [p1 a ha,Result.andThen_ok,p1 b hb,Result.andThen_ok,q1,Result.andThen_ok]
 have key : ∀ q : Bool,Sem.run Tryz.prog (if (!q) = true then pure false else do
    let x ← part 9 (tc a).toArray 32
    let y ← part 9 (tc b).toArray 32
    let r ← Op.equalIn 9999 9 x y
    if (!r) = true then pure false else pure true) w = .ok (q && (a.t.toList == b.t.toList)) w := by
  intro q
  cases q with
  | false => rfl
  | true =>
   rw [if_neg (by decide),Sem.run_bind,p2 a ha,Result.andThen_ok,Sem.run_bind,p2 b hb,Result.andThen_ok,Sem.run_bind,run_equalIn_string w 9998 9 a.t b.t Tryz.underlying9,Result.andThen_ok,Bool.true_and]
   generalize (a.t.toList == b.t.toList) = z
   cases z <;> rfl
 exact key _
set_option maxRecDepth 100000 in
set_option maxHeartbeats 4000000 in
theorem oTag (t : TM) (w : World) (hd : t.d.length = 32) :
  Calls Tryz.prog 20 #[.agg (tc t).toArray] w fun e w' => e = .returned (.agg (oc (oT t)).toArray) ∧ Ext [] w w' := by
 refine enter (vs := [.agg (tc t).toArray]) [] [] [] Tryz.func20 rfl (by kernel_rfl) (HP.start w) ?_
 refine Cfg.begL rfl ?_
 refine CfgL.eff (o := _) rfl (by kernel_rfl) (by kernel_rfl) (Eff.box (v := .agg (tc t).toArray) rfl (by kernel_rfl)) ?_
 rintro bx ⟨hbx,nbx⟩
 refine CfgL.eff (o := _) rfl (by kernel_rfl) (by kernel_rfl) (Eff.alloc (z := (.agg (oc ⟨0,m0,c0,t0⟩).toArray)) rfl (by kernel_rfl)) ?_
 rintro ob ⟨hob,nob⟩
 refine CfgL.done rfl ?_
 refine Conv.cfg (Γ' := [(2,[],.pointer (some ⟨ob,0,none⟩)),(1,[],.pointer (some ⟨bx,0,none⟩))]) (Conv.mk (by kernel_rfl)) ?_
 refine Cfg.begL rfl ?_
 refine CfgL.pure 2 [(0,false,some (.agg (tc t).toArray)),(0,false,some (.agg (oc (oT t)).toArray))] (some [2,4]) (Γ' := [(4,[],.agg (oc (oT t)).toArray),(2,[],.pointer (some ⟨ob,0,none⟩))]) (nd := (fun S => [(∀ w1,S w1 → (loadVar 36 ⟨bx,0,none⟩).run Tryz.prog w1 = .ok (.agg (tc t).toArray) w1),(∀ w1,S w1 → (Instr.build 38 #[(0,.int .u8 116),(3,.agg (tc t).toArray)]).run Tryz.prog w1 = .ok (.agg (oc (oT t)).toArray) w1)])) (by kernel_rfl) (fun _ => by kernel_rfl) ⟨(fun w1 h => load_list Tryz.underlying36 rfl (by kernel_rfl) (tc_len hd) (fun j v hj => h.ocell 1 rfl (by rw [List.getElem?_toArray]; exact (fun j v hj => by rw [Nat.zero_add]; exact hj) j v hj))),(fun w1 _ => build_tag hd w1),trivial⟩ ?_
 refine CfgL.eff (o := _) rfl (by kernel_rfl) (by kernel_rfl) (Eff.storeN (b := ob) (off := 0) (vs := (oc (oT t)).toArray) (n := 72) rfl (by kernel_rfl) (by kernel_rfl) (by kernel_rfl) (by rw [List.size_toArray,oc_len d0_len hd]) (fun q hq => all_oc _ q hq) 0 (cs := (oc ⟨0,m0,c0,t0⟩).toArray) (e := 38) (by kernel_rfl) (by rw [zero_obj]; decide)) ?_
 rintro ⟨⟩ -
 refine CfgL.setO (congrArg (fun (xq : Array Value) => ([(ob,.cells xq 38 (0,0)),(bx,.cells ((tc t).toArray) 36 (0,0))] : List (Nat × Obj))) (show _ = ((oc (oT t)).toArray) from spl_all (by rw [List.size_toArray,oc_len d0_len hd]; rfl))) ?_
 refine CfgL.done rfl ?_
 refine Conv.cfg (Γ' := [(2,[],.pointer (some ⟨ob,0,none⟩))]) (Conv.mk (by kernel_rfl)) ?_
 refine Cfg.ret rfl (rs := [.cell 2 38]) rfl [.agg (oc (oT t)).toArray] ⟨⟨_,by kernel_rfl,(fun w1 h => load_list Tryz.underlying38 rfl (by kernel_rfl) (oc_len d0_len hd) (fun j v hj => h.ocell 0 rfl (by rw [List.getElem?_toArray]; exact (fun j v hj => by rw [Nat.zero_add]; exact hj) j v hj)))⟩,trivial⟩ (fun w1 hp => ?_)
 exact ⟨rfl,hp.ext⟩
set_option maxRecDepth 100000 in
set_option maxHeartbeats 4000000 in
theorem oCommit (c : CM) (Rl : List (Nat × Obj)) (w : World) (hC : InC Rl c) (hR : Has w Rl) :
  Calls Tryz.prog 19 #[.agg (cc c).toArray] w fun e w' => ∃ o : K.Own,OwnOk o 32 c.ps.length (c.ps.flatMap dgc) ∧ e = .returned (.agg (oc (oC o c)).toArray) ∧ ∃ R1,HP w [] R1 (Own.o 30 (c.ps.flatMap dgc) o) w' := by
 have hd := hC.d
 refine enter (vs := [.agg (cc c).toArray]) [] Rl [] Tryz.func19 rfl (by kernel_rfl) (HP.ofHas hR) ?_
 refine Cfg.begL rfl ?_
 refine CfgL.eff (o := _) rfl (by kernel_rfl) (by kernel_rfl) (Eff.box (v := .agg (cc c).toArray) rfl (by kernel_rfl)) ?_
 rintro cb ⟨hcb,ncb⟩
 refine CfgL.eff (o := _) rfl (by kernel_rfl) (by kernel_rfl) (Eff.alloc (z := (.agg (oc ⟨0,m0,c0,t0⟩).toArray)) rfl (by kernel_rfl)) ?_
 rintro ob ⟨hob,nob⟩
 refine CfgL.done rfl ?_
 refine Conv.cfg (Γ' := [(2,[],.pointer (some ⟨ob,0,none⟩)),(1,[],.pointer (some ⟨cb,0,none⟩))]) (Conv.mk (by kernel_rfl)) ?_
 refine Cfg.begL rfl ?_
 refine CfgL.pure 2 [dZ,(0,false,some (.slice c.pa c.ps.length c.pc))] (some [1,2,4]) (Γ' := [(4,[],.slice c.pa c.ps.length c.pc),(2,[],.pointer (some ⟨ob,0,none⟩)),(1,[],.pointer (some ⟨cb,0,none⟩))]) (nd := (fun S => [(∀ w1,S w1 → w1.cell? ⟨cb,32,none⟩ = some (.slice c.pa c.ps.length c.pc))])) (by kernel_rfl) (fun _ => by kernel_rfl) ⟨(fun w1 h => h.ocell 1 rfl (by rw [List.getElem?_toArray]; exact (cc_p hd))),trivial⟩ ?_
 refine CfgL.eff (o := _) rfl (by kernel_rfl) (by kernel_rfl) (Eff.callOF (vs := [.slice c.pa c.ps.length c.pc]) 30 32 c.ps.length (c.ps.flatMap dgc) [(ob,.cells ((oc ⟨0,m0,c0,t0⟩).toArray) 38 (0,0)),(cb,.cells ((cc c).toArray) 34 (0,0))] [] rfl rfl Tryz.func60 rfl rfl (by kernel_rfl) (fun w1 h => cloD c.pa c.pc c.ps Rl w1 hC.p hC.w (h.hasR (fun e he => he)) hC.n)) ?_
 rintro o ko
 refine CfgL.pure 1 [] (some [1,2,5,6]) (Γ' := [(6,[],.pointer (some ⟨cb,32,none⟩)),(5,[],.slice (Own.a o) c.ps.length (Own.c o)),(2,[],.pointer (some ⟨ob,0,none⟩)),(1,[],.pointer (some ⟨cb,0,none⟩))]) (nd := (fun _ => [])) (by kernel_rfl) (fun _ => by kernel_rfl) trivial ?_
 refine CfgL.eff (o := _) rfl (by kernel_rfl) (by kernel_rfl) (Eff.store1 (b := cb) (off := 32) (v := .slice (Own.a o) c.ps.length (Own.c o)) rfl (by kernel_rfl) (by kernel_rfl) rfl (by kernel_rfl) 1 (cs := (cc c).toArray) (e := 34) (by kernel_rfl) (by rw [List.size_toArray,cc_len hd]; decide)) ?_
 rintro ⟨⟩ -
 refine CfgL.done rfl ?_
 refine Conv.cfg (Γ' := [(2,[],.pointer (some ⟨ob,0,none⟩)),(1,[],.pointer (some ⟨cb,0,none⟩))]) (Conv.mk (by kernel_rfl)) ?_
 refine Cfg.setO (congrArg (fun (xq : Array Value) => (([(ob,.cells ((oc ⟨0,m0,c0,t0⟩).toArray) 38 (0,0)),(cb,.cells xq 34 (0,0))] ++ (Own.o 30 (c.ps.flatMap dgc) o ++ [])) : List (Nat × Obj))) (show _ = ((cc (cC o c)).toArray) from cc_set hd o)) ?_
 refine Cfg.begL rfl ?_
 refine CfgL.pure 2 [(0,false,some (.agg (cc (cC o c)).toArray)),(0,false,some (.agg (oc (oC o c)).toArray))] (some [2,8]) (Γ' := [(8,[],.agg (oc (oC o c)).toArray),(2,[],.pointer (some ⟨ob,0,none⟩))]) (nd := (fun S => [(∀ w1,S w1 → (loadVar 34 ⟨cb,0,none⟩).run Tryz.prog w1 = .ok (.agg (cc (cC o c)).toArray) w1),(∀ w1,S w1 → (Instr.build 38 #[(0,.int .u8 99),(2,.agg (cc (cC o c)).toArray)]).run Tryz.prog w1 = .ok (.agg (oc (oC o c)).toArray) w1)])) (by kernel_rfl) (fun _ => by kernel_rfl) ⟨(fun w1 h => load_list Tryz.underlying34 rfl (by kernel_rfl) (cc_len hd) (fun j v hj => h.ocell 1 rfl (by rw [List.getElem?_toArray]; exact (fun j v hj => by rw [Nat.zero_add]; exact hj) j v hj))),(fun w1 _ => build_com (c := cC o c) hd w1),trivial⟩ ?_
 refine CfgL.eff (o := _) rfl (by kernel_rfl) (by kernel_rfl) (Eff.storeN (b := ob) (off := 0) (vs := (oc (oC o c)).toArray) (n := 72) rfl (by kernel_rfl) (by kernel_rfl) (by kernel_rfl) (by rw [List.size_toArray,oc_len hd d0_len]) (fun q hq => all_oc _ q hq) 0 (cs := (oc ⟨0,m0,c0,t0⟩).toArray) (e := 38) (by kernel_rfl) (by rw [zero_obj]; decide)) ?_
 rintro ⟨⟩ -
 refine CfgL.setO (congrArg (fun (xq : Array Value) => (([(ob,.cells xq 38 (0,0)),(cb,.cells ((cc (cC o c)).toArray) 34 (0,0))] ++ (Own.o 30 (c.ps.flatMap dgc) o ++ [])) : List (Nat × Obj))) (show _ = ((oc (oC o c)).toArray) from spl_all (by rw [List.size_toArray,oc_len hd d0_len]; rfl))) ?_
 refine CfgL.done rfl ?_
 refine Conv.cfg (Γ' := [(2,[],.pointer (some ⟨ob,0,none⟩))]) (Conv.mk (by kernel_rfl)) ?_
 refine Cfg.ret rfl (rs := [.cell 2 38]) rfl [.agg (oc (oC o c)).toArray] ⟨⟨_,by kernel_rfl,(fun w1 h => load_list Tryz.underlying38 rfl (by kernel_rfl) (oc_len hd d0_len) (fun j v hj => h.ocell 0 rfl (by rw [List.getElem?_toArray]; exact (fun j v hj => by rw [Nat.zero_add]; exact hj) j v hj)))⟩,trivial⟩ (fun w1 hp => ?_)
 have h9 : HP w [] Rl (Own.o 30 (c.ps.flatMap dgc) o ++ []) w1 := hp.sub (List.sublist_append_right _ _)
 rw [List.append_nil] at h9
 exact ⟨o,ko,rfl,_,h9⟩
set_option maxRecDepth 100000 in
set_option maxHeartbeats 4000000 in
theorem oSame (a b : OM) (Rl : List (Nat × Obj)) (w : World) (hA : InO Rl a) (hB : InO Rl b) (hR : Has w Rl) :
  Calls Tryz.prog 21 #[.agg (oc a).toArray,.agg (oc b).toArray] w fun e w' => e = .returned (.bool (osame a b)) ∧ Ext [] w w' := by
 have hac := hA.c.d
 have hat := hA.t
 have hbc := hB.c.d
 have hbt := hB.t
 refine enter (vs := [.agg (oc a).toArray,.agg (oc b).toArray]) [] Rl [] Tryz.func21 rfl (by kernel_rfl) (HP.ofHas hR) ?_
 refine Cfg.begL rfl ?_
 refine CfgL.eff (o := _) rfl (by kernel_rfl) (by kernel_rfl) (Eff.box (v := .agg (oc a).toArray) rfl (by kernel_rfl)) ?_
 rintro ab ⟨hab,nab⟩
 refine CfgL.eff (o := _) rfl (by kernel_rfl) (by kernel_rfl) (Eff.box (v := .agg (oc b).toArray) rfl (by kernel_rfl)) ?_
 rintro bb ⟨hbb,nbb⟩
 refine CfgL.pure 1 [] (some [2,3]) (Γ' := [(3,[],.pointer (some ⟨bb,0,none⟩)),(2,[],.pointer (some ⟨ab,0,none⟩))]) (nd := (fun _ => [])) (by kernel_rfl) (fun _ => by kernel_rfl) trivial ?_
 refine CfgL.done rfl ?_
 refine Cfg.reg rfl [2,3,9] [dZ,(0,false,some (.int .u8 (a.k : Int))),dZ,(0,false,some (.int .u8 (b.k : Int)))] (Γ' := [(9,[],.bool ((a.k : Int) != (b.k : Int))),(3,[],.pointer (some ⟨bb,0,none⟩)),(2,[],.pointer (some ⟨ab,0,none⟩))]) (nd := (fun S => [(∀ w1,S w1 → w1.cell? ⟨ab,0,none⟩ = some (.int .u8 (a.k : Int))),(∀ w1,S w1 → w1.cell? ⟨bb,0,none⟩ = some (.int .u8 (b.k : Int)))])) (fun _ => by kernel_rfl) ⟨(fun w1 h => h.ocell 1 rfl (by rw [List.getElem?_toArray]; exact rfl)),(fun w1 h => h.ocell 0 rfl (by rw [List.getElem?_toArray]; exact rfl)),trivial⟩ ?_
 refine Cfg.cond rfl (b := ((a.k : Int) != (b.k : Int))) (by kernel_rfl) (fun c1r => ?_) (fun c1r => ?_)
 ·have c1 : ((a.k : Int) ≠ (b.k : Int)) := (bne_iff_ne.1 c1r)
  refine Cfg.reg rfl [4] [] (Γ' := [(4,[],.bool false)]) (nd := (fun _ => [])) (fun _ => by kernel_rfl) trivial ?_
  refine Cfg.ret rfl (rs := [.tmp 4]) rfl [.bool false] ⟨by kernel_rfl,trivial⟩ (fun w1 hp => ?_)
  exact ⟨by rw [os_kind c1]; rfl,hp.ext⟩
 ·have c1 : ((a.k : Int) = (b.k : Int)) := (bne_eq_false_iff_eq.1 c1r)
  refine Cfg.reg rfl [2,3,11] [dZ,(0,false,some (.int .u8 (a.k : Int)))] (Γ' := [(11,[],.int .u8 (a.k : Int)),(3,[],.pointer (some ⟨bb,0,none⟩)),(2,[],.pointer (some ⟨ab,0,none⟩))]) (nd := (fun S => [(∀ w1,S w1 → w1.cell? ⟨ab,0,none⟩ = some (.int .u8 (a.k : Int)))])) (fun _ => by kernel_rfl) ⟨(fun w1 h => h.ocell 1 rfl (by rw [List.getElem?_toArray]; exact rfl)),trivial⟩ ?_
  refine Cfg.reg rfl [2,3,11,12] [] (Γ' := [(12,[],.bool ((a.k : Int) == (109 : Int))),(11,[],.int .u8 (a.k : Int)),(3,[],.pointer (some ⟨bb,0,none⟩)),(2,[],.pointer (some ⟨ab,0,none⟩))]) (nd := (fun _ => [])) (fun _ => by kernel_rfl) trivial ?_
  refine Cfg.cond rfl (b := ((a.k : Int) == (109 : Int))) (by kernel_rfl) (fun c2r => ?_) (fun c2r => ?_)
  ·have c2 : ((a.k : Int) = (109 : Int)) := (beq_iff_eq.1 c2r)
   refine Cfg.begL rfl ?_
   refine CfgL.pure 8 [dZ,dZ,dZ,(0,false,some (.slice a.m.va a.m.vs.length a.m.vc)),dZ,dZ,dZ,(0,false,some (.slice b.m.va b.m.vs.length b.m.vc))] (some [2,3,17,21]) (Γ' := [(21,[],.slice b.m.va b.m.vs.length b.m.vc),(17,[],.slice a.m.va a.m.vs.length a.m.vc),(3,[],.pointer (some ⟨bb,0,none⟩)),(2,[],.pointer (some ⟨ab,0,none⟩))]) (nd := (fun S => [(∀ w1,S w1 → w1.cell? ⟨ab,1,none⟩ = some (.slice a.m.va a.m.vs.length a.m.vc)),(∀ w1,S w1 → w1.cell? ⟨bb,1,none⟩ = some (.slice b.m.va b.m.vs.length b.m.vc))])) (by kernel_rfl) (fun _ => by kernel_rfl) ⟨(fun w1 h => h.ocell 1 rfl (by rw [List.getElem?_toArray]; exact rfl)),(fun w1 h => h.ocell 0 rfl (by rw [List.getElem?_toArray]; exact rfl)),trivial⟩ ?_
   refine CfgL.eff (o := _) rfl (by kernel_rfl) (by kernel_rfl) (Eff.callA (vs := [.slice a.m.va a.m.vs.length a.m.vc,.slice b.m.va b.m.vs.length b.m.vc]) (.bool (decide (a.m.vs = b.m.vs))) rfl Tryz.func61 rfl rfl (by kernel_rfl) (fun w1 h => eqU a.m.va b.m.va a.m.vc b.m.vc a.m.vs b.m.vs Rl w1 hA.m.v hB.m.v (h.hasR (fun e he => he)) (by unfold maxLen; have := hA.m.n; omega) (by unfold maxLen; have := hB.m.n; omega))) ?_
   rintro ⟨⟩ -
   refine CfgL.pure 1 [] (some [2,3,23]) (Γ' := [(23,[],.bool (decide (a.m.vs = b.m.vs))),(3,[],.pointer (some ⟨bb,0,none⟩)),(2,[],.pointer (some ⟨ab,0,none⟩))]) (nd := (fun _ => [])) (by kernel_rfl) (fun _ => by kernel_rfl) trivial ?_
   by_cases c3 : (decide (a.m.vs = b.m.vs)) = true
   ·have c3k : (decide (a.m.vs = b.m.vs)) = true := c3
    have c3q : ((decide (a.m.vs = b.m.vs)) = true) := c3k
    refine CfgL.known 23 (b := (decide (a.m.vs = b.m.vs))) (by kernel_rfl) true c3k ?_
    refine CfgL.pure 8 [(1,false,none),(1,false,none),(1,false,none),(1,false,some (.slice a.m.ea a.m.es.length a.m.ec)),(1,false,none),(1,false,none),(1,false,none),(1,false,some (.slice b.m.ea b.m.es.length b.m.ec))] (some [2,3,23,27,31]) (Γ' := [(31,[],.slice b.m.ea b.m.es.length b.m.ec),(27,[],.slice a.m.ea a.m.es.length a.m.ec),(23,[],.bool true),(3,[],.pointer (some ⟨bb,0,none⟩)),(2,[],.pointer (some ⟨ab,0,none⟩))]) (nd := (fun S => [((.bool true : Value) = .bool true),((.bool true : Value) = .bool true),((.bool true : Value) = .bool true),((.bool true : Value) = .bool true),(∀ w1,S w1 → w1.cell? ⟨ab,2,none⟩ = some (.slice a.m.ea a.m.es.length a.m.ec)),((.bool true : Value) = .bool true),((.bool true : Value) = .bool true),((.bool true : Value) = .bool true),((.bool true : Value) = .bool true),(∀ w1,S w1 → w1.cell? ⟨bb,2,none⟩ = some (.slice b.m.ea b.m.es.length b.m.ec))])) (by kernel_rfl) (fun _ => by kernel_rfl) ⟨rfl,rfl,rfl,rfl,(fun w1 h => h.ocell 1 rfl (by rw [List.getElem?_toArray]; exact rfl)),rfl,rfl,rfl,rfl,(fun w1 h => h.ocell 0 rfl (by rw [List.getElem?_toArray]; exact rfl)),trivial⟩ ?_
    refine CfgL.eff (o := _) rfl (by kernel_rfl) (by kernel_rfl) (Eff.callA (vs := [.slice a.m.ea a.m.es.length a.m.ec,.slice b.m.ea b.m.es.length b.m.ec]) (.bool (decide (a.m.es = b.m.es))) rfl Tryz.func62 rfl rfl (by kernel_rfl) (fun w1 h => eqE a.m.ea b.m.ea a.m.ec b.m.ec a.m.es b.m.es Rl w1 hA.m.e hB.m.e (h.hasR (fun e he => he)) (by unfold maxLen; have := hA.m.n; omega) (by unfold maxLen; have := hB.m.n; omega))) ?_
    rintro ⟨⟩ -
    refine CfgL.pure 2 [] (some [2,3,34]) (Γ' := [(34,[],.bool (decide (a.m.es = b.m.es))),(3,[],.pointer (some ⟨bb,0,none⟩)),(2,[],.pointer (some ⟨ab,0,none⟩))]) (nd := (fun _ => [])) (by kernel_rfl) (fun _ => by kernel_rfl) trivial ?_
    by_cases c4 : (decide (a.m.es = b.m.es)) = true
    ·have c4k : (decide (a.m.es = b.m.es)) = true := c4
     have c4q : ((decide (a.m.es = b.m.es)) = true) := c4k
     refine CfgL.known 34 (b := (decide (a.m.es = b.m.es))) (by kernel_rfl) true c4k ?_
     refine CfgL.pure 6 [(1,false,none),(1,false,none),(1,false,some (.slice a.m.ra a.m.rs.length a.m.rc)),(1,false,none),(1,false,none),(1,false,some (.slice b.m.ra b.m.rs.length b.m.rc))] (some [34,37,40]) (Γ' := [(40,[],.slice b.m.ra b.m.rs.length b.m.rc),(37,[],.slice a.m.ra a.m.rs.length a.m.rc),(34,[],.bool true)]) (nd := (fun S => [((.bool true : Value) = .bool true),((.bool true : Value) = .bool true),((.bool true : Value) = .bool true),(∀ w1,S w1 → w1.cell? ⟨ab,3,none⟩ = some (.slice a.m.ra a.m.rs.length a.m.rc)),((.bool true : Value) = .bool true),((.bool true : Value) = .bool true),((.bool true : Value) = .bool true),(∀ w1,S w1 → w1.cell? ⟨bb,3,none⟩ = some (.slice b.m.ra b.m.rs.length b.m.rc))])) (by kernel_rfl) (fun _ => by kernel_rfl) ⟨rfl,rfl,rfl,(fun w1 h => h.ocell 1 rfl (by rw [List.getElem?_toArray]; exact rfl)),rfl,rfl,rfl,(fun w1 h => h.ocell 0 rfl (by rw [List.getElem?_toArray]; exact rfl)),trivial⟩ ?_
     refine CfgL.eff (o := _) rfl (by kernel_rfl) (by kernel_rfl) (Eff.callA (vs := [.slice a.m.ra a.m.rs.length a.m.rc,.slice b.m.ra b.m.rs.length b.m.rc,.func (.func 61) #[] #[]]) (.bool (decide (a.m.rs.map RowU.xs = b.m.rs.map RowU.xs))) rfl Tryz.func63 rfl rfl (by kernel_rfl) (fun w1 h => eqRows a.m.ra b.m.ra a.m.rc b.m.rc a.m.rs b.m.rs Rl w1 hA.m.r hB.m.r (h.hasR (fun e he => he)) (by unfold maxLen; have := hA.m.n; omega) (by unfold maxLen; have := hB.m.n; omega) (fun r hr => ⟨(hA.m.i r hr).1,by have := (hA.m.i r hr).2; unfold maxLen; omega⟩) (fun r hr => ⟨(hB.m.i r hr).1,by have := (hB.m.i r hr).2; unfold maxLen; omega⟩))) ?_
     rintro ⟨⟩ -
     refine CfgL.pure 2 [] (some [4]) (Γ' := [(4,[],.bool (decide (a.m.rs.map RowU.xs = b.m.rs.map RowU.xs)))]) (nd := (fun _ => [])) (by kernel_rfl) (fun _ => by kernel_rfl) trivial ?_
     refine CfgL.done rfl ?_
     refine Cfg.ret rfl (rs := [.tmp 4]) rfl [.bool (decide (a.m.rs.map RowU.xs = b.m.rs.map RowU.xs))] ⟨by kernel_rfl,trivial⟩ (fun w1 hp => ?_)
     have hx := os_map c1 c2
     unfold msame at hx
     exact ⟨by rw [hx]; simp [resOf, *],hp.ext⟩
    ·have c4k : (decide (a.m.es = b.m.es)) = false := (by simpa using c4)
     have c4q : ((decide (a.m.es = b.m.es)) = false) := c4k
     refine CfgL.known 34 (b := (decide (a.m.es = b.m.es))) (by kernel_rfl) false c4k ?_
     refine CfgL.pure 9 [(2,false,none),(2,false,none),(2,false,none),(2,false,none),(2,false,none),(2,false,none),(2,false,none)] (some [4]) (Γ' := [(4,[],.bool false)]) (nd := (fun _ => [((.bool false : Value) ≠ .bool true),((.bool false : Value) ≠ .bool true),((.bool false : Value) ≠ .bool true),((.bool false : Value) ≠ .bool true),((.bool false : Value) ≠ .bool true),((.bool false : Value) ≠ .bool true),((.bool false : Value) ≠ .bool true)])) (by kernel_rfl) (fun _ => by kernel_rfl) ⟨(by simp),(by simp),(by simp),(by simp),(by simp),(by simp),(by simp),trivial⟩ ?_
     refine CfgL.done rfl ?_
     refine Cfg.ret rfl (rs := [.tmp 4]) rfl [.bool false] ⟨by kernel_rfl,trivial⟩ (fun w1 hp => ?_)
     have hx := os_map c1 c2
     unfold msame at hx
     exact ⟨by rw [hx]; simp [resOf, *],hp.ext⟩
   ·have c3k : (decide (a.m.vs = b.m.vs)) = false := (by simpa using c3)
    have c3q : ((decide (a.m.vs = b.m.vs)) = false) := c3k
    refine CfgL.known 23 (b := (decide (a.m.vs = b.m.vs))) (by kernel_rfl) false c3k ?_
    refine CfgL.pure 20 [(2,false,none),(2,false,none),(2,false,none),(2,false,none),(2,false,none),(2,false,none),(2,false,none),(2,false,none),(2,false,none),dZ,dZ,(2,false,none),(2,false,none),(2,false,none),(2,false,none),(2,false,none),(2,false,none),(2,false,none)] (some [4]) (Γ' := [(4,[],.bool false)]) (nd := (fun _ => [((.bool false : Value) ≠ .bool true),((.bool false : Value) ≠ .bool true),((.bool false : Value) ≠ .bool true),((.bool false : Value) ≠ .bool true),((.bool false : Value) ≠ .bool true),((.bool false : Value) ≠ .bool true),((.bool false : Value) ≠ .bool true),((.bool false : Value) ≠ .bool true),((.bool false : Value) ≠ .bool true),((.bool false : Value) ≠ .bool true),((.bool false : Value) ≠ .bool true),((.bool false : Value) ≠ .bool true),((.bool false : Value) ≠ .bool true),((.bool false : Value) ≠ .bool true),((.bool false : Value) ≠ .bool true),((.bool false : Value) ≠ .bool true)])) (by kernel_rfl) (fun _ => by kernel_rfl) ⟨(by simp),(by simp),(by simp),(by simp),(by simp),(by simp),(by simp),(by simp),(by simp),(by simp),(by simp),(by simp),(by simp),(by simp),(by simp),(by simp),trivial⟩ ?_
    refine CfgL.done rfl ?_
    refine Cfg.ret rfl (rs := [.tmp 4]) rfl [.bool false] ⟨by kernel_rfl,trivial⟩ (fun w1 hp => ?_)
    have hx := os_map c1 c2
    unfold msame at hx
    exact ⟨by rw [hx]; simp [resOf, *],hp.ext⟩
  ·have c2 : ((a.k : Int) ≠ (109 : Int)) := (beq_eq_false_iff_ne.1 c2r)
   refine Cfg.reg rfl [2,3,11,43] [] (Γ' := [(43,[],.bool ((a.k : Int) == (99 : Int))),(11,[],.int .u8 (a.k : Int)),(3,[],.pointer (some ⟨bb,0,none⟩)),(2,[],.pointer (some ⟨ab,0,none⟩))]) (nd := (fun _ => [])) (fun _ => by kernel_rfl) trivial ?_
   refine Cfg.cond rfl (b := ((a.k : Int) == (99 : Int))) (by kernel_rfl) (fun c5r => ?_) (fun c5r => ?_)
   ·have c5 : ((a.k : Int) = (99 : Int)) := (beq_iff_eq.1 c5r)
    refine Cfg.begL rfl ?_
    refine CfgL.pure 8 [dZ,dZ,(0,false,some (.agg (bv a.c.d))),dZ,dZ,(0,false,some (.agg (bv b.c.d))),(0,false,some (.bool (a.c.d == b.c.d)))] (some [2,3,52]) (Γ' := [(52,[],.bool (a.c.d == b.c.d)),(3,[],.pointer (some ⟨bb,0,none⟩)),(2,[],.pointer (some ⟨ab,0,none⟩))]) (nd := (fun S => [(∀ w1,S w1 → (loadVar 30 ⟨ab,4,none⟩).run Tryz.prog w1 = .ok (.agg (bv a.c.d)) w1),(∀ w1,S w1 → (loadVar 30 ⟨bb,4,none⟩).run Tryz.prog w1 = .ok (.agg (bv b.c.d)) w1),(∀ w1,S w1 → (Op.equal 30 (.agg (bv a.c.d)) (.agg (bv b.c.d))).run Tryz.prog w1 = .ok (a.c.d == b.c.d) w1)])) (by kernel_rfl) (fun _ => by kernel_rfl) ⟨(fun w1 h => load_list (vs := dgc a.c.d) Tryz.underlying30 rfl (by kernel_rfl) (dgc_len hac) (fun j v hj => h.ocell 1 rfl (by rw [List.getElem?_toArray]; exact (fun j v hj => oc_com (cc_d hj)) j v hj))),(fun w1 h => load_list (vs := dgc b.c.d) Tryz.underlying30 rfl (by kernel_rfl) (dgc_len hbc) (fun j v hj => h.ocell 0 rfl (by rw [List.getElem?_toArray]; exact (fun j v hj => oc_com (cc_d hj)) j v hj))),(fun _ _ => equal_bv Tryz.underlying30 Tryz.underlying5 (by kernel_rfl) hac hbc),trivial⟩ ?_
    by_cases c6 : (a.c.d == b.c.d) = true
    ·have c6k : (a.c.d == b.c.d) = true := c6
     have c6q : ((a.c.d == b.c.d) = true) := c6k
     refine CfgL.known 52 (b := (a.c.d == b.c.d)) (by kernel_rfl) true c6k ?_
     refine CfgL.pure 6 [(1,false,none),(1,false,none),(1,false,some (.slice a.c.pa a.c.ps.length a.c.pc)),(1,false,none),(1,false,none),(1,false,some (.slice b.c.pa b.c.ps.length b.c.pc))] (some [2,3,52,55,58]) (Γ' := [(58,[],.slice b.c.pa b.c.ps.length b.c.pc),(55,[],.slice a.c.pa a.c.ps.length a.c.pc),(52,[],.bool true),(3,[],.pointer (some ⟨bb,0,none⟩)),(2,[],.pointer (some ⟨ab,0,none⟩))]) (nd := (fun S => [((.bool true : Value) = .bool true),((.bool true : Value) = .bool true),((.bool true : Value) = .bool true),(∀ w1,S w1 → w1.cell? ⟨ab,36,none⟩ = some (.slice a.c.pa a.c.ps.length a.c.pc)),((.bool true : Value) = .bool true),((.bool true : Value) = .bool true),((.bool true : Value) = .bool true),(∀ w1,S w1 → w1.cell? ⟨bb,36,none⟩ = some (.slice b.c.pa b.c.ps.length b.c.pc))])) (by kernel_rfl) (fun _ => by kernel_rfl) ⟨rfl,rfl,rfl,(fun w1 h => h.ocell 1 rfl (by rw [List.getElem?_toArray]; exact (oc_com (j := 32) (cc_p hac)))),rfl,rfl,rfl,(fun w1 h => h.ocell 0 rfl (by rw [List.getElem?_toArray]; exact (oc_com (j := 32) (cc_p hbc)))),trivial⟩ ?_
     refine CfgL.eff (o := _) rfl (by kernel_rfl) (by kernel_rfl) (Eff.callA (vs := [.slice a.c.pa a.c.ps.length a.c.pc,.slice b.c.pa b.c.ps.length b.c.pc]) (.bool (decide (a.c.ps = b.c.ps))) rfl Tryz.func23 rfl rfl (by kernel_rfl) (fun w1 h => eqD a.c.pa b.c.pa a.c.pc b.c.pc a.c.ps b.c.ps Rl w1 hA.c.p hB.c.p hA.c.w hB.c.w (h.hasR (fun e he => he)) (by unfold maxLen; have := hA.c.n; omega) (by unfold maxLen; have := hB.c.n; omega))) ?_
     rintro ⟨⟩ -
     refine CfgL.pure 20 [dZ,dZ,dZ,dZ,(0,false,some (.int .u64 (a.c.n : Int))),dZ,dZ,(0,false,some (.int .u64 (b.c.n : Int))),dZ,dZ,dZ,dZ,dZ,(0,false,some (.string a.c.t)),dZ,dZ,(0,false,some (.string b.c.t))] (some [4]) (Γ' := [(4,[],.bool (((decide (a.c.ps = b.c.ps)) && ((a.c.n : Int) == (b.c.n : Int))) && (a.c.t.toList == b.c.t.toList)))]) (nd := (fun S => [((.bool (decide (a.c.ps = b.c.ps)) : Value) = .bool true → (∀ w1,S w1 → w1.cell? ⟨ab,37,none⟩ = some (.int .u64 (a.c.n : Int)))),((.bool (decide (a.c.ps = b.c.ps)) : Value) = .bool true → (∀ w1,S w1 → w1.cell? ⟨bb,37,none⟩ = some (.int .u64 (b.c.n : Int)))),((.bool ((decide (a.c.ps = b.c.ps)) && ((a.c.n : Int) == (b.c.n : Int))) : Value) = .bool true → (∀ w1,S w1 → w1.cell? ⟨ab,38,none⟩ = some (.string a.c.t))),((.bool ((decide (a.c.ps = b.c.ps)) && ((a.c.n : Int) == (b.c.n : Int))) : Value) = .bool true → (∀ w1,S w1 → w1.cell? ⟨bb,38,none⟩ = some (.string b.c.t)))])) (by kernel_rfl) (fun _ => by kernel_rfl) ⟨(fun g0 => have q0 : ((decide (a.c.ps = b.c.ps)) = true) := (boolV g0); (fun w1 h => h.ocell 1 rfl (by rw [List.getElem?_toArray]; exact (oc_com (j := 33) (cc_n hac))))),(fun g0 => have q0 : ((decide (a.c.ps = b.c.ps)) = true) := (boolV g0); (fun w1 h => h.ocell 0 rfl (by rw [List.getElem?_toArray]; exact (oc_com (j := 33) (cc_n hbc))))),(fun g0 => have q0 : (((decide (a.c.ps = b.c.ps)) = true) ∧ ((a.c.n : Int) = (b.c.n : Int))) := ⟨(andT1 (boolV g0)),(beq_iff_eq.1 (andT2 (boolV g0)))⟩; (fun w1 h => h.ocell 1 rfl (by rw [List.getElem?_toArray]; exact (oc_com (j := 34) (cc_t hac))))),(fun g0 => have q0 : (((decide (a.c.ps = b.c.ps)) = true) ∧ ((a.c.n : Int) = (b.c.n : Int))) := ⟨(andT1 (boolV g0)),(beq_iff_eq.1 (andT2 (boolV g0)))⟩; (fun w1 h => h.ocell 0 rfl (by rw [List.getElem?_toArray]; exact (oc_com (j := 34) (cc_t hbc))))),trivial⟩ ?_
     refine CfgL.done rfl ?_
     refine Cfg.ret rfl (rs := [.tmp 4]) rfl [.bool (((decide (a.c.ps = b.c.ps)) && ((a.c.n : Int) == (b.c.n : Int))) && (a.c.t.toList == b.c.t.toList))] ⟨by kernel_rfl,trivial⟩ (fun w1 hp => ?_)
     have hx := os_com c1 c2 c5
     unfold csame at hx
     exact ⟨by rw [hx]; simp [resOf, *],hp.ext⟩
    ·have c6k : (a.c.d == b.c.d) = false := (by simpa using c6)
     have c6q : ((a.c.d == b.c.d) = false) := c6k
     refine CfgL.known 52 (b := (a.c.d == b.c.d)) (by kernel_rfl) false c6k ?_
     refine CfgL.pure 27 [(2,false,none),(2,false,none),(2,false,none),(2,false,none),(2,false,none),(2,false,none),(2,false,none),dZ,dZ,(2,false,none),(2,false,none),(2,false,none),(2,false,none),(2,false,none),(2,false,none),(2,false,none),dZ,dZ,(2,false,none),(2,false,none),(2,false,none),(2,false,none),(2,false,none),(2,false,none),(2,false,none)] (some [4]) (Γ' := [(4,[],.bool false)]) (nd := (fun _ => [((.bool false : Value) ≠ .bool true),((.bool false : Value) ≠ .bool true),((.bool false : Value) ≠ .bool true),((.bool false : Value) ≠ .bool true),((.bool false : Value) ≠ .bool true),((.bool false : Value) ≠ .bool true),((.bool false : Value) ≠ .bool true),((.bool false : Value) ≠ .bool true),((.bool false : Value) ≠ .bool true),((.bool false : Value) ≠ .bool true),((.bool false : Value) ≠ .bool true),((.bool false : Value) ≠ .bool true),((.bool false : Value) ≠ .bool true),((.bool false : Value) ≠ .bool true),((.bool false : Value) ≠ .bool true),((.bool false : Value) ≠ .bool true),((.bool false : Value) ≠ .bool true),((.bool false : Value) ≠ .bool true),((.bool false : Value) ≠ .bool true),((.bool false : Value) ≠ .bool true),((.bool false : Value) ≠ .bool true)])) (by kernel_rfl) (fun _ => by kernel_rfl) ⟨(by simp),(by simp),(by simp),(by simp),(by simp),(by simp),(by simp),(by simp),(by simp),(by simp),(by simp),(by simp),(by simp),(by simp),(by simp),(by simp),(by simp),(by simp),(by simp),(by simp),(by simp),trivial⟩ ?_
     refine CfgL.done rfl ?_
     refine Cfg.ret rfl (rs := [.tmp 4]) rfl [.bool false] ⟨by kernel_rfl,trivial⟩ (fun w1 hp => ?_)
     have hx := os_com c1 c2 c5
     unfold csame at hx
     exact ⟨by rw [hx]; simp [resOf, *],hp.ext⟩
   ·have c5 : ((a.k : Int) ≠ (99 : Int)) := (beq_eq_false_iff_ne.1 c5r)
    refine Cfg.reg rfl [2,3,79] [] (Γ' := [(79,[],.bool ((a.k : Int) == (116 : Int))),(3,[],.pointer (some ⟨bb,0,none⟩)),(2,[],.pointer (some ⟨ab,0,none⟩))]) (nd := (fun _ => [])) (fun _ => by kernel_rfl) trivial ?_
    refine Cfg.cond rfl (b := ((a.k : Int) == (116 : Int))) (by kernel_rfl) (fun c7r => ?_) (fun c7r => ?_)
    ·have c7 : ((a.k : Int) = (116 : Int)) := (beq_iff_eq.1 c7r)
     refine Cfg.reg rfl [4] [dZ,(0,false,some (.agg (tc a.t).toArray)),dZ,(0,false,some (.agg (tc b.t).toArray)),(0,false,some (.bool (tsame a.t b.t)))] (Γ' := [(4,[],.bool (tsame a.t b.t))]) (nd := (fun S => [(∀ w1,S w1 → (loadVar 36 ⟨ab,39,none⟩).run Tryz.prog w1 = .ok (.agg (tc a.t).toArray) w1),(∀ w1,S w1 → (loadVar 36 ⟨bb,39,none⟩).run Tryz.prog w1 = .ok (.agg (tc b.t).toArray) w1),(∀ w1,S w1 → (Op.equal 36 (.agg (tc a.t).toArray) (.agg (tc b.t).toArray)).run Tryz.prog w1 = .ok (tsame a.t b.t) w1)])) (fun _ => by kernel_rfl) ⟨(fun w1 h => load_list Tryz.underlying36 rfl (by kernel_rfl) (tc_len hat) (fun j v hj => h.ocell 1 rfl (by rw [List.getElem?_toArray]; exact (fun j v hj => oc_tag hac hj) j v hj))),(fun w1 h => load_list Tryz.underlying36 rfl (by kernel_rfl) (tc_len hbt) (fun j v hj => h.ocell 0 rfl (by rw [List.getElem?_toArray]; exact (fun j v hj => oc_tag hbc hj) j v hj))),(fun w1 _ => tag_equal hat hbt w1),trivial⟩ ?_
     refine Cfg.ret rfl (rs := [.tmp 4]) rfl [.bool (tsame a.t b.t)] ⟨by kernel_rfl,trivial⟩ (fun w1 hp => ?_)
     exact ⟨by rw [os_tag c1 c2 c5 c7]; rfl,hp.ext⟩
    ·have c7 : ((a.k : Int) ≠ (116 : Int)) := (beq_eq_false_iff_ne.1 c7r)
     refine Cfg.reg rfl [4] [] (Γ' := [(4,[],.bool true)]) (nd := (fun _ => [])) (fun _ => by kernel_rfl) trivial ?_
     refine Cfg.ret rfl (rs := [.tmp 4]) rfl [.bool true] ⟨by kernel_rfl,trivial⟩ (fun w1 hp => ?_)
     exact ⟨by rw [os_else c1 c2 c5 c7]; rfl,hp.ext⟩
end Go.Proofs.YtojefiolcedigaaGreatDoor
namespace Go.Proofs.YtojefiolcedigaaGreatDoor
open K
set_option linter.unusedVariables false
structure MO where
 v : K.Own
 e : K.Own
 o : K.Own
 tl : List (K.Own × List Nat)
def rowsT (tl : List (K.Own × List Nat)) : List RowU := tl.map fun t => ⟨Own.a t.1,Own.c t.1,t.2⟩
def innT (tl : List (K.Own × List Nat)) : List (Nat × Obj) := tl.flatMap fun t => Own.o 79 (t.2.flatMap u32c) t.1
def mMO (x : MO) (m : MM) : MM := ⟨Own.a x.v,Own.c x.v,m.vs,Own.a x.e,Own.c x.e,m.es,Own.a x.o,Own.c x.o,rowsT x.tl⟩
def oA (x : MO) (m : MM) : OM := ⟨109,mMO x m,c0,t0⟩
def memMO (x : MO) (m : MM) : List (Nat × Obj) := Own.o 22 ((rowsT x.tl).flatMap rowc) x.o ++ (Own.o 79 (m.vs.flatMap u32c) x.v ++ (Own.o 81 (m.es.flatMap edc) x.e ++ (innT x.tl ++ [])))
structure MOk (x : MO) (m : MM) : Prop where
 v : OwnOk x.v 1 m.vs.length (m.vs.flatMap u32c)
 e : OwnOk x.e 3 m.es.length (m.es.flatMap edc)
 o : OwnOk x.o 1 (rowsT x.tl).length ((rowsT x.tl).flatMap rowc)
 i : ∀ t ∈ x.tl,OwnOk t.1 1 t.2.length (t.2.flatMap u32c) ∧ t.2.length ≤ 140737488355328 / 4
 s : x.tl.map (·.2) = m.rs.map RowU.xs
theorem rowsT_len (tl : List (K.Own × List Nat)) : (rowsT tl).length = tl.length := List.length_map ..
theorem MOk.len {x : MO} {m : MM} (h : MOk x m) : x.tl.length = m.rs.length := by have := congrArg List.length h.s; simpa using this
theorem MOk.xs {x : MO} {m : MM} (h : MOk x m) : (mMO x m).rs.map RowU.xs = m.rs.map RowU.xs := by
 rw [← h.s]; show (rowsT x.tl).map RowU.xs = _; unfold rowsT; rw [List.map_map]; rfl
theorem MOk.inM {x : MO} {m : MM} (h : MOk x m) {Rl : List (Nat × Obj)} (hm : InM Rl m) : InM (memMO x m) (mMO x m) := by
 refine ⟨(own_inf h.v).mono fun e he => List.mem_append_right _ (List.mem_append_left _ he),(own_inf h.e).mono fun e he => List.mem_append_right _ (List.mem_append_right _ (List.mem_append_left _ he)),(own_inf h.o).mono fun e he => List.mem_append_left _ he,?_,⟨hm.n.1,hm.n.2.1,?_⟩⟩
 ·intro r hr
  obtain ⟨t,ht,rfl⟩ := List.mem_map.1 hr
  exact ⟨(own_inf (h.i t ht).1).mono fun e he => List.mem_append_right _ (List.mem_append_right _ (List.mem_append_right _ (List.mem_append_left _ (List.mem_flatMap.2 ⟨t,ht,he⟩)))),(h.i t ht).2⟩
 ·show (rowsT x.tl).length ≤ _
  rw [rowsT_len,h.len]; exact hm.n.2.2
theorem perm_inn (L a v e o n : List (Nat × Obj)) : (L ++ (a ++ (v ++ (e ++ (o ++ (n ++ [])))))).Perm (L ++ (v ++ (e ++ (o ++ ((n ++ a) ++ []))))) := by
 refine List.Perm.append_left L ?_
 have h : (a ++ (v ++ (e ++ (o ++ n)))).Perm ((v ++ (e ++ (o ++ n))) ++ a) := List.perm_append_comm
 simpa only [List.append_assoc,List.append_nil] using h
theorem innT_app (tl : List (K.Own × List Nat)) (o : K.Own) (xs : List Nat) : innT (tl ++ [(o,xs)]) = innT tl ++ Own.o 79 (xs.flatMap u32c) o := by
 unfold innT; rw [List.flatMap_append,List.flatMap_cons,List.flatMap_nil,List.append_nil]
theorem rowsT_app (tl : List (K.Own × List Nat)) (o : K.Own) (xs : List Nat) : (rowsT (tl ++ [(o,xs)])).flatMap rowc = (rowsT tl).flatMap rowc ++ [.slice (Own.a o) xs.length (Own.c o)] := by
 unfold rowsT; rw [List.map_append,List.flatMap_append]; rfl
theorem tl_next {tl : List (K.Own × List Nat)} {l : List RowU} {i : Nat} (h : tl.map (·.2) = (l.take i).map RowU.xs) (hi : i < l.length) (o : K.Own) : (tl ++ [(o,(l.getD i rwz).xs)]).map (·.2) = (l.take (i + 1)).map RowU.xs := by
 rw [List.map_append,h,List.take_succ_eq_append_getElem hi,List.map_append,getD_at hi]; rfl
set_option maxRecDepth 100000 in
set_option maxHeartbeats 2000000 in
theorem r8u (la lb : Option Addr) (ca cb : Nat) (l m : List Nat) (Rl : List (Nat × Obj)) (w : World) (hI : InF u32c 1 Rl la l) (hJ : InF u32c 1 Rl lb m) (hR : Has w Rl) (hn : l.length ≤ maxLen) (hn2 : m.length ≤ maxLen) :
  Calls Tryz.prog 65 #[.slice la l.length ca,.slice lb m.length cb] w fun e w' => e = .returned (.bool (decide (l = m))) ∧ Ext [] w w' := by
 unfold maxLen at hn hn2
 refine enter (vs := [.slice la l.length ca,.slice lb m.length cb]) [] Rl [] Tryz.func65 rfl (by kernel_rfl) (HP.ofHas hR) ?_
 refine Cfg.reg rfl [0,1] [] (Γ' := [(0,[],.slice la l.length ca),(1,[],.slice lb m.length cb)]) (nd := (fun _ => [])) (fun _ => by kernel_rfl) trivial ?_
 refine Cfg.reg rfl [0,1,10] [] (Γ' := [(10,[],.bool ((l.length : Int) != (m.length : Int))),(0,[],.slice la l.length ca),(1,[],.slice lb m.length cb)]) (nd := (fun _ => [])) (fun _ => by kernel_rfl) trivial ?_
 refine Cfg.cond rfl (b := ((l.length : Int) != (m.length : Int))) (by kernel_rfl) (fun c1r => ?_) (fun c1r => ?_)
 ·have c1 : ((l.length : Int) ≠ (m.length : Int)) := (bne_iff_ne.1 c1r)
  refine Cfg.reg rfl [4] [] (Γ' := [(4,[],.bool false)]) (nd := (fun _ => [])) (fun _ => by kernel_rfl) trivial ?_
  refine Cfg.ret rfl (rs := [.tmp 4]) rfl [.bool false] ⟨by kernel_rfl,trivial⟩ (fun w1 hp => ?_)
  exact ⟨by rw [list_ne_len (by omega)]; rfl,hp.ext⟩
 ·have c1 : ((l.length : Int) = (m.length : Int)) := (bne_eq_false_iff_eq.1 c1r)
  refine Cfg.reg rfl [0,1,12,13] [] (Γ' := [(13,[],.int .i64 0),(12,[],.int .i64 (l.length : Int)),(0,[],.slice la l.length ca),(1,[],.slice lb m.length cb)]) (nd := (fun _ => [])) (fun _ => by kernel_rfl) trivial ?_
  refine Cfg.loop rfl (ι := Nat) (fun (i : Nat) => [(13,[],.int .i64 (i : Int)),(12,[],.int .i64 (l.length : Int)),(0,[],.slice la l.length ca),(1,[],.slice lb m.length cb)]) (fun (i : Nat) => []) (fun (i : Nat) => (i ≤ l.length) ∧ (∀ j,j < i → l.getD j 0 = m.getD j 0)) (fun (i : Nat) => l.length - i) 0 ?_ (Conv.mk (by kernel_rfl)) .slnil ?_
  ·exact ⟨Nat.zero_le _,fun j h => absurd h (Nat.not_lt_zero j)⟩
  ·rintro i ⟨hi,hall⟩
   refine Cfg.reg rfl [0,1,12,13,14] [] (Γ' := [(14,[],.bool (decide ((i : Int) < (l.length : Int)))),(13,[],.int .i64 (i : Int)),(12,[],.int .i64 (l.length : Int)),(0,[],.slice la l.length ca),(1,[],.slice lb m.length cb)]) (nd := (fun _ => [])) (fun _ => by kernel_rfl) trivial ?_
   refine Cfg.cond rfl (b := (decide ((i : Int) < (l.length : Int)))) (by kernel_rfl) (fun c2r => ?_) (fun c2r => ?_)
   ·have c2 : ((i : Int) < (l.length : Int)) := (of_decide_eq_true c2r)
    refine Cfg.reg rfl [0,1,5,12,13] [] (Γ' := [(5,[],.int .i64 (i : Int)),(13,[],.int .i64 (i : Int)),(12,[],.int .i64 (l.length : Int)),(0,[],.slice la l.length ca),(1,[],.slice lb m.length cb)]) (nd := (fun _ => [])) (fun _ => by kernel_rfl) trivial ?_
    obtain ⟨sa,offa,csa,tea,frea,rfl,hma,hca⟩ := hI (by omega)
    obtain ⟨sb,offb,csb,teb,freb,rfl,hmb,hcb⟩ := hJ (by omega)
    refine Conv.cfg (Γ' := [(5,[],.int .i64 (i : Int)),(13,[],.int .i64 (i : Int)),(12,[],.int .i64 (l.length : Int)),(0,[],.slice (some ⟨sa,offa,none⟩) l.length ca),(1,[],.slice (some ⟨sb,offb,none⟩) m.length cb)]) (Conv.mk (by kernel_rfl)) ?_
    refine Cfg.regD rfl (by kernel_rfl) [0,1,12,13,24] [dZ,dZ,dZ,(0,false,some (.int .u32 ((l.getD i 0) : Int))),dZ,dZ,dZ,(0,false,some (.int .u32 ((m.getD i 0) : Int)))] (Γ' := [(24,[],.bool (((l.getD i 0) : Int) != ((m.getD i 0) : Int))),(13,[],.int .i64 (i : Int)),(12,[],.int .i64 (l.length : Int)),(0,[],.slice (some ⟨sa,offa,none⟩) l.length ca),(1,[],.slice (some ⟨sb,offb,none⟩) m.length cb)]) (nd := (fun S => [(0 ≤ (i : Int) ∧ (i : Int) < (l.length : Int)),(∀ w1,S w1 → w1.cell? ⟨sa,(addO offa i),none⟩ = some (.int .u32 ((l.getD i 0) : Int))),(0 ≤ (i : Int) ∧ (i : Int) < (m.length : Int)),(∀ w1,S w1 → w1.cell? ⟨sb,(addO offb i),none⟩ = some (.int .u32 ((m.getD i 0) : Int)))])) (by kernel_rfl) (by kernel_rfl) (fun _ => by kernel_rfl) ⟨(by omega),(fun w1 h => by rw [addO_eq]; exact (cell_cells (h.ro _ hma)).trans (fl_one (g := fun n : Nat => .int .u32 (n : Int)) 0 hca (by omega))),(by omega),(fun w1 h => by rw [addO_eq]; exact (cell_cells (h.ro _ hmb)).trans (fl_one (g := fun n : Nat => .int .u32 (n : Int)) 0 hcb (by omega))),trivial⟩ ?_
    refine Cfg.cond rfl (b := (((l.getD i 0) : Int) != ((m.getD i 0) : Int))) (by kernel_rfl) (fun c3r => ?_) (fun c3r => ?_)
    ·have c3 : (((l.getD i 0) : Int) ≠ ((m.getD i 0) : Int)) := (bne_iff_ne.1 c3r)
     refine Cfg.reg rfl [4] [] (Γ' := [(4,[],.bool false)]) (nd := (fun _ => [])) (fun _ => by kernel_rfl) trivial ?_
     refine Cfg.ret rfl (rs := [.tmp 4]) rfl [.bool false] ⟨by kernel_rfl,trivial⟩ (fun w1 hp => ?_)
     exact ⟨by rw [list_ne_at 0 (i := i) (by omega)]; rfl,hp.ext⟩
    ·have c3 : (((l.getD i 0) : Int) = ((m.getD i 0) : Int)) := (bne_eq_false_iff_eq.1 c3r)
     refine Cfg.reg rfl [0,1,12,13] [] (Γ' := [(13,[],.int .i64 ((i : Int) + 1)),(12,[],.int .i64 (l.length : Int)),(0,[],.slice (some ⟨sa,offa,none⟩) l.length ca),(1,[],.slice (some ⟨sb,offb,none⟩) m.length cb)]) (nd := (fun _ => [((-9223372036854775808 : Int) ≤ ((i : Int) + 1) ∧ ((i : Int) + 1) ≤ 9223372036854775807)])) (fun _ => by kernel_rfl) ⟨(by omega),trivial⟩ ?_
     refine Cfg.again rfl (i + 1) ⟨by omega,fun j hj => by rcases Nat.lt_or_ge j i with h1 | h1; exact hall j h1; rw [show j = i by omega]; omega⟩ (by omega) (Conv.mk (by kernel_rfl)) .slnil
   ·have c2 : (¬ ((i : Int) < (l.length : Int))) := (of_decide_eq_false c2r)
    refine Cfg.reg rfl [4] [] (Γ' := [(4,[],.bool true)]) (nd := (fun _ => [])) (fun _ => by kernel_rfl) trivial ?_
    refine Cfg.ret rfl (rs := [.tmp 4]) rfl [.bool true] ⟨by kernel_rfl,trivial⟩ (fun w1 hp => ?_)
    exact ⟨by rw [list_eq_at 0 (by omega) (fun j hj => hall j (by omega))]; rfl,hp.ext⟩
set_option maxRecDepth 100000 in
set_option maxHeartbeats 4000000 in
theorem r9Same (m n : MM) (Rl : List (Nat × Obj)) (w : World) (hM : InM Rl m) (hN : InM Rl n) (hR : Has w Rl) :
  Calls Tryz.prog 64 #[.agg (gc m).toArray,.agg (gc n).toArray] w fun e w' => e = .returned (.bool (decide (m.vs = n.vs) && decide (m.es = n.es))) ∧ Ext [] w w' := by
 have hmn := hM.n
 have hnn := hN.n
 refine enter (vs := [.agg (gc m).toArray,.agg (gc n).toArray]) [] Rl [] Tryz.func64 rfl (by kernel_rfl) (HP.ofHas hR) ?_
 refine Cfg.begL rfl ?_
 refine CfgL.eff (o := _) rfl (by kernel_rfl) (by kernel_rfl) (Eff.box (v := .agg (gc m).toArray) rfl (by kernel_rfl)) ?_
 rintro ab ⟨hab,nab⟩
 refine CfgL.eff (o := _) rfl (by kernel_rfl) (by kernel_rfl) (Eff.box (v := .agg (gc n).toArray) rfl (by kernel_rfl)) ?_
 rintro bb ⟨hbb,nbb⟩
 refine CfgL.pure 1 [] (some [2,3]) (Γ' := [(3,[],.pointer (some ⟨bb,0,none⟩)),(2,[],.pointer (some ⟨ab,0,none⟩))]) (nd := (fun _ => [])) (by kernel_rfl) (fun _ => by kernel_rfl) trivial ?_
 refine CfgL.done rfl ?_
 refine Cfg.reg rfl [2,3,22] [dZ,(0,false,some (.slice m.va m.vs.length m.vc)),dZ,dZ,(0,false,some (.slice n.va n.vs.length n.vc)),dZ,dZ,dZ,dZ,(0,false,some (.slice m.ea m.es.length m.ec)),dZ,dZ,(0,false,some (.slice n.ea n.es.length n.ec))] (Γ' := [(22,[],.bool (((m.vs.length : Int) != (n.vs.length : Int)) || ((m.es.length : Int) != (n.es.length : Int)))),(3,[],.pointer (some ⟨bb,0,none⟩)),(2,[],.pointer (some ⟨ab,0,none⟩))]) (nd := (fun S => [(∀ w1,S w1 → w1.cell? ⟨ab,0,none⟩ = some (.slice m.va m.vs.length m.vc)),(∀ w1,S w1 → w1.cell? ⟨bb,0,none⟩ = some (.slice n.va n.vs.length n.vc)),((.bool ((m.vs.length : Int) != (n.vs.length : Int)) : Value) = .bool false → (∀ w1,S w1 → w1.cell? ⟨ab,1,none⟩ = some (.slice m.ea m.es.length m.ec))),((.bool ((m.vs.length : Int) != (n.vs.length : Int)) : Value) = .bool false → (∀ w1,S w1 → w1.cell? ⟨bb,1,none⟩ = some (.slice n.ea n.es.length n.ec)))])) (fun _ => by kernel_rfl) ⟨(fun w1 h => h.ocell 1 rfl (by rw [List.getElem?_toArray]; exact rfl)),(fun w1 h => h.ocell 0 rfl (by rw [List.getElem?_toArray]; exact rfl)),(fun g0 => have q0 : ((m.vs.length : Int) = (n.vs.length : Int)) := (bne_eq_false_iff_eq.1 (boolV g0)); (fun w1 h => h.ocell 1 rfl (by rw [List.getElem?_toArray]; exact rfl))),(fun g0 => have q0 : ((m.vs.length : Int) = (n.vs.length : Int)) := (bne_eq_false_iff_eq.1 (boolV g0)); (fun w1 h => h.ocell 0 rfl (by rw [List.getElem?_toArray]; exact rfl))),trivial⟩ ?_
 refine Cfg.cond rfl (b := (((m.vs.length : Int) != (n.vs.length : Int)) || ((m.es.length : Int) != (n.es.length : Int)))) (by kernel_rfl) (fun c1r => ?_) (fun c1r => ?_)
 ·have c1 : (((m.vs.length : Int) ≠ (n.vs.length : Int)) ∨ ((m.es.length : Int) ≠ (n.es.length : Int))) := ((orT c1r).elim (fun h => Or.inl (bne_iff_ne.1 h)) (fun h => Or.inr (bne_iff_ne.1 h)))
  refine Cfg.reg rfl [4] [] (Γ' := [(4,[],.bool false)]) (nd := (fun _ => [])) (fun _ => by kernel_rfl) trivial ?_
  refine Cfg.ret rfl (rs := [.tmp 4]) rfl [.bool false] ⟨by kernel_rfl,trivial⟩ (fun w1 hp => ?_)
  have hx : (decide (m.vs = n.vs) && decide (m.es = n.es)) = false := by
   rcases c1 with h1 | h1
   ·rw [list_ne_len (by omega),Bool.false_and]
   ·rw [list_ne_len (l := m.es) (by omega),Bool.and_false]
  exact ⟨by rw [hx]; rfl,hp.ext⟩
 ·have c1 : (((m.vs.length : Int) = (n.vs.length : Int)) ∧ ((m.es.length : Int) = (n.es.length : Int))) := ⟨(bne_eq_false_iff_eq.1 (orF1 c1r)),(bne_eq_false_iff_eq.1 (orF2 c1r))⟩
  refine Cfg.reg rfl [2,3,25,26] [dZ,(0,false,some (.slice m.va m.vs.length m.vc))] (Γ' := [(26,[],.int .i64 0),(25,[],.int .i64 (m.vs.length : Int)),(3,[],.pointer (some ⟨bb,0,none⟩)),(2,[],.pointer (some ⟨ab,0,none⟩))]) (nd := (fun S => [(∀ w1,S w1 → w1.cell? ⟨ab,0,none⟩ = some (.slice m.va m.vs.length m.vc))])) (fun _ => by kernel_rfl) ⟨(fun w1 h => h.ocell 1 rfl (by rw [List.getElem?_toArray]; exact rfl)),trivial⟩ ?_
  refine Cfg.loop rfl (ι := Nat) (fun (i : Nat) => [(26,[],.int .i64 (i : Int)),(25,[],.int .i64 (m.vs.length : Int)),(3,[],.pointer (some ⟨bb,0,none⟩)),(2,[],.pointer (some ⟨ab,0,none⟩))]) (fun (i : Nat) => [(bb,.cells ((gc n).toArray) 25 (0,0)),(ab,.cells ((gc m).toArray) 25 (0,0))]) (fun (i : Nat) => (i ≤ m.vs.length) ∧ (∀ j,j < i → m.vs.getD j 0 = n.vs.getD j 0)) (fun (i : Nat) => m.vs.length - i) 0 ?_ (Conv.mk (by kernel_rfl)) (.cons_cons _ (.cons_cons _ .slnil)) ?_
  ·exact ⟨Nat.zero_le _,fun j h => absurd h (Nat.not_lt_zero j)⟩
  ·rintro i ⟨hi,hall1⟩
   refine Cfg.reg rfl [2,3,25,26,27] [] (Γ' := [(27,[],.bool (decide ((i : Int) < (m.vs.length : Int)))),(26,[],.int .i64 (i : Int)),(25,[],.int .i64 (m.vs.length : Int)),(3,[],.pointer (some ⟨bb,0,none⟩)),(2,[],.pointer (some ⟨ab,0,none⟩))]) (nd := (fun _ => [])) (fun _ => by kernel_rfl) trivial ?_
   refine Cfg.cond rfl (b := (decide ((i : Int) < (m.vs.length : Int)))) (by kernel_rfl) (fun c2r => ?_) (fun c2r => ?_)
   ·have c2 : ((i : Int) < (m.vs.length : Int)) := (of_decide_eq_true c2r)
    refine Cfg.reg rfl [2,3,5,25,26] [] (Γ' := [(5,[],.int .i64 (i : Int)),(26,[],.int .i64 (i : Int)),(25,[],.int .i64 (m.vs.length : Int)),(3,[],.pointer (some ⟨bb,0,none⟩)),(2,[],.pointer (some ⟨ab,0,none⟩))]) (nd := (fun _ => [])) (fun _ => by kernel_rfl) trivial ?_
    obtain ⟨sa,offa,csa,tea,frea,hva,hma,hca⟩ := hM.v (by omega)
    obtain ⟨sb,offb,csb,teb,freb,hvb,hmb,hcb⟩ := hN.v (by omega)
    refine Cfg.regD rfl (by kernel_rfl) [2,3,25,26,39] [dZ,(0,false,some (.slice (some ⟨sa,offa,none⟩) m.vs.length m.vc)),dZ,dZ,(0,false,some (.int .u32 ((m.vs.getD i 0) : Int))),dZ,(0,false,some (.slice (some ⟨sb,offb,none⟩) n.vs.length n.vc)),dZ,dZ,(0,false,some (.int .u32 ((n.vs.getD i 0) : Int)))] (Γ' := [(39,[],.bool (((m.vs.getD i 0) : Int) != ((n.vs.getD i 0) : Int))),(26,[],.int .i64 (i : Int)),(25,[],.int .i64 (m.vs.length : Int)),(3,[],.pointer (some ⟨bb,0,none⟩)),(2,[],.pointer (some ⟨ab,0,none⟩))]) (nd := (fun S => [(∀ w1,S w1 → w1.cell? ⟨ab,0,none⟩ = some (.slice (some ⟨sa,offa,none⟩) m.vs.length m.vc)),(0 ≤ (i : Int) ∧ (i : Int) < (m.vs.length : Int)),(∀ w1,S w1 → w1.cell? ⟨sa,(addO offa i),none⟩ = some (.int .u32 ((m.vs.getD i 0) : Int))),(∀ w1,S w1 → w1.cell? ⟨bb,0,none⟩ = some (.slice (some ⟨sb,offb,none⟩) n.vs.length n.vc)),(0 ≤ (i : Int) ∧ (i : Int) < (n.vs.length : Int)),(∀ w1,S w1 → w1.cell? ⟨sb,(addO offb i),none⟩ = some (.int .u32 ((n.vs.getD i 0) : Int)))])) (by kernel_rfl) (by kernel_rfl) (fun _ => by kernel_rfl) ⟨(fun w1 h => h.ocell 1 rfl (by rw [List.getElem?_toArray]; rw [← hva]; exact rfl)),(by omega),(fun w1 h => by rw [addO_eq]; exact (cell_cells (h.ro _ hma)).trans (fl_one (g := fun n : Nat => .int .u32 (n : Int)) 0 hca (by omega))),(fun w1 h => h.ocell 0 rfl (by rw [List.getElem?_toArray]; rw [← hvb]; exact rfl)),(by omega),(fun w1 h => by rw [addO_eq]; exact (cell_cells (h.ro _ hmb)).trans (fl_one (g := fun n : Nat => .int .u32 (n : Int)) 0 hcb (by omega))),trivial⟩ ?_
    refine Cfg.cond rfl (b := (((m.vs.getD i 0) : Int) != ((n.vs.getD i 0) : Int))) (by kernel_rfl) (fun c3r => ?_) (fun c3r => ?_)
    ·have c3 : (((m.vs.getD i 0) : Int) ≠ ((n.vs.getD i 0) : Int)) := (bne_iff_ne.1 c3r)
     refine Cfg.reg rfl [4] [] (Γ' := [(4,[],.bool false)]) (nd := (fun _ => [])) (fun _ => by kernel_rfl) trivial ?_
     refine Cfg.ret rfl (rs := [.tmp 4]) rfl [.bool false] ⟨by kernel_rfl,trivial⟩ (fun w1 hp => ?_)
     exact ⟨by rw [list_ne_at (l := m.vs) 0 (i := i) (by omega),Bool.false_and]; rfl,hp.ext⟩
    ·have c3 : (((m.vs.getD i 0) : Int) = ((n.vs.getD i 0) : Int)) := (bne_eq_false_iff_eq.1 c3r)
     refine Cfg.reg rfl [2,3,25,26] [] (Γ' := [(26,[],.int .i64 ((i : Int) + 1)),(25,[],.int .i64 (m.vs.length : Int)),(3,[],.pointer (some ⟨bb,0,none⟩)),(2,[],.pointer (some ⟨ab,0,none⟩))]) (nd := (fun _ => [((-9223372036854775808 : Int) ≤ ((i : Int) + 1) ∧ ((i : Int) + 1) ≤ 9223372036854775807)])) (fun _ => by kernel_rfl) ⟨(by omega),trivial⟩ ?_
     refine Cfg.again rfl (i + 1) ⟨by omega,fun j hj => by rcases Nat.lt_or_ge j i with h1 | h1; exact hall1 j h1; rw [show j = i by omega]; omega⟩ (by omega) (Conv.mk (by kernel_rfl)) (.cons_cons _ (.cons_cons _ .slnil))
   ·have c2 : (¬ ((i : Int) < (m.vs.length : Int))) := (of_decide_eq_false c2r)
    have hve : decide (m.vs = n.vs) = true := list_eq_at 0 (by omega) (fun j hj => hall1 j (by omega))
    refine Cfg.reg rfl [2,3,43,44] [dZ,(0,false,some (.slice m.ea m.es.length m.ec))] (Γ' := [(44,[],.int .i64 0),(43,[],.int .i64 (m.es.length : Int)),(3,[],.pointer (some ⟨bb,0,none⟩)),(2,[],.pointer (some ⟨ab,0,none⟩))]) (nd := (fun S => [(∀ w1,S w1 → w1.cell? ⟨ab,1,none⟩ = some (.slice m.ea m.es.length m.ec))])) (fun _ => by kernel_rfl) ⟨(fun w1 h => h.ocell 1 rfl (by rw [List.getElem?_toArray]; exact rfl)),trivial⟩ ?_
    refine Cfg.loop rfl (ι := Nat) (fun (i : Nat) => [(44,[],.int .i64 (i : Int)),(43,[],.int .i64 (m.es.length : Int)),(3,[],.pointer (some ⟨bb,0,none⟩)),(2,[],.pointer (some ⟨ab,0,none⟩))]) (fun (i : Nat) => [(bb,.cells ((gc n).toArray) 25 (0,0)),(ab,.cells ((gc m).toArray) 25 (0,0))]) (fun (i : Nat) => (i ≤ m.es.length) ∧ (∀ j,j < i → m.es.getD j ez = n.es.getD j ez)) (fun (i : Nat) => m.es.length - i) 0 ?_ (Conv.mk (by kernel_rfl)) (.cons_cons _ (.cons_cons _ .slnil)) ?_
    ·exact ⟨Nat.zero_le _,fun j h => absurd h (Nat.not_lt_zero j)⟩
    ·rintro i ⟨hi,hall2⟩
     refine Cfg.reg rfl [2,3,43,44,45] [] (Γ' := [(45,[],.bool (decide ((i : Int) < (m.es.length : Int)))),(44,[],.int .i64 (i : Int)),(43,[],.int .i64 (m.es.length : Int)),(3,[],.pointer (some ⟨bb,0,none⟩)),(2,[],.pointer (some ⟨ab,0,none⟩))]) (nd := (fun _ => [])) (fun _ => by kernel_rfl) trivial ?_
     refine Cfg.cond rfl (b := (decide ((i : Int) < (m.es.length : Int)))) (by kernel_rfl) (fun c4r => ?_) (fun c4r => ?_)
     ·have c4 : ((i : Int) < (m.es.length : Int)) := (of_decide_eq_true c4r)
      refine Cfg.reg rfl [2,3,6,43,44] [] (Γ' := [(6,[],.int .i64 (i : Int)),(44,[],.int .i64 (i : Int)),(43,[],.int .i64 (m.es.length : Int)),(3,[],.pointer (some ⟨bb,0,none⟩)),(2,[],.pointer (some ⟨ab,0,none⟩))]) (nd := (fun _ => [])) (fun _ => by kernel_rfl) trivial ?_
      obtain ⟨sa,offa,csa,tea,frea,hva,hma,hca⟩ := hM.e (by omega)
      obtain ⟨sb,offb,csb,teb,freb,hvb,hmb,hcb⟩ := hN.e (by omega)
      refine Cfg.regD rfl (by kernel_rfl) [2,3,43,44,57] [dZ,(0,false,some (.slice (some ⟨sa,offa,none⟩) m.es.length m.ec)),dZ,dZ,(0,false,some (.agg (edc (m.es.getD i ez)).toArray)),dZ,(0,false,some (.slice (some ⟨sb,offb,none⟩) n.es.length n.ec)),dZ,dZ,(0,false,some (.agg (edc (n.es.getD i ez)).toArray)),(0,false,some (.bool (decide (m.es.getD i ez = n.es.getD i ez))))] (Γ' := [(57,[],.bool (!(decide (m.es.getD i ez = n.es.getD i ez)))),(44,[],.int .i64 (i : Int)),(43,[],.int .i64 (m.es.length : Int)),(3,[],.pointer (some ⟨bb,0,none⟩)),(2,[],.pointer (some ⟨ab,0,none⟩))]) (nd := (fun S => [(∀ w1,S w1 → w1.cell? ⟨ab,1,none⟩ = some (.slice (some ⟨sa,offa,none⟩) m.es.length m.ec)),(0 ≤ (i : Int) ∧ (i : Int) < (m.es.length : Int)),(∀ w1,S w1 → (loadVar 81 ⟨sa,(addO offa (i * 3)),none⟩).run Tryz.prog w1 = .ok (.agg (edc (m.es.getD i ez)).toArray) w1),(∀ w1,S w1 → w1.cell? ⟨bb,1,none⟩ = some (.slice (some ⟨sb,offb,none⟩) n.es.length n.ec)),(0 ≤ (i : Int) ∧ (i : Int) < (n.es.length : Int)),(∀ w1,S w1 → (loadVar 81 ⟨sb,(addO offb (i * 3)),none⟩).run Tryz.prog w1 = .ok (.agg (edc (n.es.getD i ez)).toArray) w1),(∀ w1,S w1 → (Op.equal 81 (.agg (edc (m.es.getD i ez)).toArray) (.agg (edc (n.es.getD i ez)).toArray)).run Tryz.prog w1 = .ok (decide (m.es.getD i ez = n.es.getD i ez)) w1)])) (by kernel_rfl) (by kernel_rfl) (fun _ => by kernel_rfl) ⟨(fun w1 h => h.ocell 1 rfl (by rw [List.getElem?_toArray]; rw [← hva]; exact rfl)),(by omega),(fun w1 h => load_list Tryz.underlying81 rfl (by kernel_rfl) (edc_len _) (fun j v hj => by rw [addO_eq]; exact (cell_cells (h.ro _ hma)).trans (fl_cell ez (fun x _ => edc_len x) hca (by omega) hj))),(fun w1 h => h.ocell 0 rfl (by rw [List.getElem?_toArray]; rw [← hvb]; exact rfl)),(by omega),(fun w1 h => load_list Tryz.underlying81 rfl (by kernel_rfl) (edc_len _) (fun j v hj => by rw [addO_eq]; exact (cell_cells (h.ro _ hmb)).trans (fl_cell ez (fun x _ => edc_len x) hcb (by omega) hj))),(fun w1 _ => ed_equal _ _ w1),trivial⟩ ?_
      refine Cfg.cond rfl (b := (!(decide (m.es.getD i ez = n.es.getD i ez)))) (by kernel_rfl) (fun c5r => ?_) (fun c5r => ?_)
      ·have c5 : ((decide (m.es.getD i ez = n.es.getD i ez)) = false) := (notT c5r)
       refine Cfg.reg rfl [4] [] (Γ' := [(4,[],.bool false)]) (nd := (fun _ => [])) (fun _ => by kernel_rfl) trivial ?_
       refine Cfg.ret rfl (rs := [.tmp 4]) rfl [.bool false] ⟨by kernel_rfl,trivial⟩ (fun w1 hp => ?_)
       exact ⟨by rw [list_ne_at (l := m.es) ez (i := i) (of_decide_eq_false c5),Bool.and_false]; rfl,hp.ext⟩
      ·have c5 : ((decide (m.es.getD i ez = n.es.getD i ez)) = true) := (notF c5r)
       refine Cfg.reg rfl [2,3,43,44] [] (Γ' := [(44,[],.int .i64 ((i : Int) + 1)),(43,[],.int .i64 (m.es.length : Int)),(3,[],.pointer (some ⟨bb,0,none⟩)),(2,[],.pointer (some ⟨ab,0,none⟩))]) (nd := (fun _ => [((-9223372036854775808 : Int) ≤ ((i : Int) + 1) ∧ ((i : Int) + 1) ≤ 9223372036854775807)])) (fun _ => by kernel_rfl) ⟨(by omega),trivial⟩ ?_
       refine Cfg.again rfl (i + 1) ⟨by omega,fun j hj => by rcases Nat.lt_or_ge j i with h1 | h1; exact hall2 j h1; rw [show j = i by omega]; exact of_decide_eq_true c5⟩ (by omega) (Conv.mk (by kernel_rfl)) (.cons_cons _ (.cons_cons _ .slnil))
     ·have c4 : (¬ ((i : Int) < (m.es.length : Int))) := (of_decide_eq_false c4r)
      refine Cfg.reg rfl [4] [] (Γ' := [(4,[],.bool true)]) (nd := (fun _ => [])) (fun _ => by kernel_rfl) trivial ?_
      refine Cfg.ret rfl (rs := [.tmp 4]) rfl [.bool true] ⟨by kernel_rfl,trivial⟩ (fun w1 hp => ?_)
      exact ⟨by rw [hve,list_eq_at ez (by omega) (fun j hj => hall2 j (by omega))]; rfl,hp.ext⟩
set_option maxRecDepth 100000 in
set_option maxHeartbeats 4000000 in
theorem r10Same (m n : MM) (Rl : List (Nat × Obj)) (w : World) (hM : InM Rl m) (hN : InM Rl n) (hR : Has w Rl) :
  Calls Tryz.prog 22 #[.agg (mc m).toArray,.agg (mc n).toArray] w fun e w' => e = .returned (.bool (msame m n)) ∧ Ext [] w w' := by
 have hmn := hM.n
 have hnn := hN.n
 refine enter (vs := [.agg (mc m).toArray,.agg (mc n).toArray]) [] Rl [] Tryz.func22 rfl (by kernel_rfl) (HP.ofHas hR) ?_
 refine Cfg.begL rfl ?_
 refine CfgL.eff (o := _) rfl (by kernel_rfl) (by kernel_rfl) (Eff.box (v := .agg (mc m).toArray) rfl (by kernel_rfl)) ?_
 rintro ab ⟨hab,nab⟩
 refine CfgL.eff (o := _) rfl (by kernel_rfl) (by kernel_rfl) (Eff.box (v := .agg (mc n).toArray) rfl (by kernel_rfl)) ?_
 rintro bb ⟨hbb,nbb⟩
 refine CfgL.pure 1 [] (some [2,3]) (Γ' := [(3,[],.pointer (some ⟨bb,0,none⟩)),(2,[],.pointer (some ⟨ab,0,none⟩))]) (nd := (fun _ => [])) (by kernel_rfl) (fun _ => by kernel_rfl) trivial ?_
 refine CfgL.done rfl ?_
 refine Cfg.begL rfl ?_
 refine CfgL.pure 4 [dZ,(0,false,some (.agg (gc m).toArray)),dZ,(0,false,some (.agg (gc n).toArray))] (some [2,3,7,9]) (Γ' := [(9,[],.agg (gc n).toArray),(7,[],.agg (gc m).toArray),(3,[],.pointer (some ⟨bb,0,none⟩)),(2,[],.pointer (some ⟨ab,0,none⟩))]) (nd := (fun S => [(∀ w1,S w1 → (loadVar 25 ⟨ab,0,none⟩).run Tryz.prog w1 = .ok (.agg (gc m).toArray) w1),(∀ w1,S w1 → (loadVar 25 ⟨bb,0,none⟩).run Tryz.prog w1 = .ok (.agg (gc n).toArray) w1)])) (by kernel_rfl) (fun _ => by kernel_rfl) ⟨(fun w1 h => load_list Tryz.underlying25 rfl (by kernel_rfl) rfl (fun j v hj => h.ocell 1 rfl (by rw [List.getElem?_toArray]; exact (fun j v hj => gc_mc hj) j v hj))),(fun w1 h => load_list Tryz.underlying25 rfl (by kernel_rfl) rfl (fun j v hj => h.ocell 0 rfl (by rw [List.getElem?_toArray]; exact (fun j v hj => gc_mc hj) j v hj))),trivial⟩ ?_
 refine CfgL.eff (o := _) rfl (by kernel_rfl) (by kernel_rfl) (Eff.callA (vs := [.agg (gc m).toArray,.agg (gc n).toArray]) (.bool (decide (m.vs = n.vs) && decide (m.es = n.es))) rfl Tryz.func64 rfl rfl (by kernel_rfl) (fun w1 h => r9Same m n Rl w1 hM hN (h.hasR (fun e he => he)))) ?_
 rintro ⟨⟩ -
 refine CfgL.pure 10 [dZ,dZ,dZ,(0,false,some (.slice m.ra m.rs.length m.rc)),dZ,dZ,(0,false,some (.slice n.ra n.rs.length n.rc))] (some [2,3,20]) (Γ' := [(20,[],.bool ((!(decide (m.vs = n.vs) && decide (m.es = n.es))) || ((m.rs.length : Int) != (n.rs.length : Int)))),(3,[],.pointer (some ⟨bb,0,none⟩)),(2,[],.pointer (some ⟨ab,0,none⟩))]) (nd := (fun S => [((.bool (!(decide (m.vs = n.vs) && decide (m.es = n.es))) : Value) = .bool false → (∀ w1,S w1 → w1.cell? ⟨ab,2,none⟩ = some (.slice m.ra m.rs.length m.rc))),((.bool (!(decide (m.vs = n.vs) && decide (m.es = n.es))) : Value) = .bool false → (∀ w1,S w1 → w1.cell? ⟨bb,2,none⟩ = some (.slice n.ra n.rs.length n.rc)))])) (by kernel_rfl) (fun _ => by kernel_rfl) ⟨(fun g0 => have q0 : ((decide (m.vs = n.vs) && decide (m.es = n.es)) = true) := (notF (boolV g0)); (fun w1 h => h.ocell 1 rfl (by rw [List.getElem?_toArray]; exact rfl))),(fun g0 => have q0 : ((decide (m.vs = n.vs) && decide (m.es = n.es)) = true) := (notF (boolV g0)); (fun w1 h => h.ocell 0 rfl (by rw [List.getElem?_toArray]; exact rfl))),trivial⟩ ?_
 refine CfgL.done rfl ?_
 refine Cfg.cond rfl (b := ((!(decide (m.vs = n.vs) && decide (m.es = n.es))) || ((m.rs.length : Int) != (n.rs.length : Int)))) (by kernel_rfl) (fun c1r => ?_) (fun c1r => ?_)
 ·have c1 : (((decide (m.vs = n.vs) && decide (m.es = n.es)) = false) ∨ ((m.rs.length : Int) ≠ (n.rs.length : Int))) := ((orT c1r).elim (fun h => Or.inl (notT h)) (fun h => Or.inr (bne_iff_ne.1 h)))
  refine Cfg.reg rfl [4] [] (Γ' := [(4,[],.bool false)]) (nd := (fun _ => [])) (fun _ => by kernel_rfl) trivial ?_
  refine Cfg.ret rfl (rs := [.tmp 4]) rfl [.bool false] ⟨by kernel_rfl,trivial⟩ (fun w1 hp => ?_)
  have hx : msame m n = false := by
   unfold msame
   rcases c1 with h1 | h1
   ·have h2 : (decide (m.vs = n.vs) && decide (m.es = n.es)) = false := by simpa using h1
    rw [h2,Bool.false_and]
   ·rw [list_ne_len (l := m.rs.map RowU.xs) (by rw [List.length_map,List.length_map]; omega),Bool.and_false]
  exact ⟨by rw [hx]; rfl,hp.ext⟩
 ·have c1 : (((decide (m.vs = n.vs) && decide (m.es = n.es)) = true) ∧ ((m.rs.length : Int) = (n.rs.length : Int))) := ⟨(notF (orF1 c1r)),(bne_eq_false_iff_eq.1 (orF2 c1r))⟩
  refine Cfg.reg rfl [2,3,23,24] [dZ,(0,false,some (.slice m.ra m.rs.length m.rc))] (Γ' := [(24,[],.int .i64 0),(23,[],.int .i64 (m.rs.length : Int)),(3,[],.pointer (some ⟨bb,0,none⟩)),(2,[],.pointer (some ⟨ab,0,none⟩))]) (nd := (fun S => [(∀ w1,S w1 → w1.cell? ⟨ab,2,none⟩ = some (.slice m.ra m.rs.length m.rc))])) (fun _ => by kernel_rfl) ⟨(fun w1 h => h.ocell 1 rfl (by rw [List.getElem?_toArray]; exact rfl)),trivial⟩ ?_
  refine Cfg.loop rfl (ι := Nat) (fun (i : Nat) => [(24,[],.int .i64 (i : Int)),(23,[],.int .i64 (m.rs.length : Int)),(3,[],.pointer (some ⟨bb,0,none⟩)),(2,[],.pointer (some ⟨ab,0,none⟩))]) (fun (i : Nat) => [(bb,.cells ((mc n).toArray) 28 (0,0)),(ab,.cells ((mc m).toArray) 28 (0,0))]) (fun (i : Nat) => (i ≤ m.rs.length) ∧ (∀ j,j < i → (m.rs.getD j rwz).xs = (n.rs.getD j rwz).xs)) (fun (i : Nat) => m.rs.length - i) 0 ?_ (Conv.mk (by kernel_rfl)) (.cons_cons _ (.cons_cons _ .slnil)) ?_
  ·exact ⟨Nat.zero_le _,fun j h => absurd h (Nat.not_lt_zero j)⟩
  ·rintro i ⟨hi,hall⟩
   refine Cfg.reg rfl [2,3,23,24,25] [] (Γ' := [(25,[],.bool (decide ((i : Int) < (m.rs.length : Int)))),(24,[],.int .i64 (i : Int)),(23,[],.int .i64 (m.rs.length : Int)),(3,[],.pointer (some ⟨bb,0,none⟩)),(2,[],.pointer (some ⟨ab,0,none⟩))]) (nd := (fun _ => [])) (fun _ => by kernel_rfl) trivial ?_
   refine Cfg.cond rfl (b := (decide ((i : Int) < (m.rs.length : Int)))) (by kernel_rfl) (fun c2r => ?_) (fun c2r => ?_)
   ·have c2 : ((i : Int) < (m.rs.length : Int)) := (of_decide_eq_true c2r)
    refine Cfg.reg rfl [2,3,5,23,24] [] (Γ' := [(5,[],.int .i64 (i : Int)),(24,[],.int .i64 (i : Int)),(23,[],.int .i64 (m.rs.length : Int)),(3,[],.pointer (some ⟨bb,0,none⟩)),(2,[],.pointer (some ⟨ab,0,none⟩))]) (nd := (fun _ => [])) (fun _ => by kernel_rfl) trivial ?_
    obtain ⟨sa,offa,csa,tea,frea,hva,hma,hca⟩ := hM.r (by omega)
    obtain ⟨sb,offb,csb,teb,freb,hvb,hmb,hcb⟩ := hN.r (by omega)
    refine Cfg.begA rfl (by kernel_rfl) [(bb,.cells ((mc n).toArray) 28 (0,0)),(ab,.cells ((mc m).toArray) 28 (0,0))] ?_
    refine CfgA.pure [0,1,2,3,5,6,7,8] [dZ,(0,false,some (.slice (some ⟨sa,offa,none⟩) m.rs.length m.rc)),dZ,dZ,dZ,(0,false,some (.slice (some ⟨sb,offb,none⟩) n.rs.length n.rc))] (some [2,3,23,24,30,35]) (l' := #[true,true,true,true,false,true,true,true,true,false,false,false]) (by kernel_rfl) (by kernel_rfl) (.cons_cons _ (.cons_cons _ .slnil)) 4 rfl (Γ' := [(35,[],.pointer (some ⟨sb,(addO offb i),none⟩)),(30,[],.pointer (some ⟨sa,(addO offa i),none⟩)),(24,[],.int .i64 (i : Int)),(23,[],.int .i64 (m.rs.length : Int)),(3,[],.pointer (some ⟨bb,0,none⟩)),(2,[],.pointer (some ⟨ab,0,none⟩))]) (nd := (fun S => [(∀ w1,S w1 → w1.cell? ⟨ab,2,none⟩ = some (.slice (some ⟨sa,offa,none⟩) m.rs.length m.rc)),(0 ≤ (i : Int) ∧ (i : Int) < (m.rs.length : Int)),(∀ w1,S w1 → w1.cell? ⟨bb,2,none⟩ = some (.slice (some ⟨sb,offb,none⟩) n.rs.length n.rc)),(0 ≤ (i : Int) ∧ (i : Int) < (n.rs.length : Int))])) (fun _ => by kernel_rfl) ⟨(fun w1 h => h.ocell 1 rfl (by rw [List.getElem?_toArray]; rw [← hva]; exact rfl)),(by omega),(fun w1 h => h.ocell 0 rfl (by rw [List.getElem?_toArray]; rw [← hvb]; exact rfl)),(by omega),trivial⟩ ?_
    refine CfgA.two 4 9 (by kernel_rfl) (fuel' := 3) rfl ?_ ?_
    ·
     refine CfgI.eff (o := _) rfl (by kernel_rfl) (by kernel_rfl) (Eff.quiet (raw := false) (orc := some (.slice (m.rs.getD i rwz).a ((m.rs.getD i rwz).xs.length) ((m.rs.getD i rwz).c))) (v := .slice (m.rs.getD i rwz).a ((m.rs.getD i rwz).xs.length) ((m.rs.getD i rwz).c)) (nd := (fun S => [(∀ w1,S w1 → w1.cell? ⟨sa,(addO offa i),none⟩ = some (.slice (m.rs.getD i rwz).a ((m.rs.getD i rwz).xs.length) ((m.rs.getD i rwz).c)))])) (fun _ => by kernel_rfl) ⟨(fun w1 h => by rw [addO_eq]; exact (cell_cells (h.ro _ hma)).trans (fl_one (g := fun r : RowU => .slice r.a r.xs.length r.c) rwz hca (by omega))),trivial⟩ (by kernel_rfl)) (fun _ _ => (.cons_cons _ (.cons_cons _ .slnil))) ?_
     rintro ⟨⟩ -
     refine CfgA.eff 9 (o := _) rfl (by kernel_rfl) (fuel' := 2) rfl (by kernel_rfl) (by kernel_rfl) (Eff.quiet (raw := false) (orc := some (.slice (n.rs.getD i rwz).a ((n.rs.getD i rwz).xs.length) ((n.rs.getD i rwz).c))) (v := .slice (n.rs.getD i rwz).a ((n.rs.getD i rwz).xs.length) ((n.rs.getD i rwz).c)) (nd := (fun S => [(∀ w1,S w1 → w1.cell? ⟨sb,(addO offb i),none⟩ = some (.slice (n.rs.getD i rwz).a ((n.rs.getD i rwz).xs.length) ((n.rs.getD i rwz).c)))])) (fun _ => by kernel_rfl) ⟨(fun w1 h => by rw [addO_eq]; exact (cell_cells (h.ro _ hmb)).trans (fl_one (g := fun r : RowU => .slice r.a r.xs.length r.c) rwz hcb (by omega))),trivial⟩ (by kernel_rfl)) (fun _ _ => (.cons_cons _ (.cons_cons _ .slnil))) ?_
     rintro ⟨⟩ -
     refine CfgA.eff 10 (o := _) rfl (by kernel_rfl) (fuel' := 1) rfl (by kernel_rfl) (by kernel_rfl) (Eff.callA (vs := [.slice (m.rs.getD i rwz).a ((m.rs.getD i rwz).xs.length) ((m.rs.getD i rwz).c),.slice (n.rs.getD i rwz).a ((n.rs.getD i rwz).xs.length) ((n.rs.getD i rwz).c)]) (.bool (decide ((m.rs.getD i rwz).xs = (n.rs.getD i rwz).xs))) rfl Tryz.func65 rfl rfl (by kernel_rfl) (fun w1 h => r8u (m.rs.getD i rwz).a (n.rs.getD i rwz).a (m.rs.getD i rwz).c (n.rs.getD i rwz).c (m.rs.getD i rwz).xs (n.rs.getD i rwz).xs Rl w1 (hM.i _ (getD_mem (by omega))).1 (hN.i _ (getD_mem (by omega))).1 (h.hasR (fun e he => he)) (by have := (hM.i _ (getD_mem (z := rwz) (l := m.rs) (i := i) (by omega))).2; unfold maxLen; omega) (by have := (hN.i _ (getD_mem (z := rwz) (l := n.rs) (i := i) (by omega))).2; unfold maxLen; omega))) (fun _ _ => (.cons_cons _ (.cons_cons _ .slnil))) ?_
     rintro ⟨⟩ -
     refine CfgA.pure [11] [] (some [2,3,23,24,38]) (l' := tF 12 0) (by kernel_rfl) (by kernel_rfl) (.cons_cons _ (.cons_cons _ .slnil)) 0 rfl (Γ' := [(38,[],.bool (!(decide ((m.rs.getD i rwz).xs = (n.rs.getD i rwz).xs)))),(24,[],.int .i64 (i : Int)),(23,[],.int .i64 (m.rs.length : Int)),(3,[],.pointer (some ⟨bb,0,none⟩)),(2,[],.pointer (some ⟨ab,0,none⟩))]) (nd := (fun _ => [])) (fun _ => by kernel_rfl) trivial ?_
     refine CfgA.done (by kernel_rfl) ?_
     refine Cfg.cond rfl (b := (!(decide ((m.rs.getD i rwz).xs = (n.rs.getD i rwz).xs)))) (by kernel_rfl) (fun c3r => ?_) (fun c3r => ?_)
     ·have c3 : ((decide ((m.rs.getD i rwz).xs = (n.rs.getD i rwz).xs)) = false) := (notT c3r)
      refine Cfg.reg rfl [4] [] (Γ' := [(4,[],.bool false)]) (nd := (fun _ => [])) (fun _ => by kernel_rfl) trivial ?_
      refine Cfg.ret rfl (rs := [.tmp 4]) rfl [.bool false] ⟨by kernel_rfl,trivial⟩ (fun w1 hp => ?_)
      have hx : msame m n = false := by unfold msame; rw [rows_ne (i := i) (by omega) (by omega) (of_decide_eq_false (by simpa using c3)),Bool.and_false]
      exact ⟨by rw [hx]; rfl,hp.ext⟩
     ·have c3 : ((decide ((m.rs.getD i rwz).xs = (n.rs.getD i rwz).xs)) = true) := (notF c3r)
      refine Cfg.reg rfl [2,3,23,24] [] (Γ' := [(24,[],.int .i64 ((i : Int) + 1)),(23,[],.int .i64 (m.rs.length : Int)),(3,[],.pointer (some ⟨bb,0,none⟩)),(2,[],.pointer (some ⟨ab,0,none⟩))]) (nd := (fun _ => [((-9223372036854775808 : Int) ≤ ((i : Int) + 1) ∧ ((i : Int) + 1) ≤ 9223372036854775807)])) (fun _ => by kernel_rfl) ⟨(by omega),trivial⟩ ?_
      refine Cfg.again rfl (i + 1) ⟨by omega,fun j hj => by rcases Nat.lt_or_ge j i with h1 | h1; exact hall j h1; rw [show j = i by omega]; exact of_decide_eq_true (by simpa using c3)⟩ (by omega) (Conv.mk (by kernel_rfl)) (.cons_cons _ (.cons_cons _ .slnil))
    ·
     refine CfgI.eff (o := _) rfl (by kernel_rfl) (by kernel_rfl) (Eff.quiet (raw := false) (orc := some (.slice (n.rs.getD i rwz).a ((n.rs.getD i rwz).xs.length) ((n.rs.getD i rwz).c))) (v := .slice (n.rs.getD i rwz).a ((n.rs.getD i rwz).xs.length) ((n.rs.getD i rwz).c)) (nd := (fun S => [(∀ w1,S w1 → w1.cell? ⟨sb,(addO offb i),none⟩ = some (.slice (n.rs.getD i rwz).a ((n.rs.getD i rwz).xs.length) ((n.rs.getD i rwz).c)))])) (fun _ => by kernel_rfl) ⟨(fun w1 h => by rw [addO_eq]; exact (cell_cells (h.ro _ hmb)).trans (fl_one (g := fun r : RowU => .slice r.a r.xs.length r.c) rwz hcb (by omega))),trivial⟩ (by kernel_rfl)) (fun _ _ => (.cons_cons _ (.cons_cons _ .slnil))) ?_
     rintro ⟨⟩ -
     refine CfgA.eff 4 (o := _) rfl (by kernel_rfl) (fuel' := 2) rfl (by kernel_rfl) (by kernel_rfl) (Eff.quiet (raw := false) (orc := some (.slice (m.rs.getD i rwz).a ((m.rs.getD i rwz).xs.length) ((m.rs.getD i rwz).c))) (v := .slice (m.rs.getD i rwz).a ((m.rs.getD i rwz).xs.length) ((m.rs.getD i rwz).c)) (nd := (fun S => [(∀ w1,S w1 → w1.cell? ⟨sa,(addO offa i),none⟩ = some (.slice (m.rs.getD i rwz).a ((m.rs.getD i rwz).xs.length) ((m.rs.getD i rwz).c)))])) (fun _ => by kernel_rfl) ⟨(fun w1 h => by rw [addO_eq]; exact (cell_cells (h.ro _ hma)).trans (fl_one (g := fun r : RowU => .slice r.a r.xs.length r.c) rwz hca (by omega))),trivial⟩ (by kernel_rfl)) (fun _ _ => (.cons_cons _ (.cons_cons _ .slnil))) ?_
     rintro ⟨⟩ -
     refine CfgA.eff 10 (o := _) rfl (by kernel_rfl) (fuel' := 1) rfl (by kernel_rfl) (by kernel_rfl) (Eff.callA (vs := [.slice (m.rs.getD i rwz).a ((m.rs.getD i rwz).xs.length) ((m.rs.getD i rwz).c),.slice (n.rs.getD i rwz).a ((n.rs.getD i rwz).xs.length) ((n.rs.getD i rwz).c)]) (.bool (decide ((m.rs.getD i rwz).xs = (n.rs.getD i rwz).xs))) rfl Tryz.func65 rfl rfl (by kernel_rfl) (fun w1 h => r8u (m.rs.getD i rwz).a (n.rs.getD i rwz).a (m.rs.getD i rwz).c (n.rs.getD i rwz).c (m.rs.getD i rwz).xs (n.rs.getD i rwz).xs Rl w1 (hM.i _ (getD_mem (by omega))).1 (hN.i _ (getD_mem (by omega))).1 (h.hasR (fun e he => he)) (by have := (hM.i _ (getD_mem (z := rwz) (l := m.rs) (i := i) (by omega))).2; unfold maxLen; omega) (by have := (hN.i _ (getD_mem (z := rwz) (l := n.rs) (i := i) (by omega))).2; unfold maxLen; omega))) (fun _ _ => (.cons_cons _ (.cons_cons _ .slnil))) ?_
     rintro ⟨⟩ -
     refine CfgA.pure [11] [] (some [2,3,23,24,38]) (l' := tF 12 0) (by kernel_rfl) (by kernel_rfl) (.cons_cons _ (.cons_cons _ .slnil)) 0 rfl (Γ' := [(38,[],.bool (!(decide ((m.rs.getD i rwz).xs = (n.rs.getD i rwz).xs)))),(24,[],.int .i64 (i : Int)),(23,[],.int .i64 (m.rs.length : Int)),(3,[],.pointer (some ⟨bb,0,none⟩)),(2,[],.pointer (some ⟨ab,0,none⟩))]) (nd := (fun _ => [])) (fun _ => by kernel_rfl) trivial ?_
     refine CfgA.done (by kernel_rfl) ?_
     refine Cfg.cond rfl (b := (!(decide ((m.rs.getD i rwz).xs = (n.rs.getD i rwz).xs)))) (by kernel_rfl) (fun c4r => ?_) (fun c4r => ?_)
     ·have c4 : ((decide ((m.rs.getD i rwz).xs = (n.rs.getD i rwz).xs)) = false) := (notT c4r)
      refine Cfg.reg rfl [4] [] (Γ' := [(4,[],.bool false)]) (nd := (fun _ => [])) (fun _ => by kernel_rfl) trivial ?_
      refine Cfg.ret rfl (rs := [.tmp 4]) rfl [.bool false] ⟨by kernel_rfl,trivial⟩ (fun w1 hp => ?_)
      have hx : msame m n = false := by unfold msame; rw [rows_ne (i := i) (by omega) (by omega) (of_decide_eq_false (by simpa using c4)),Bool.and_false]
      exact ⟨by rw [hx]; rfl,hp.ext⟩
     ·have c4 : ((decide ((m.rs.getD i rwz).xs = (n.rs.getD i rwz).xs)) = true) := (notF c4r)
      refine Cfg.reg rfl [2,3,23,24] [] (Γ' := [(24,[],.int .i64 ((i : Int) + 1)),(23,[],.int .i64 (m.rs.length : Int)),(3,[],.pointer (some ⟨bb,0,none⟩)),(2,[],.pointer (some ⟨ab,0,none⟩))]) (nd := (fun _ => [((-9223372036854775808 : Int) ≤ ((i : Int) + 1) ∧ ((i : Int) + 1) ≤ 9223372036854775807)])) (fun _ => by kernel_rfl) ⟨(by omega),trivial⟩ ?_
      refine Cfg.again rfl (i + 1) ⟨by omega,fun j hj => by rcases Nat.lt_or_ge j i with h1 | h1; exact hall j h1; rw [show j = i by omega]; exact of_decide_eq_true (by simpa using c4)⟩ (by omega) (Conv.mk (by kernel_rfl)) (.cons_cons _ (.cons_cons _ .slnil))
   ·have c2 : (¬ ((i : Int) < (m.rs.length : Int))) := (of_decide_eq_false c2r)
    refine Cfg.reg rfl [4] [] (Γ' := [(4,[],.bool true)]) (nd := (fun _ => [])) (fun _ => by kernel_rfl) trivial ?_
    refine Cfg.ret rfl (rs := [.tmp 4]) rfl [.bool true] ⟨by kernel_rfl,trivial⟩ (fun w1 hp => ?_)
    have hz : (decide (m.vs = n.vs) && decide (m.es = n.es)) = true := by simpa using c1.1
    exact ⟨by unfold msame; rw [hz,rows_eq (by omega) (fun j hj => hall j (by omega))]; rfl,hp.ext⟩
end Go.Proofs.YtojefiolcedigaaGreatDoor
namespace Go.Proofs.YtojefiolcedigaaGreatDoor
namespace K
end K
end Go.Proofs.YtojefiolcedigaaGreatDoor
namespace Go.Proofs.YtojefiolcedigaaGreatDoor
namespace K
def AllI (C : Cx) (R Os O : List (Nat × Obj)) (Γ : Env) (ops : Array Oper) (fuel : Nat) (l : Array Bool) (ks : List KI) : List Nat → Prop
 | [] => True
 | i :: is => CfgI C R Os O Γ ops fuel l i ks ∧ AllI C R Os O Γ ops fuel l ks is
section
variable {C : Cx} {R O O' Os : List (Nat × Obj)} {Γ Γ' : Env} {ks : List KI} {ops : Array Oper} {fuel fuel' : Nat} {l l' : Array Bool}
theorem AllI.at : ∀ {is : List Nat},AllI C R Os O Γ ops fuel l ks is → ∀ k ∈ is,CfgI C R Os O Γ ops fuel l k ks
 | [],_,k,hk => by cases hk
 | i :: is,h,k,hk => by
  rcases List.mem_cons.1 hk with rfl | hk
  ·exact h.1
  ·exact h.2.at k hk
theorem CfgA.many (is : List Nat) (hr : Region.ready .any ops l = is) (hne : is ≠ []) (hf : fuel = fuel' + 1) (h : AllI C R Os O Γ ops fuel' l ks is) : CfgA C R Os O Γ ops fuel l ks := by
 subst hf
 intro a w hs hp
 exact wpAnyH_all hr hne (fun q hq => h.at q hq a w hs hp)
theorem CfgA.to (h : CfgA C R Os O' Γ' ops fuel' l' ks) (hl : l = l') (hf : fuel = fuel') (hp : O.Perm O') (hc : Conv Γ Γ') : CfgA C R Os O Γ ops fuel l ks := by
 subst hl; subst hf
 exact fun a w hs hw => h a w (hc.st hs) (hw.perm hp)
def optL {α β : Type} (o : Option α) (f : α → List β) : List β := match o with
 | none => []
 | some x => f x
def optP {α : Type} (o : Option α) (f : α → Prop) : Prop := match o with
 | none => True
 | some x => f x
def optN {α : Type} (o : Option α) : Nat := match o with
 | none => 0
 | some _ => 1
theorem lt4 {a b : Nat} (h : Nat.blt a b = true) : a < b := by rw [Nat.blt_eq] at h; exact h
theorem lt3 {a b x y : Nat} (h1 : a = x) (h2 : b = y) (h : x < y) : a < b := by subst h1; subst h2; exact h
theorem CfgA.fam {ι : Type} (Γi : ι → Env) (Oi : ι → List (Nat × Obj)) (li : ι → Array Bool) (fi : ι → Nat) (I : ι → Prop)
  (i0 : ι) (h0 : I i0) (hl : l = li i0) (hf : fuel = fi i0) (hO : O.Perm (Oi i0)) (hΓ : Conv Γ (Γi i0))
  (h : ∀ i,I i → (∀ j,I j → fi j < fi i → CfgA C R Os (Oi j) (Γi j) ops (fi j) (li j) ks) → CfgA C R Os (Oi i) (Γi i) ops (fi i) (li i) ks) : CfgA C R Os O Γ ops fuel l ks := by
 have key : ∀ (n : Nat) (i : ι),fi i ≤ n → I i → CfgA C R Os (Oi i) (Γi i) ops (fi i) (li i) ks := by
  intro n
  induction n with
  | zero => intro i hn hi; exact h i hi (fun j _ hlt => absurd hlt (by omega))
  | succ n ih => intro i hn hi; exact h i hi (fun j hj hlt => ih j (by omega) hj)
 exact (key (fi i0) i0 (Nat.le_refl _) h0).to hl hf hO hΓ
theorem CfgA.nx {ι : Type} {Γi : ι → Env} {Oi : ι → List (Nat × Obj)} {li : ι → Array Bool} {fi : ι → Nat} {I : ι → Prop} {i : ι} (IH : ∀ j,I j → fi j < fi i → CfgA C R Os (Oi j) (Γi j) ops (fi j) (li j) ks) (j : ι) (hj : I j) (hp : O.Perm (Oi j))
  (hlt : Nat.blt (fi j) (fi i) = true := by kernel_rfl) (hl : l = li j := by kernel_rfl) (hf : fuel = fi j := by kernel_rfl) (hc : ((Γi j).map fun e => find Γ e.1) = (Γi j).map fun e => some e.2 := by kernel_rfl) : CfgA C R Os O Γ ops fuel l ks :=
 (IH j hj (by rw [Nat.blt_eq] at hlt; exact hlt)).to hl hf hp (Conv.mk hc)
theorem pmid {a : Nat × Obj} {l₁ l₂ : List (Nat × Obj)} : (a :: (l₁ ++ l₂)).Perm (l₁ ++ a :: l₂) := List.perm_middle.symm
end
end K
end Go.Proofs.YtojefiolcedigaaGreatDoor
