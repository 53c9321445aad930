/- Texts on which the proof of this claim stands: Ob3, Tk3, ObB. -/
import Derived.Test.YtbeeelgfhfmgbaaGreatDoorP2
import Derived.Test.YtbeeelgfhfmgbaaGreatDoorP1
import Derived.Test.YtbeeelgfhfmgbaaGreatDoorP6
import Derived.Test.YtbeeelgfhfmgbaaGreatDoorP7
set_option maxRecDepth 100000
namespace Go.Proofs.YtbeeelgfhfmgbaaGreatDoor
open K
set_option linter.unusedVariables false
theorem list32 {d : List UInt8} (h : d.length = 32) : ∃ x0 x1 x2 x3 x4 x5 x6 x7 x8 x9 x10 x11 x12 x13 x14 x15 x16 x17 x18 x19 x20 x21 x22 x23 x24 x25 x26 x27 x28 x29 x30 x31,d = [x0,x1,x2,x3,x4,x5,x6,x7,x8,x9,x10,x11,x12,x13,x14,x15,x16,x17,x18,x19,x20,x21,x22,x23,x24,x25,x26,x27,x28,x29,x30,x31] := by
 match d,h with
 | [x0,x1,x2,x3,x4,x5,x6,x7,x8,x9,x10,x11,x12,x13,x14,x15,x16,x17,x18,x19,x20,x21,x22,x23,x24,x25,x26,x27,x28,x29,x30,x31],_ => exact ⟨x0,x1,x2,x3,x4,x5,x6,x7,x8,x9,x10,x11,x12,x13,x14,x15,x16,x17,x18,x19,x20,x21,x22,x23,x24,x25,x26,x27,x28,x29,x30,x31,rfl⟩
def cC (o : K.Own) (c : CM) : CM := { c with pa := Own.a o,pc := Own.c o }
def msame (a b : MM) : Bool := (decide (a.vs = b.vs) && decide (a.es = b.es)) && decide (a.rs.map RowU.xs = b.rs.map RowU.xs)
def csame (a b : CM) : Bool := (((a.d == b.d) && decide (a.ps = b.ps)) && ((a.n : Int) == (b.n : Int))) && (a.t.toList == b.t.toList)
def tsame (a b : TM) : Bool := (a.d == b.d) && (a.t.toList == b.t.toList)
def osame (a b : OM) : Bool :=
 if (a.k : Int) ≠ (b.k : Int) then false else if (a.k : Int) = 109 then msame a.m b.m else if (a.k : Int) = 99 then csame a.c b.c else if (a.k : Int) = 116 then tsame a.t b.t else true
theorem os_kind {a b : OM} (h : (a.k : Int) ≠ (b.k : Int)) : osame a b = false := if_pos h
theorem os_map {a b : OM} (h : (a.k : Int) = (b.k : Int)) (h2 : (a.k : Int) = 109) : osame a b = msame a.m b.m := (if_neg (fun e => e h)).trans (if_pos h2)
theorem os_com {a b : OM} (h : (a.k : Int) = (b.k : Int)) (h2 : (a.k : Int) ≠ 109) (h3 : (a.k : Int) = 99) : osame a b = csame a.c b.c := (if_neg (fun e => e h)).trans ((if_neg h2).trans (if_pos h3))
theorem os_tag {a b : OM} (h : (a.k : Int) = (b.k : Int)) (h2 : (a.k : Int) ≠ 109) (h3 : (a.k : Int) ≠ 99) (h4 : (a.k : Int) = 116) : osame a b = tsame a.t b.t := (if_neg (fun e => e h)).trans ((if_neg h2).trans ((if_neg h3).trans (if_pos h4)))
theorem os_else {a b : OM} (h : (a.k : Int) = (b.k : Int)) (h2 : (a.k : Int) ≠ 109) (h3 : (a.k : Int) ≠ 99) (h4 : (a.k : Int) ≠ 116) : osame a b = true := (if_neg (fun e => e h)).trans ((if_neg h2).trans ((if_neg h3).trans (if_neg h4)))
theorem tag_equal {a b : TM} (ha : a.d.length = 32) (hb : b.d.length = 32) (w : World) : (Op.equal 36 (.agg (tc a).toArray) (.agg (tc b).toArray)).run Tryz.prog w = .ok (tsame a b) w := by
 show (Op.equalIn (9999 + 1) 36 (.agg (tc a).toArray) (.agg (tc b).toArray)).run Tryz.prog w = _
 rw [run_equalIn_struct w 9999 36 _ _ kr kr]
 rw [show (Tryz.prog.fieldsOf 36).toList = [⟨ "At",30,0,false,"","",0⟩,⟨ "Text",9,32,false,"","",32⟩] by kernel_rfl]
 obtain ⟨inf,hi,hs⟩ := Option.map_eq_some_iff.1 (show (Tryz.prog.info? 30).map (·.size) = some 32 by kernel_rfl)
 have p1 : ∀ (r : TM),r.d.length = 32 → (part 30 (tc r).toArray 0).run Tryz.prog w = .ok (.agg (bv r.d)) w := fun r hr => by
  have e : (tc r).toArray.extract 0 (0 + 32) = bv r.d := by
   apply Array.ext'
   rw [Array.toList_extract]
   show List.extract (dgc r.d ++ [.string r.t]) 0 32 = _
   rw [List.extract_eq_take_drop,List.drop_zero,List.take_append_of_le_length (by rw [dgc_len hr]; decide),List.take_of_length_le (by rw [dgc_len hr]; decide)]
   rfl
  simp only [part,isAgg,Sem.run_bind,run_underlying' Tryz.underlying30,Result.andThen_ok,Sem.run_pure,if_true,run_sizeOf' hi,hs,e]
 have p2 : ∀ (r : TM),r.d.length = 32 → (part 9 (tc r).toArray 32).run Tryz.prog w = .ok (.string r.t) w := fun r hr => by
  have hg : (tc r).toArray[32]? = some (.string r.t) := by rw [List.getElem?_toArray]; exact tc_t hr
  simp only [part,isAgg,Sem.run_bind,run_underlying' Tryz.underlying9,Result.andThen_ok]
  simp [hg]
 have n1 : ¬ ("At" = "_") := by decide
 have n2 : ¬ ("Text" = "_") := by decide
 have q1 : (Op.equalIn 9999 30 (.agg (bv a.d)) (.agg (bv b.d))).run Tryz.prog w = .ok (a.d == b.d) w :=
  run_equalIn_bytes w 9997 30 5 32 Tryz.underlying30 Tryz.underlying5 (fun w => by obtain ⟨i2,h2,s2⟩ := Option.map_eq_some_iff.1 (show (Tryz.prog.info? 5).map (·.size) = some 1 by kernel_rfl); rw [run_sizeOf' h2,s2]) a.d b.d ha hb
 simp only [Op.eqFields,ne_eq,n1,n2,not_false_eq_true,if_true,Sem.run_bind]
 rw [p1 a ha,Result.andThen_ok,p1 b hb,Result.andThen_ok,q1,Result.andThen_ok]
 have key : ∀ q : Bool,Sem.run Tryz.prog (if (!q) = true then pure false else do
    let x ← part 9 (tc a).toArray 32
    let y ← part 9 (tc b).toArray 32
    let r ← Op.equalIn 9999 9 x y
    if (!r) = true then pure false else pure true) w = .ok (q && (a.t.toList == b.t.toList)) w := by
  intro q
  cases q with
  | false => rfl
  | true =>
   rw [if_neg (by decide),Sem.run_bind,p2 a ha,Result.andThen_ok,Sem.run_bind,p2 b hb,Result.andThen_ok,Sem.run_bind,run_equalIn_string w 9998 9 a.t b.t Tryz.underlying9,Result.andThen_ok,Bool.true_and]
   generalize (a.t.toList == b.t.toList) = z
   cases z <;> rfl
 exact key _
set_option maxHeartbeats 4000000 in
theorem oSame (a b : OM) (Rl : List (Nat × Obj)) (w : World) (hA : InO Rl a) (hB : InO Rl b) (hR : Has w Rl) :
  Calls Tryz.prog 8 #[.agg (oc a).toArray,.agg (oc b).toArray] w fun e w' => e = .returned (.bool (osame a b)) ∧ Ext [] w w' := by
 have hac := hA.c.d
 have hat := hA.t
 have hbc := hB.c.d
 have hbt := hB.t
 refine enter [] Rl [] Tryz.func8 rfl kr (HP.ofHas hR) ?_
 refine Cfg.begL rfl ?_
 refine Le (Eff.box (v := .agg (oc a).toArray) rfl kr) ?_
 rintro ab ⟨hab,nab⟩
 refine Le (Eff.box (v := .agg (oc b).toArray) rfl kr) ?_
 rintro bb ⟨hbb,nbb⟩
 refine Ld 1 [2,3] ?_
 refine Rg [2,3,9] [dZ,(dS (.int .u8 (a.k : Int))),dZ,(dS (.int .u8 (b.k : Int)))] (fun S => [(cE S ab 0 (.int .u8 (a.k : Int))),(cE S bb 0 (.int .u8 (b.k : Int)))]) ⟨(fun w1 h => h.ocell 1 rfl (by rw [List.getElem?_toArray]; exact rfl)),(fun w1 h => h.ocell 0 rfl (by rw [List.getElem?_toArray]; exact rfl)),trivial⟩ ?_
 refine Cfg.cond rfl (b := ((a.k : Int) != (b.k : Int))) kr (fun c1r => ?_) (fun c1r => ?_)
 ·have c1 := (bne_iff_ne.1 c1r)
  refine Rq [4] ?_
  refine Cfg.ret rfl (rs := [.tmp 4]) rfl [.bool false] ⟨kr,trivial⟩ (fun w1 hp => ?_)
  exact ⟨by rw [os_kind c1]; rfl,hp.ext⟩
 ·have c1 := (bne_eq_false_iff_eq.1 c1r)
  refine Rg [2,3,11] [dZ,(dS (.int .u8 (a.k : Int)))] (fun S => [(cE S ab 0 (.int .u8 (a.k : Int)))]) ⟨(fun w1 h => h.ocell 1 rfl (by rw [List.getElem?_toArray]; exact rfl)),trivial⟩ ?_
  refine Rq [2,3,11,12] ?_
  refine Cfg.cond rfl (b := ((a.k : Int) == (109 : Int))) kr (fun c2r => ?_) (fun c2r => ?_)
  ·have c2 := (beq_iff_eq.1 c2r)
   refine Cfg.begL rfl ?_
   refine Lp 8 [dZ,dZ,dZ,(dS (.slice a.m.va a.m.vs.length a.m.vc)),dZ,dZ,dZ,(dS (.slice b.m.va b.m.vs.length b.m.vc))] (some [2,3,17,21]) (fun S => [(cE S ab 1 (.slice a.m.va a.m.vs.length a.m.vc)),(cE S bb 1 (.slice b.m.va b.m.vs.length b.m.vc))]) ⟨(fun w1 h => h.ocell 1 rfl (by rw [List.getElem?_toArray]; exact rfl)),(fun w1 h => h.ocell 0 rfl (by rw [List.getElem?_toArray]; exact rfl)),trivial⟩ ?_
   refine Lu (Eff.callA (.bool (decide (a.m.vs = b.m.vs))) rfl Tryz.func32 rfl rfl kr (fun w1 h => eqU a.m.va b.m.va a.m.vc b.m.vc a.m.vs b.m.vs Rl w1 hA.m.v hB.m.v (h.hasR (fun e he => he)) (by unfold maxLen; have := hA.m.n; omega) (by unfold maxLen; have := hB.m.n; omega))) ?_
   refine Lq 1 [2,3,23] ?_
   by_cases c3 : (decide (a.m.vs = b.m.vs)) = true
   ·have c3k : (decide (a.m.vs = b.m.vs)) = true := c3
    have c3q : ((decide (a.m.vs = b.m.vs)) = true) := c3k
    refine CfgL.known 23 (b := (decide (a.m.vs = b.m.vs))) kr true c3k ?_
    refine CfgL.pure 8 [(1,false,none),(1,false,none),(1,false,none),(1,false,some (.slice a.m.ea a.m.es.length a.m.ec)),(1,false,none),(1,false,none),(1,false,none),(1,false,some (.slice b.m.ea b.m.es.length b.m.ec))] (some [2,3,23,27,31]) (Γ' := [(31,[],.slice b.m.ea b.m.es.length b.m.ec),(27,[],.slice a.m.ea a.m.es.length a.m.ec),(23,[],.bool true),(3,[],pT bb),(2,[],pT ab)]) (nd := (fun S => [((.bool true : Value) = .bool true),((.bool true : Value) = .bool true),((.bool true : Value) = .bool true),((.bool true : Value) = .bool true),(cE S ab 2 (.slice a.m.ea a.m.es.length a.m.ec)),((.bool true : Value) = .bool true),((.bool true : Value) = .bool true),((.bool true : Value) = .bool true),((.bool true : Value) = .bool true),(cE S bb 2 (.slice b.m.ea b.m.es.length b.m.ec))])) kr (fun _ => kr) ⟨rfl,rfl,rfl,rfl,(fun w1 h => h.ocell 1 rfl (by rw [List.getElem?_toArray]; exact rfl)),rfl,rfl,rfl,rfl,(fun w1 h => h.ocell 0 rfl (by rw [List.getElem?_toArray]; exact rfl)),trivial⟩ ?_
    refine Lu (Eff.callA (.bool (decide (a.m.es = b.m.es))) rfl Tryz.func33 rfl rfl kr (fun w1 h => eqE a.m.ea b.m.ea a.m.ec b.m.ec a.m.es b.m.es Rl w1 hA.m.e hB.m.e (h.hasR (fun e he => he)) (by unfold maxLen; have := hA.m.n; omega) (by unfold maxLen; have := hB.m.n; omega))) ?_
    refine Lq 2 [2,3,34] ?_
    by_cases c4 : (decide (a.m.es = b.m.es)) = true
    ·have c4k : (decide (a.m.es = b.m.es)) = true := c4
     have c4q : ((decide (a.m.es = b.m.es)) = true) := c4k
     refine CfgL.known 34 (b := (decide (a.m.es = b.m.es))) kr true c4k ?_
     refine Lp 6 [(1,false,none),(1,false,none),(1,false,some (.slice a.m.ra a.m.rs.length a.m.rc)),(1,false,none),(1,false,none),(1,false,some (.slice b.m.ra b.m.rs.length b.m.rc))] (some [34,37,40]) (fun S => [((.bool true : Value) = .bool true),((.bool true : Value) = .bool true),((.bool true : Value) = .bool true),(cE S ab 3 (.slice a.m.ra a.m.rs.length a.m.rc)),((.bool true : Value) = .bool true),((.bool true : Value) = .bool true),((.bool true : Value) = .bool true),(cE S bb 3 (.slice b.m.ra b.m.rs.length b.m.rc))]) ⟨rfl,rfl,rfl,(fun w1 h => h.ocell 1 rfl (by rw [List.getElem?_toArray]; exact rfl)),rfl,rfl,rfl,(fun w1 h => h.ocell 0 rfl (by rw [List.getElem?_toArray]; exact rfl)),trivial⟩ ?_
     refine Lu (Eff.callA (.bool (decide (a.m.rs.map RowU.xs = b.m.rs.map RowU.xs))) rfl Tryz.func34 rfl rfl kr (fun w1 h => eqRows a.m.ra b.m.ra a.m.rc b.m.rc a.m.rs b.m.rs Rl w1 hA.m.r hB.m.r (h.hasR (fun e he => he)) (by unfold maxLen; have := hA.m.n; omega) (by unfold maxLen; have := hB.m.n; omega) (fun r hr => ⟨(hA.m.i r hr).1,by have := (hA.m.i r hr).2; unfold maxLen; omega⟩) (fun r hr => ⟨(hB.m.i r hr).1,by have := (hB.m.i r hr).2; unfold maxLen; omega⟩))) ?_
     refine Ld 2 [4] ?_
     refine Cfg.ret rfl (rs := [.tmp 4]) rfl [.bool (decide (a.m.rs.map RowU.xs = b.m.rs.map RowU.xs))] ⟨kr,trivial⟩ (fun w1 hp => ?_)
     have hx := os_map c1 c2
     unfold msame at hx
     exact ⟨by rw [hx]; simp [resOf, *],hp.ext⟩
    ·have c4k : (decide (a.m.es = b.m.es)) = false := (by simpa using c4)
     have c4q : ((decide (a.m.es = b.m.es)) = false) := c4k
     refine CfgL.known 34 (b := (decide (a.m.es = b.m.es))) kr false c4k ?_
     refine Lp 9 [(2,false,none),(2,false,none),(2,false,none),(2,false,none),(2,false,none),(2,false,none),(2,false,none)] (some [4]) (fun _ => [((.bool false : Value) ≠ .bool true),((.bool false : Value) ≠ .bool true),((.bool false : Value) ≠ .bool true),((.bool false : Value) ≠ .bool true),((.bool false : Value) ≠ .bool true),((.bool false : Value) ≠ .bool true),((.bool false : Value) ≠ .bool true)]) ⟨(by simp),(by simp),(by simp),(by simp),(by simp),(by simp),(by simp),trivial⟩ ?_
     refine CfgL.done rfl ?_
     refine Cfg.ret rfl (rs := [.tmp 4]) rfl [.bool false] ⟨kr,trivial⟩ (fun w1 hp => ?_)
     have hx := os_map c1 c2
     unfold msame at hx
     exact ⟨by rw [hx]; simp [resOf, *],hp.ext⟩
   ·have c3k : (decide (a.m.vs = b.m.vs)) = false := (by simpa using c3)
    have c3q : ((decide (a.m.vs = b.m.vs)) = false) := c3k
    refine CfgL.known 23 (b := (decide (a.m.vs = b.m.vs))) kr false c3k ?_
    refine Lp 20 [(2,false,none),(2,false,none),(2,false,none),(2,false,none),(2,false,none),(2,false,none),(2,false,none),(2,false,none),(2,false,none),dZ,dZ,(2,false,none),(2,false,none),(2,false,none),(2,false,none),(2,false,none),(2,false,none),(2,false,none)] (some [4]) (fun _ => [((.bool false : Value) ≠ .bool true),((.bool false : Value) ≠ .bool true),((.bool false : Value) ≠ .bool true),((.bool false : Value) ≠ .bool true),((.bool false : Value) ≠ .bool true),((.bool false : Value) ≠ .bool true),((.bool false : Value) ≠ .bool true),((.bool false : Value) ≠ .bool true),((.bool false : Value) ≠ .bool true),((.bool false : Value) ≠ .bool true),((.bool false : Value) ≠ .bool true),((.bool false : Value) ≠ .bool true),((.bool false : Value) ≠ .bool true),((.bool false : Value) ≠ .bool true),((.bool false : Value) ≠ .bool true),((.bool false : Value) ≠ .bool true)]) ⟨(by simp),(by simp),(by simp),(by simp),(by simp),(by simp),(by simp),(by simp),(by simp),(by simp),(by simp),(by simp),(by simp),(by simp),(by simp),(by simp),trivial⟩ ?_
    refine CfgL.done rfl ?_
    refine Cfg.ret rfl (rs := [.tmp 4]) rfl [.bool false] ⟨kr,trivial⟩ (fun w1 hp => ?_)
    have hx := os_map c1 c2
    unfold msame at hx
    exact ⟨by rw [hx]; simp [resOf, *],hp.ext⟩
  ·have c2 := (beq_eq_false_iff_ne.1 c2r)
   refine Rq [2,3,11,43] ?_
   refine Cfg.cond rfl (b := ((a.k : Int) == (99 : Int))) kr (fun c5r => ?_) (fun c5r => ?_)
   ·have c5 := (beq_iff_eq.1 c5r)
    refine Cfg.begL rfl ?_
    refine Lp 8 [dZ,dZ,(dS (.agg (bv a.c.d))),dZ,dZ,(dS (.agg (bv b.c.d))),(dS (.bool (a.c.d == b.c.d)))] (some [2,3,52]) (fun S => [(∀ w1,S w1 → (loadVar 30 ⟨ab,4,none⟩).run Tryz.prog w1 = .ok (.agg (bv a.c.d)) w1),(∀ w1,S w1 → (loadVar 30 ⟨bb,4,none⟩).run Tryz.prog w1 = .ok (.agg (bv b.c.d)) w1),(∀ w1,S w1 → (Op.equal 30 (.agg (bv a.c.d)) (.agg (bv b.c.d))).run Tryz.prog w1 = .ok (a.c.d == b.c.d) w1)]) ⟨(fun w1 h => load_list (vs := dgc a.c.d) Tryz.underlying30 rfl kr (dgc_len hac) (fun j v hj => h.ocell 1 rfl (by rw [List.getElem?_toArray]; exact (fun j v hj => oc_com (cc_d hj)) j v hj))),(fun w1 h => load_list (vs := dgc b.c.d) Tryz.underlying30 rfl kr (dgc_len hbc) (fun j v hj => h.ocell 0 rfl (by rw [List.getElem?_toArray]; exact (fun j v hj => oc_com (cc_d hj)) j v hj))),(fun _ _ => equal_bv Tryz.underlying30 Tryz.underlying5 kr hac hbc),trivial⟩ ?_
    by_cases c6 : (a.c.d == b.c.d) = true
    ·have c6k : (a.c.d == b.c.d) = true := c6
     have c6q : ((a.c.d == b.c.d) = true) := c6k
     refine CfgL.known 52 (b := (a.c.d == b.c.d)) kr true c6k ?_
     refine CfgL.pure 6 [(1,false,none),(1,false,none),(1,false,some (.slice a.c.pa a.c.ps.length a.c.pc)),(1,false,none),(1,false,none),(1,false,some (.slice b.c.pa b.c.ps.length b.c.pc))] (some [2,3,52,55,58]) (Γ' := [(58,[],.slice b.c.pa b.c.ps.length b.c.pc),(55,[],.slice a.c.pa a.c.ps.length a.c.pc),(52,[],.bool true),(3,[],pT bb),(2,[],pT ab)]) (nd := (fun S => [((.bool true : Value) = .bool true),((.bool true : Value) = .bool true),((.bool true : Value) = .bool true),(cE S ab 36 (.slice a.c.pa a.c.ps.length a.c.pc)),((.bool true : Value) = .bool true),((.bool true : Value) = .bool true),((.bool true : Value) = .bool true),(cE S bb 36 (.slice b.c.pa b.c.ps.length b.c.pc))])) kr (fun _ => kr) ⟨rfl,rfl,rfl,(fun w1 h => h.ocell 1 rfl (by rw [List.getElem?_toArray]; exact (oc_com (j := 32) (cc_p hac)))),rfl,rfl,rfl,(fun w1 h => h.ocell 0 rfl (by rw [List.getElem?_toArray]; exact (oc_com (j := 32) (cc_p hbc)))),trivial⟩ ?_
     refine Lu (Eff.callA (.bool (decide (a.c.ps = b.c.ps))) rfl Tryz.func9 rfl rfl kr (fun w1 h => eqD a.c.pa b.c.pa a.c.pc b.c.pc a.c.ps b.c.ps Rl w1 hA.c.p hB.c.p hA.c.w hB.c.w (h.hasR (fun e he => he)) (by unfold maxLen; have := hA.c.n; omega) (by unfold maxLen; have := hB.c.n; omega))) ?_
     refine Lp 20 [dZ,dZ,dZ,dZ,(dS (.int .u64 (a.c.n : Int))),dZ,dZ,(dS (.int .u64 (b.c.n : Int))),dZ,dZ,dZ,dZ,dZ,(dS (.string a.c.t)),dZ,dZ,(dS (.string b.c.t))] (some [4]) (fun S => [((.bool (decide (a.c.ps = b.c.ps)) : Value) = .bool true → (cE S ab 37 (.int .u64 (a.c.n : Int)))),((.bool (decide (a.c.ps = b.c.ps)) : Value) = .bool true → (cE S bb 37 (.int .u64 (b.c.n : Int)))),((.bool ((decide (a.c.ps = b.c.ps)) && ((a.c.n : Int) == (b.c.n : Int))) : Value) = .bool true → (cE S ab 38 (.string a.c.t))),((.bool ((decide (a.c.ps = b.c.ps)) && ((a.c.n : Int) == (b.c.n : Int))) : Value) = .bool true → (cE S bb 38 (.string b.c.t)))]) ⟨(fun g0 => have q0 : ((decide (a.c.ps = b.c.ps)) = true) := (boolV g0); (fun w1 h => h.ocell 1 rfl (by rw [List.getElem?_toArray]; exact (oc_com (j := 33) (cc_n hac))))),(fun g0 => have q0 : ((decide (a.c.ps = b.c.ps)) = true) := (boolV g0); (fun w1 h => h.ocell 0 rfl (by rw [List.getElem?_toArray]; exact (oc_com (j := 33) (cc_n hbc))))),(fun g0 => have q0 : (((decide (a.c.ps = b.c.ps)) = true) ∧ ((a.c.n : Int) = (b.c.n : Int))) := ⟨(andT1 (boolV g0)),(beq_iff_eq.1 (andT2 (boolV g0)))⟩; (fun w1 h => h.ocell 1 rfl (by rw [List.getElem?_toArray]; exact (oc_com (j := 34) (cc_t hac))))),(fun g0 => have q0 : (((decide (a.c.ps = b.c.ps)) = true) ∧ ((a.c.n : Int) = (b.c.n : Int))) := ⟨(andT1 (boolV g0)),(beq_iff_eq.1 (andT2 (boolV g0)))⟩; (fun w1 h => h.ocell 0 rfl (by rw [List.getElem?_toArray]; exact (oc_com (j := 34) (cc_t hbc))))),trivial⟩ ?_
     refine CfgL.done rfl ?_
     refine Cfg.ret rfl (rs := [.tmp 4]) rfl [.bool (((decide (a.c.ps = b.c.ps)) && ((a.c.n : Int) == (b.c.n : Int))) && (a.c.t.toList == b.c.t.toList))] ⟨kr,trivial⟩ (fun w1 hp => ?_)
     have hx := os_com c1 c2 c5
     unfold csame at hx
     exact ⟨by rw [hx]; simp [resOf, *],hp.ext⟩
    ·have c6k : (a.c.d == b.c.d) = false := (by simpa using c6)
     have c6q : ((a.c.d == b.c.d) = false) := c6k
     refine CfgL.known 52 (b := (a.c.d == b.c.d)) kr false c6k ?_
     refine Lp 27 [(2,false,none),(2,false,none),(2,false,none),(2,false,none),(2,false,none),(2,false,none),(2,false,none),dZ,dZ,(2,false,none),(2,false,none),(2,false,none),(2,false,none),(2,false,none),(2,false,none),(2,false,none),dZ,dZ,(2,false,none),(2,false,none),(2,false,none),(2,false,none),(2,false,none),(2,false,none),(2,false,none)] (some [4]) (fun _ => [((.bool false : Value) ≠ .bool true),((.bool false : Value) ≠ .bool true),((.bool false : Value) ≠ .bool true),((.bool false : Value) ≠ .bool true),((.bool false : Value) ≠ .bool true),((.bool false : Value) ≠ .bool true),((.bool false : Value) ≠ .bool true),((.bool false : Value) ≠ .bool true),((.bool false : Value) ≠ .bool true),((.bool false : Value) ≠ .bool true),((.bool false : Value) ≠ .bool true),((.bool false : Value) ≠ .bool true),((.bool false : Value) ≠ .bool true),((.bool false : Value) ≠ .bool true),((.bool false : Value) ≠ .bool true),((.bool false : Value) ≠ .bool true),((.bool false : Value) ≠ .bool true),((.bool false : Value) ≠ .bool true),((.bool false : Value) ≠ .bool true),((.bool false : Value) ≠ .bool true),((.bool false : Value) ≠ .bool true)]) ⟨(by simp),(by simp),(by simp),(by simp),(by simp),(by simp),(by simp),(by simp),(by simp),(by simp),(by simp),(by simp),(by simp),(by simp),(by simp),(by simp),(by simp),(by simp),(by simp),(by simp),(by simp),trivial⟩ ?_
     refine CfgL.done rfl ?_
     refine Cfg.ret rfl (rs := [.tmp 4]) rfl [.bool false] ⟨kr,trivial⟩ (fun w1 hp => ?_)
     have hx := os_com c1 c2 c5
     unfold csame at hx
     exact ⟨by rw [hx]; simp [resOf, *],hp.ext⟩
   ·have c5 := (beq_eq_false_iff_ne.1 c5r)
    refine Rq [2,3,79] ?_
    refine Cfg.cond rfl (b := ((a.k : Int) == (116 : Int))) kr (fun c7r => ?_) (fun c7r => ?_)
    ·have c7 := (beq_iff_eq.1 c7r)
     refine Rg [4] [dZ,(dS (.agg (tc a.t).toArray)),dZ,(dS (.agg (tc b.t).toArray)),(dS (.bool (tsame a.t b.t)))] (fun S => [(∀ w1,S w1 → (loadVar 36 ⟨ab,39,none⟩).run Tryz.prog w1 = .ok (.agg (tc a.t).toArray) w1),(∀ w1,S w1 → (loadVar 36 ⟨bb,39,none⟩).run Tryz.prog w1 = .ok (.agg (tc b.t).toArray) w1),(∀ w1,S w1 → (Op.equal 36 (.agg (tc a.t).toArray) (.agg (tc b.t).toArray)).run Tryz.prog w1 = .ok (tsame a.t b.t) w1)]) ⟨(fun w1 h => load_list Tryz.underlying36 rfl kr (tc_len hat) (fun j v hj => h.ocell 1 rfl (by rw [List.getElem?_toArray]; exact (fun j v hj => oc_tag hac hj) j v hj))),(fun w1 h => load_list Tryz.underlying36 rfl kr (tc_len hbt) (fun j v hj => h.ocell 0 rfl (by rw [List.getElem?_toArray]; exact (fun j v hj => oc_tag hbc hj) j v hj))),(fun w1 _ => tag_equal hat hbt w1),trivial⟩ ?_
     refine Cfg.ret rfl (rs := [.tmp 4]) rfl [.bool (tsame a.t b.t)] ⟨kr,trivial⟩ (fun w1 hp => ?_)
     exact ⟨by rw [os_tag c1 c2 c5 c7]; rfl,hp.ext⟩
    ·have c7 := (beq_eq_false_iff_ne.1 c7r)
     refine Rq [4] ?_
     refine Cfg.ret rfl (rs := [.tmp 4]) rfl [.bool true] ⟨kr,trivial⟩ (fun w1 hp => ?_)
     exact ⟨by rw [os_else c1 c2 c5 c7]; rfl,hp.ext⟩
def oz : OM := ⟨0,m0,c0,t0⟩
def parEnd (k : Nat) (z : IN) : Int := if k = 109 then endF (tmR z).2 else if k = 99 then endF (tcT z).2 else if k = 116 then endF (ttT z).2 else 11
def parChk (k : Nat) (z : IN) : Int := if k = 109 then rightF (tmV z).1 (tmE z).1 (tmR z).1 else if k = 99 then comE (tcP z).1 (tx (tcT z).1) else txtE (tx (ttT z).1)
def parE (l : List UInt8) : Int := if l.length = 0 then 3 else if parEnd (byteF ⟨0,l⟩).1 (byteF ⟨0,l⟩).2 ≠ 0 then parEnd (byteF ⟨0,l⟩).1 (byteF ⟨0,l⟩).2 else parChk (byteF ⟨0,l⟩).1 (byteF ⟨0,l⟩).2
theorem parE_nil {l : List UInt8} (h : (l.length : Int) = 0) : parE l = 3 := if_pos (by omega)
theorem parE_e {l : List UInt8} {k : Nat} {z : IN} {x : Int} (hk : k = (byteF ⟨0,l⟩).1) (hz : z = (byteF ⟨0,l⟩).2) (h : ¬ (l.length : Int) = 0) (hx : parEnd k z = x) (h2 : x ≠ 0) : parE l = x := by
 subst hk hz
 exact (if_neg om).trans ((if_pos (by rw [hx]; exact h2)).trans hx)
theorem parE_c {l : List UInt8} {k : Nat} {z : IN} {x : Int} (hk : k = (byteF ⟨0,l⟩).1) (hz : z = (byteF ⟨0,l⟩).2) (h : ¬ (l.length : Int) = 0) (hx : parEnd k z = 0) (h2 : parChk k z = x) : parE l = x := by
 subst hk hz
 exact (if_neg om).trans ((if_neg (fun h9 => h9 hx)).trans h2)
theorem pe_m {k : Nat} {z : IN} (h : (k : Int) = 109) : parEnd k z = endF (tmR z).2 := if_pos (by omega)
theorem pe_c {k : Nat} {z : IN} (h : (k : Int) = 99) : parEnd k z = endF (tcT z).2 := (if_neg (by omega)).trans (if_pos (by omega))
theorem pe_t {k : Nat} {z : IN} (h : (k : Int) = 116) : parEnd k z = endF (ttT z).2 := (if_neg (by omega)).trans ((if_neg (by omega)).trans (if_pos (by omega)))
theorem pe_n {k : Nat} {z : IN} (h1 : ¬ (k : Int) = 109) (h2 : ¬ (k : Int) = 99) (h3 : ¬ (k : Int) = 116) : parEnd k z = 11 := (if_neg (by omega)).trans ((if_neg (by omega)).trans (if_neg (by omega)))
theorem pc_m {k : Nat} {z : IN} (h : (k : Int) = 109) : parChk k z = rightF (tmV z).1 (tmE z).1 (tmR z).1 := if_pos (by omega)
theorem pc_c {k : Nat} {z : IN} (h : (k : Int) = 99) : parChk k z = comE (tcP z).1 (tx (tcT z).1) := (if_neg (by omega)).trans (if_pos (by omega))
theorem pc_t {k : Nat} {z : IN} (h : (k : Int) = 116) : parChk k z = txtE (tx (ttT z).1) := (if_neg (by omega)).trans (if_neg (by omega))
structure ParC (l : List UInt8) (o : OM) : Prop where
 k : o.k = (byteF ⟨0,l⟩).1
 m : o.k = 109 → o.m.vs = (tmV (byteF ⟨0,l⟩).2).1 ∧ o.m.es = (tmE (byteF ⟨0,l⟩).2).1 ∧ o.m.rs.map RowU.xs = (tmR (byteF ⟨0,l⟩).2).1
 c : o.k = 99 → o.c.d = (digF (byteF ⟨0,l⟩).2).1 ∧ o.c.ps = (tcP (byteF ⟨0,l⟩).2).1 ∧ o.c.n = (tcN (byteF ⟨0,l⟩).2).1 ∧ o.c.t = tx (tcT (byteF ⟨0,l⟩).2).1
 t : o.k = 116 → o.t.d = (digF (byteF ⟨0,l⟩).2).1 ∧ o.t.t = tx (ttT (byteF ⟨0,l⟩).2).1
structure PQ where
 o : OM
 mem : LO
structure PQ.Ok (q : PQ) (l : List UInt8) : Prop where
 i : InO q.mem q.o
 u : ∀ r ∈ q.o.m.rs,∀ n ∈ r.xs,n < 4294967296
 n : q.o.c.n < 18446744073709551616
 t1 : q.o.c.t.size ≤ 200
 t2 : q.o.t.t.size ≤ 200
 no : parE l ≠ 0 → q.o = oz
 ok : parE l = 0 → ParC l q.o
theorem rowsF_all {β : Type} {P : β → Prop} {tk : IN → β × IN} (h : ∀ z,P (tk z).1) : ∀ (k : Nat) (z : IN) (acc : List β),(∀ x ∈ acc,P x) → ∀ x ∈ (rowsF tk k z acc).1,P x
 | 0,z,acc,ha,x,hx => ha x hx
 | k + 1,z,acc,ha,x,hx => by
  by_cases he : (tk z).2.er ≠ 0
  ·rw [rowsF_fail he] at hx; cases hx
  ·rw [rowsF_succ he] at hx
   refine rowsF_all h k _ _ (fun y hy => ?_) x hx
   rcases List.mem_append.1 hy with hy | hy
   ·exact ha y hy
   ·rw [List.mem_singleton.1 hy]; exact h z
theorem rowsT_all {β : Type} {P : β → Prop} {tk : IN → β × IN} (h : ∀ z,P (tk z).1) (z : IN) (m : Int) : ∀ x ∈ (rowsT tk z m).1,P x := rowsF_all h _ _ _ (fun x hx => by cases hx)
theorem takeRs_lt : ∀ (k : Nat) (z : IN),∀ t ∈ (takeRs k z).1,∀ n ∈ t,n < 4294967296
 | 0,z,t,ht,n,hn => by cases ht
 | k + 1,z,t,ht,n,hn => by
  rw [takeRs] at ht
  rcases List.mem_cons.1 ht with rfl | ht
  ·exact rowsT_all (P := fun n => n < 4294967296) fourF_lt z 320 n hn
  ·exact takeRs_lt k _ t ht n hn
theorem MQ.Ok.lt {q : MQ} {z : IN} (h : q.Ok z) : ∀ r ∈ (q.m z).rs,∀ n ∈ r.xs,n < 4294967296 := by
 intro r hr n hn
 have h1 : r.xs ∈ (rowsQ q.qs).map RowU.xs := List.mem_map.2 ⟨r,hr,rfl⟩
 rw [rowsQ_xs,h.hr] at h1
 exact takeRs_lt _ _ _ h1 n hn
theorem nextF_le (z : IN) (n : Int) : (nextF z n).1.length ≤ n.toNat := by
 unfold nextF
 split
 ·exact Nat.zero_le _
 ·split
  ·exact Nat.zero_le _
  ·show (List.take _ _).length ≤ _
   rw [List.length_take]; omega
theorem textF_le (z : IN) {m : Nat} : (textF z (m : Int)).1.length ≤ m := by
 unfold textF
 have h1 := nextF_le (boundF z (m : Int) 5).2 (((boundF z (m : Int) 5).1 : Nat) : Int)
 have h2 := boundF_le (e := 5) z (Int.le_refl (m : Int))
 omega
theorem digs_D (z : IN) (m : Int) : D32 (rowsT digF z m).1 := rowsT_all (P := fun d : List UInt8 => d.length = 32) (tk := digF) (fun z => dig32_len _) z m
theorem st_map (k : Nat) (m : MM) : spl (oc ⟨k,m0,c0,t0⟩).toArray 1 (mc m).toArray.toList = (oc ⟨k,m,c0,t0⟩).toArray := by kernel_rfl
theorem st_d4 (k : Nat) {d : List UInt8} (h : d.length = 32) : spl (oc ⟨k,m0,c0,t0⟩).toArray 4 (bv d).toList = (oc ⟨k,m0,⟨d,none,0,[],0,ByteArray.empty⟩,t0⟩).toArray := by
 obtain ⟨x0,x1,x2,x3,x4,x5,x6,x7,x8,x9,x10,x11,x12,x13,x14,x15,x16,x17,x18,x19,x20,x21,x22,x23,x24,x25,x26,x27,x28,x29,x30,x31,rfl⟩ := list32 h
 kernel_rfl
theorem st_p36 (k : Nat) {d : List UInt8} (h : d.length = 32) (a : Option Addr) (c : Nat) (ps : List (List UInt8)) : (oc ⟨k,m0,⟨d,none,0,[],0,ByteArray.empty⟩,t0⟩).toArray.setIfInBounds 36 (.slice a ps.length c) = (oc ⟨k,m0,⟨d,a,c,ps,0,ByteArray.empty⟩,t0⟩).toArray := by
 obtain ⟨x0,x1,x2,x3,x4,x5,x6,x7,x8,x9,x10,x11,x12,x13,x14,x15,x16,x17,x18,x19,x20,x21,x22,x23,x24,x25,x26,x27,x28,x29,x30,x31,rfl⟩ := list32 h
 kernel_rfl
theorem st_n37 (k : Nat) {d : List UInt8} (h : d.length = 32) (a : Option Addr) (c : Nat) (ps : List (List UInt8)) (n : Nat) : (oc ⟨k,m0,⟨d,a,c,ps,0,ByteArray.empty⟩,t0⟩).toArray.setIfInBounds 37 (.int .u64 (n : Int)) = (oc ⟨k,m0,⟨d,a,c,ps,n,ByteArray.empty⟩,t0⟩).toArray := by
 obtain ⟨x0,x1,x2,x3,x4,x5,x6,x7,x8,x9,x10,x11,x12,x13,x14,x15,x16,x17,x18,x19,x20,x21,x22,x23,x24,x25,x26,x27,x28,x29,x30,x31,rfl⟩ := list32 h
 kernel_rfl
theorem st_t38 (k : Nat) {d : List UInt8} (h : d.length = 32) (a : Option Addr) (c : Nat) (ps : List (List UInt8)) (n : Nat) (t : ByteArray) : (oc ⟨k,m0,⟨d,a,c,ps,n,ByteArray.empty⟩,t0⟩).toArray.setIfInBounds 38 (.string t) = (oc ⟨k,m0,⟨d,a,c,ps,n,t⟩,t0⟩).toArray := by
 obtain ⟨x0,x1,x2,x3,x4,x5,x6,x7,x8,x9,x10,x11,x12,x13,x14,x15,x16,x17,x18,x19,x20,x21,x22,x23,x24,x25,x26,x27,x28,x29,x30,x31,rfl⟩ := list32 h
 kernel_rfl
theorem st_d39 (k : Nat) {d : List UInt8} (h : d.length = 32) : spl (oc ⟨k,m0,c0,t0⟩).toArray 39 (bv d).toList = (oc ⟨k,m0,c0,⟨d,ByteArray.empty⟩⟩).toArray := by
 obtain ⟨x0,x1,x2,x3,x4,x5,x6,x7,x8,x9,x10,x11,x12,x13,x14,x15,x16,x17,x18,x19,x20,x21,x22,x23,x24,x25,x26,x27,x28,x29,x30,x31,rfl⟩ := list32 h
 kernel_rfl
theorem st_t71 (k : Nat) {d : List UInt8} (h : d.length = 32) (t : ByteArray) : (oc ⟨k,m0,c0,⟨d,ByteArray.empty⟩⟩).toArray.setIfInBounds 71 (.string t) = (oc ⟨k,m0,c0,⟨d,t⟩⟩).toArray := by
 obtain ⟨x0,x1,x2,x3,x4,x5,x6,x7,x8,x9,x10,x11,x12,x13,x14,x15,x16,x17,x18,x19,x20,x21,x22,x23,x24,x25,x26,x27,x28,x29,x30,x31,rfl⟩ := list32 h
 kernel_rfl
theorem build_kind (k : Nat) (w : World) : (Instr.build 38 #[(0,.int .u8 (k : Int))]).run Tryz.prog w = .ok (.agg (oc ⟨k,m0,c0,t0⟩).toArray) w := by kernel_rfl
theorem oc_size (o : OM) (hc : o.c.d.length = 32) (ht : o.t.d.length = 32) : (oc o).toArray.size = 72 := by rw [List.size_toArray,oc_len hc ht]
set_option maxHeartbeats 8000000 in
theorem oParse (l : List UInt8) (w : World) (hl : l.length ≤ 9223372036854775807) :
  Calls Tryz.prog 7 #[.string (tx l)] w fun e w' => ∃ q : PQ,q.Ok l ∧ e = .returned (.tuple #[.agg (oc q.o).toArray,.int .i64 (parE l)]) ∧ ∃ R1,HP w [] R1 q.mem w' := by
 have hts := tx_size
 obtain ⟨k,hk⟩ : ∃ k,k = (byteF ⟨0,l⟩).1 := ⟨_,rfl⟩
 obtain ⟨z,hz⟩ : ∃ z,z = (byteF ⟨0,l⟩).2 := ⟨_,rfl⟩
 have hdl : (digF z).1.length = 32 := dig32_len _
 have hk2 : k < 256 := by rw [hk]; exact Nat.mod_lt _ (by decide)
 refine enter [] [] [] Tryz.func7 rfl kr (HP.start w) ?_
 refine Cfg.begL rfl ?_
 refine Le (Eff.alloc (z := (.agg (oc ⟨0,m0,c0,t0⟩).toArray)) rfl kr) ?_
 rintro rs ⟨hrs,nrs⟩
 refine Ld 1 [0,2] ?_
 refine Rq [0,2,10] ?_
 refine Cfg.cond rfl (b := (((tx l).size : Int) == (0 : Int))) kr (fun c1r => ?_) (fun c1r => ?_)
 ·have c1 := (beq_iff_eq.1 c1r)
  refine Cfg.begL rfl ?_
  refine Lp 1 [(dS (.agg (oc oz).toArray))] (some [2,11]) (fun S => [(∀ w1,S w1 → (Instr.build 38 #[]).run Tryz.prog w1 = .ok (.agg (oc oz).toArray) w1)]) ⟨(fun w1 _ => kr),trivial⟩ ?_
  refine Lu (Eff.storeN (b := rs) (off := 0) (vs := (oc oz).toArray) (n := 72) rfl kr kr kr (oc_size _ d0_len d0_len) (fun q hq => all_oc _ q hq) 0 (cs := (oc ⟨0,m0,c0,t0⟩).toArray) (e := 38) kr (by rw [(oc_size _ d0_len d0_len)]; decide)) ?_
  refine oL 0 rfl (show _ = ((oc oz).toArray) from spl_all (((oc_size _ d0_len d0_len)).trans ((oc_size _ d0_len d0_len)).symm)) ?_
  refine Ld 1 [2,3] ?_
  refine Cfg.ret rfl (rs := [.cell 2 38,.tmp 3]) rfl [.agg (oc oz).toArray,.int .i64 3] ⟨⟨_,by kernel_rfl,(fun w1 h => h.oload 0 rfl Tryz.underlying38 rfl (n := 72) kr (oc_size _ d0_len d0_len))⟩,by kernel_rfl,trivial⟩ (fun w1 hp => ?_)
  have hfin : parE l = 3 := parE_nil c1
  have hne : parE l ≠ 0 := by rw [hfin]; decide
  rw [hfin]
  exact ⟨⟨oz,[]⟩,⟨⟨InM.zero _,InC.zero _,d0_len⟩,(fun r hr => by cases hr),(by show 0 < _; decide),(by show 0 ≤ _; decide),(by show 0 ≤ _; decide),(fun _ => rfl),(fun h9 => absurd h9 hne)⟩,rfl,_,hp.sub (List.nil_sublist _)⟩
 ·have c1 := (beq_eq_false_iff_ne.1 c1r)
  refine Cfg.begL rfl ?_
  refine Lq 1 [2,12] ?_
  refine Le (Eff.callN (fun b : Nat => pT b) (fun b => b) (fun _ => .cells (inC ⟨0,l⟩) 102 (0,0)) (fun _ => True) rfl Tryz.func24 rfl rfl kr (fun w1 _ => wOf l w1)) ?_
  rintro ib ⟨-,hib,nib⟩
  refine Ld 1 [2,4] ?_
  refine Cfg.begL rfl ?_
  refine Lp 1 [] none n0 trivial ?_
  refine Lu (Eff.callM (vs := [pT ib]) (.int .u8 (k : Int)) 0 (b := ib) (ob := Obj.cells (inC (⟨0,l⟩)) 102 (0,0)) (.cells (inC z) 102 (0,0)) rfl Tryz.func25 rfl rfl kr kr (fun w1 h => by rw [hk,hz]; exact wTByte ib ⟨0,l⟩ w1 (h.own (ib,Obj.cells (inC (⟨0,l⟩)) 102 (0,0)) (show (ib,Obj.cells (inC (⟨0,l⟩)) 102 (0,0)) ∈ [(ib,Obj.cells (inC (⟨0,l⟩)) 102 (0,0)),(rs,Obj.cells ((oc ⟨0,m0,c0,t0⟩).toArray) 38 (0,0))] from (mG 0 rfl))))) ?_
  refine CfgL.pure 1 [(dS (.agg (oc ⟨k,m0,c0,t0⟩).toArray))] (some [2,4,16]) (Γ' := [(16,[],.agg (oc ⟨k,m0,c0,t0⟩).toArray),(4,[],pT ib),(2,[],pT rs)]) (nd := (fun S => [(∀ w1,S w1 → (Instr.build 38 #[(0,.int .u8 (k : Int))]).run Tryz.prog w1 = .ok (.agg (oc ⟨k,m0,c0,t0⟩).toArray) w1)])) kr (fun _ => kr) ⟨(fun w1 _ => build_kind k w1),trivial⟩ ?_
  refine Le (Eff.alloc (z := (.agg (oc ⟨0,m0,c0,t0⟩).toArray)) rfl kr) ?_
  rintro ob ⟨hob,nob⟩
  refine Lu (Eff.storeN (b := ob) (off := 0) (vs := (oc ⟨k,m0,c0,t0⟩).toArray) (n := 72) rfl kr kr kr (oc_size _ d0_len d0_len) (fun q hq => all_oc _ q hq) 0 (cs := (oc ⟨0,m0,c0,t0⟩).toArray) (e := 38) kr (by rw [(oc_size _ d0_len d0_len)]; decide)) ?_
  refine oL 0 rfl (show _ = ((oc ⟨k,m0,c0,t0⟩).toArray) from spl_all (((oc_size _ d0_len d0_len)).trans ((oc_size _ d0_len d0_len)).symm)) ?_
  refine CfgL.done rfl ?_
  refine Cg (Γ' := [(5,[],pT ob),(4,[],pT ib),(2,[],pT rs)]) ?_
  refine Rg [2,4,5,18] [dZ,(dS (.int .u8 (k : Int)))] (fun S => [(cE S ob 0 (.int .u8 (k : Int)))]) ⟨(oC 0 rfl rfl),trivial⟩ ?_
  refine Rq [2,4,5,18,20] ?_
  refine Cfg.cond rfl (b := ((k : Int) == (109 : Int))) kr (fun c2r => ?_) (fun c2r => ?_)
  ·have c2 := (beq_iff_eq.1 c2r)
   refine Cfg.permO (O' := [(ob,.cells ((oc ⟨k,m0,c0,t0⟩).toArray) 38 (0,0)),(rs,.cells ((oc ⟨0,m0,c0,t0⟩).toArray) 38 (0,0)),(ib,.cells (inC z) 102 (0,0))]) (.cons _ (.swap _ _ _)) ?_
   refine Cfg.begL rfl ?_
   refine Lq 1 [2,4,5,22] ?_
   refine Le (Eff.callH (fun q : MQ => .agg (mc (q.m z)).toArray) [(ib,.cells (inC z) 102 (0,0))] (fun q => [(ib,Obj.cells (inC (tmR z).2) 102 (0,0))] ++ q.mem z) (fun q => q.Ok z) ([(ob,.cells ((oc ⟨k,m0,c0,t0⟩).toArray) 38 (0,0)),(rs,.cells ((oc ⟨0,m0,c0,t0⟩).toArray) 38 (0,0))]) [] (by rfl) rfl Tryz.func26 rfl rfl kr (fun w1 h hA1 hd1 => tkM ib z w1 (hA1 (ib,_) mH))) ?_
   rintro q hq
   refine Lq 1 [2,4,5,23,24] ?_
   refine Lu (Eff.storeN (b := ob) (off := 1) (vs := (mc (q.m z)).toArray) (n := 3) rfl kr kr kr rfl (by intro v hv; simp only [mc,List.mem_cons,List.not_mem_nil,or_false] at hv; rcases hv with rfl | rfl | rfl <;> rfl) 0 (cs := (oc ⟨k,m0,c0,t0⟩).toArray) (e := 38) kr (by rw [(oc_size _ d0_len d0_len)]; decide)) ?_
   refine CfgL.setO (congrArg (fun (xq : Array Value) => (([(ob,.cells xq 38 (0,0)),(rs,.cells ((oc ⟨0,m0,c0,t0⟩).toArray) 38 (0,0)),(ib,.cells (inC ((tmR z).2)) 102 (0,0))] ++ (q.mem z ++ [])) : LO)) (show _ = ((oc ⟨k,q.m z,c0,t0⟩).toArray) from st_map k (q.m z))) ?_
   refine CfgL.done rfl ?_
   refine Cg (Γ' := [(5,[],pT ob),(4,[],pT ib),(2,[],pT rs)]) ?_
   refine Cfg.begL rfl ?_
   refine Lq 1 [2,5,53] ?_
   refine Lu (Eff.callA (.int .i64 (endF (tmR z).2)) rfl Tryz.func31 rfl rfl kr (fun w1 h => wEnd ib (tmR z).2 w1 (h.own (ib,Obj.cells (inC ((tmR z).2)) 102 (0,0)) (show (ib,Obj.cells (inC ((tmR z).2)) 102 (0,0)) ∈ ([(ob,Obj.cells ((oc ⟨k,q.m z,c0,t0⟩).toArray) 38 (0,0)),(rs,Obj.cells ((oc ⟨0,m0,c0,t0⟩).toArray) 38 (0,0)),(ib,Obj.cells (inC ((tmR z).2)) 102 (0,0))] ++ (q.mem z ++ [])) from (mL (mG 2 rfl)))))) ?_
   refine Ld 1 [2,5,6] ?_
   refine Rq [2,5,6,56] ?_
   refine Cfg.cond rfl (b := ((endF (tmR z).2) != (0 : Int))) kr (fun c3r => ?_) (fun c3r => ?_)
   ·have c3 := (bne_iff_ne.1 c3r)
    refine Cfg.begL rfl ?_
    refine Lp 2 [(dS (.agg (oc oz).toArray))] (some [2,57,58]) (fun S => [(∀ w1,S w1 → (Instr.build 38 #[]).run Tryz.prog w1 = .ok (.agg (oc oz).toArray) w1)]) ⟨(fun w1 _ => kr),trivial⟩ ?_
    refine Lu (Eff.storeN (b := rs) (off := 0) (vs := (oc oz).toArray) (n := 72) rfl kr kr kr (oc_size _ d0_len d0_len) (fun q hq => all_oc _ q hq) 1 (cs := (oc ⟨0,m0,c0,t0⟩).toArray) (e := 38) kr (by rw [(oc_size _ d0_len d0_len)]; decide)) ?_
    refine CfgL.setO (congrArg (fun (xq : Array Value) => (([(ob,.cells ((oc ⟨k,q.m z,c0,t0⟩).toArray) 38 (0,0)),(rs,.cells xq 38 (0,0)),(ib,.cells (inC ((tmR z).2)) 102 (0,0))] ++ (q.mem z ++ [])) : LO)) (show _ = ((oc oz).toArray) from spl_all (((oc_size _ d0_len d0_len)).trans ((oc_size _ d0_len d0_len)).symm))) ?_
    refine Ld 1 [2,3] ?_
    refine Cfg.ret rfl (rs := [.cell 2 38,.tmp 3]) rfl [.agg (oc oz).toArray,.int .i64 (endF (tmR z).2)] ⟨⟨_,by kernel_rfl,(fun w1 h => h.oload 1 rfl Tryz.underlying38 rfl (n := 72) kr (oc_size _ d0_len d0_len))⟩,by kernel_rfl,trivial⟩ (fun w1 hp => ?_)
    have hfin : parE l = endF (tmR z).2 := parE_e hk hz c1 (pe_m c2) c3
    have hne : parE l ≠ 0 := by rw [hfin]; exact c3
    rw [hfin]
    exact ⟨⟨oz,[]⟩,⟨⟨InM.zero _,InC.zero _,d0_len⟩,(fun r hr => by cases hr),(by show 0 < _; decide),(by show 0 ≤ _; decide),(by show 0 ≤ _; decide),(fun _ => rfl),(fun h9 => absurd h9 hne)⟩,rfl,_,hp.sub (List.nil_sublist _)⟩
   ·have c3 := (bne_eq_false_iff_eq.1 c3r)
    refine Cfg.begL rfl ?_
    refine Lp 1 [(dS (.agg (oc ⟨k,q.m z,c0,t0⟩).toArray))] (some [2,5,59]) (fun S => [(∀ w1,S w1 → (loadVar 38 ⟨ob,0,none⟩).run Tryz.prog w1 = .ok (.agg (oc ⟨k,q.m z,c0,t0⟩).toArray) w1)]) ⟨(fun w1 h => h.oload 0 rfl Tryz.underlying38 rfl (n := 72) kr (oc_size _ d0_len d0_len)),trivial⟩ ?_
    refine Lu (Eff.callA (.int .i64 (chkO ⟨k,q.m z,c0,t0⟩)) rfl Tryz.func15 rfl rfl kr (fun w1 h => oChk ⟨k,q.m z,c0,t0⟩ (q.mem z) w1 ⟨hq.inM,InC.zero _,d0_len⟩ (fun e he => h.own e (show e ∈ ([(ob,Obj.cells ((oc ⟨k,q.m z,c0,t0⟩).toArray) 38 (0,0)),(rs,Obj.cells ((oc ⟨0,m0,c0,t0⟩).toArray) 38 (0,0)),(ib,Obj.cells (inC ((tmR z).2)) 102 (0,0))] ++ (q.mem z ++ [])) from mR (mL he))) hq.lt (by show (0 : Nat) ≤ _; decide) (by show (0 : Nat) ≤ _; decide))) ?_
    refine Ld 1 [2,5,7] ?_
    refine Cfg.reg rfl [2,5,7,62] [] (Γ' := [(62,[],.bool ((chkO ⟨k,q.m z,c0,t0⟩) != (0 : Int))),(7,[],.int .i64 (chkO ⟨k,q.m z,c0,t0⟩)),(5,[],pT ob),(2,[],pT rs)]) (nd := (fun _ => [])) (fun _ => kr) trivial ?_
    refine Cfg.cond rfl (b := ((chkO ⟨k,q.m z,c0,t0⟩) != (0 : Int))) kr (fun c4r => ?_) (fun c4r => ?_)
    ·have c4 := (bne_iff_ne.1 c4r)
     refine Cfg.begL rfl ?_
     refine Lp 2 [(dS (.agg (oc oz).toArray))] (some [2,63,64]) (fun S => [(∀ w1,S w1 → (Instr.build 38 #[]).run Tryz.prog w1 = .ok (.agg (oc oz).toArray) w1)]) ⟨(fun w1 _ => kr),trivial⟩ ?_
     refine Lu (Eff.storeN (b := rs) (off := 0) (vs := (oc oz).toArray) (n := 72) rfl kr kr kr (oc_size _ d0_len d0_len) (fun q hq => all_oc _ q hq) 1 (cs := (oc ⟨0,m0,c0,t0⟩).toArray) (e := 38) kr (by rw [(oc_size _ d0_len d0_len)]; decide)) ?_
     refine CfgL.setO (congrArg (fun (xq : Array Value) => (([(ob,.cells ((oc ⟨k,q.m z,c0,t0⟩).toArray) 38 (0,0)),(rs,.cells xq 38 (0,0)),(ib,.cells (inC ((tmR z).2)) 102 (0,0))] ++ (q.mem z ++ [])) : LO)) (show _ = ((oc oz).toArray) from spl_all (((oc_size _ d0_len d0_len)).trans ((oc_size _ d0_len d0_len)).symm))) ?_
     refine Ld 1 [2,3] ?_
     refine Cfg.ret rfl (rs := [.cell 2 38,.tmp 3]) rfl [.agg (oc oz).toArray,.int .i64 (chkO ⟨k,q.m z,c0,t0⟩)] ⟨⟨_,by kernel_rfl,(fun w1 h => h.oload 1 rfl Tryz.underlying38 rfl (n := 72) kr (oc_size _ d0_len d0_len))⟩,by kernel_rfl,trivial⟩ (fun w1 hp => ?_)
     have hce : chkO ⟨k,q.m z,c0,t0⟩ = parChk k z := ((chkO_map (o := ⟨k,q.m z,c0,t0⟩) c2).trans (by rw [← hq.hr,← rowsQ_xs]; rfl)).trans (pc_m c2).symm
     have hfin : parE l = chkO ⟨k,q.m z,c0,t0⟩ := parE_c hk hz c1 ((pe_m c2).trans om) hce.symm
     have hne : parE l ≠ 0 := by rw [hfin]; exact c4
     rw [hfin]
     exact ⟨⟨oz,[]⟩,⟨⟨InM.zero _,InC.zero _,d0_len⟩,(fun r hr => by cases hr),(by show 0 < _; decide),(by show 0 ≤ _; decide),(by show 0 ≤ _; decide),(fun _ => rfl),(fun h9 => absurd h9 hne)⟩,rfl,_,hp.sub (List.nil_sublist _)⟩
    ·have c4 := (bne_eq_false_iff_eq.1 c4r)
     refine Cfg.begL rfl ?_
     refine Lp 1 [(dS (.agg (oc ⟨k,q.m z,c0,t0⟩).toArray))] (some [2,65]) (fun S => [(∀ w1,S w1 → (loadVar 38 ⟨ob,0,none⟩).run Tryz.prog w1 = .ok (.agg (oc ⟨k,q.m z,c0,t0⟩).toArray) w1)]) ⟨(fun w1 h => h.oload 0 rfl Tryz.underlying38 rfl (n := 72) kr (oc_size _ d0_len d0_len)),trivial⟩ ?_
     refine Lu (Eff.storeN (b := rs) (off := 0) (vs := (oc ⟨k,q.m z,c0,t0⟩).toArray) (n := 72) rfl kr kr kr (oc_size _ d0_len d0_len) (fun q hq => all_oc _ q hq) 1 (cs := (oc ⟨0,m0,c0,t0⟩).toArray) (e := 38) kr (by rw [(oc_size _ d0_len d0_len)]; decide)) ?_
     refine CfgL.setO (congrArg (fun (xq : Array Value) => (([(ob,.cells ((oc ⟨k,q.m z,c0,t0⟩).toArray) 38 (0,0)),(rs,.cells xq 38 (0,0)),(ib,.cells (inC ((tmR z).2)) 102 (0,0))] ++ (q.mem z ++ [])) : LO)) (show _ = ((oc ⟨k,q.m z,c0,t0⟩).toArray) from spl_all (((oc_size _ d0_len d0_len)).trans ((oc_size _ d0_len d0_len)).symm))) ?_
     refine Ld 1 [2,3] ?_
     refine Cfg.ret rfl (rs := [.cell 2 38,.tmp 3]) rfl [.agg (oc ⟨k,q.m z,c0,t0⟩).toArray,.int .i64 0] ⟨⟨_,by kernel_rfl,(fun w1 h => h.oload 1 rfl Tryz.underlying38 rfl (n := 72) kr (oc_size _ d0_len d0_len))⟩,by kernel_rfl,trivial⟩ (fun w1 hp => ?_)
     have hce : chkO ⟨k,q.m z,c0,t0⟩ = parChk k z := ((chkO_map (o := ⟨k,q.m z,c0,t0⟩) c2).trans (by rw [← hq.hr,← rowsQ_xs]; rfl)).trans (pc_m c2).symm
     have hfin : parE l = chkO ⟨k,q.m z,c0,t0⟩ := parE_c hk hz c1 ((pe_m c2).trans om) hce.symm
     have h0 : parE l = 0 := by rw [hfin]; omega
     rw [h0]
     have h9 : HP w [] [] (q.mem z ++ []) w1 := hp.sub (.cons _ (.cons _ (.cons _ slr)))
     rw [List.append_nil] at h9
     exact ⟨⟨⟨k,q.m z,c0,t0⟩,q.mem z⟩,⟨⟨hq.inM,InC.zero _,d0_len⟩,hq.lt,(by show 0 < _; decide),(by show 0 ≤ _; decide),(by show 0 ≤ _; decide),(fun h8 => absurd h0 h8),(fun _ => ⟨hk,(fun _ => by rw [← hz]; exact ⟨rfl,rfl,(rowsQ_xs q.qs).trans hq.hr⟩),(fun h9 => by have : k = 99 := h9; omega),(fun h9 => by have : k = 116 := h9; omega)⟩)⟩,rfl,_,h9⟩
  ·have c2 := (beq_eq_false_iff_ne.1 c2r)
   refine Rq [2,4,5,18,25] ?_
   refine Cfg.cond rfl (b := ((k : Int) == (99 : Int))) kr (fun c5r => ?_) (fun c5r => ?_)
   ·have c5 := (beq_iff_eq.1 c5r)
    refine Cfg.begL rfl ?_
    refine Lq 1 [2,4,5,27] ?_
    refine Lu (Eff.callM (.agg (bv (digF z).1)) 1 (b := ib) (ob := Obj.cells (inC z) 102 (0,0)) (.cells (inC ((digF z).2)) 102 (0,0)) rfl Tryz.func27 rfl rfl kr kr (fun w1 h => wTDigest ib z w1 (h.own (ib,Obj.cells (inC z) 102 (0,0)) (show (ib,Obj.cells (inC z) 102 (0,0)) ∈ [(ob,Obj.cells ((oc ⟨k,m0,c0,t0⟩).toArray) 38 (0,0)),(ib,Obj.cells (inC z) 102 (0,0)),(rs,Obj.cells ((oc ⟨0,m0,c0,t0⟩).toArray) 38 (0,0))] from (mG 1 rfl))))) ?_
    refine Lq 2 [2,4,5,28,30] ?_
    refine Lu (Eff.storeN (b := ob) (off := 4) (vs := (bv (digF z).1)) (n := 32) rfl kr kr kr ((bv_size _).trans hdl) (all_bv _) 0 (cs := (oc ⟨k,m0,c0,t0⟩).toArray) (e := 38) kr (by rw [(oc_size _ d0_len d0_len)]; decide)) ?_
    refine oL 0 rfl (show _ = ((oc ⟨k,m0,⟨(digF z).1,none,0,[],0,ByteArray.empty⟩,t0⟩).toArray) from st_d4 k hdl) ?_
    refine CfgL.done rfl ?_
    refine Cg (Γ' := [(5,[],pT ob),(4,[],pT ib),(2,[],pT rs)]) ?_
    refine Cfg.permO (O' := [(ob,.cells ((oc ⟨k,m0,⟨(digF z).1,none,0,[],0,ByteArray.empty⟩,t0⟩).toArray) 38 (0,0)),(rs,.cells ((oc ⟨0,m0,c0,t0⟩).toArray) 38 (0,0)),(ib,.cells (inC ((digF z).2)) 102 (0,0))]) (.cons _ (.swap _ _ _)) ?_
    refine Cfg.begL rfl ?_
    refine Lp 1 [] none n0 trivial ?_
    refine Le (Eff.callH (vs := [pT ib,.int .i64 2,.func (.func 27) #[] #[]]) (fun o : K.Own => .slice (Own.a o) (tcP z).1.length (Own.c o)) [(ib,.cells (inC (digF z).2) 102 (0,0))] (fun o => [(ib,.cells (inC (tcP z).2) 102 (0,0))] ++ Own.o 30 ((tcP z).1.flatMap dgc) o) (fun o => OwnOk o 32 (tcP z).1.length ((tcP z).1.flatMap dgc)) ([(ob,.cells ((oc ⟨k,m0,⟨(digF z).1,none,0,[],0,ByteArray.empty⟩,t0⟩).toArray) 38 (0,0)),(rs,.cells ((oc ⟨0,m0,c0,t0⟩).toArray) 38 (0,0))]) [] (by rfl) rfl Tryz.func28 rfl rfl kr (fun w1 h hA1 hd1 => by have h9 := wRowsD ib (digF z).2 2 w1 (hA1 (ib,_) mH) (by decide); rw [show ((2 : Nat) : Int) = 2 from rfl] at h9; exact h9)) ?_
    rintro op kop
    refine Lq 2 [2,4,5,32,34] ?_
    refine Lu (Eff.store1 (b := ob) (off := 36) (v := .slice (Own.a op) ((tcP z).1.length) (Own.c op)) rfl kr kr rfl kr 0 (cs := (oc ⟨k,m0,⟨(digF z).1,none,0,[],0,ByteArray.empty⟩,t0⟩).toArray) (e := 38) kr (by rw [(oc_size _ hdl d0_len)]; decide)) ?_
    refine CfgL.done rfl ?_
    refine Cg (Γ' := [(5,[],pT ob),(4,[],pT ib),(2,[],pT rs)]) ?_
    refine Cfg.setO (congrArg (fun (xq : Array Value) => (([(ob,.cells xq 38 (0,0)),(rs,.cells ((oc ⟨0,m0,c0,t0⟩).toArray) 38 (0,0)),(ib,.cells (inC ((tcP z).2)) 102 (0,0))] ++ (Own.o 30 ((tcP z).1.flatMap dgc) op ++ [])) : LO)) (show _ = ((oc ⟨k,m0,⟨(digF z).1,Own.a op,Own.c op,(tcP z).1,0,ByteArray.empty⟩,t0⟩).toArray) from st_p36 k hdl _ _ _)) ?_
    refine Cfg.begL rfl ?_
    refine Lp 1 [] none n0 trivial ?_
    refine Lu (Eff.callM (.int .u64 ((tcN z).1 : Int)) 2 (b := ib) (ob := Obj.cells (inC ((tcP z).2)) 102 (0,0)) (.cells (inC ((tcN z).2)) 102 (0,0)) rfl Tryz.func29 rfl rfl kr kr (fun w1 h => wTEight ib (tcP z).2 w1 (h.own (ib,Obj.cells (inC ((tcP z).2)) 102 (0,0)) (show (ib,Obj.cells (inC ((tcP z).2)) 102 (0,0)) ∈ ([(ob,Obj.cells ((oc ⟨k,m0,⟨(digF z).1,Own.a op,Own.c op,(tcP z).1,0,ByteArray.empty⟩,t0⟩).toArray) 38 (0,0)),(rs,Obj.cells ((oc ⟨0,m0,c0,t0⟩).toArray) 38 (0,0)),(ib,Obj.cells (inC ((tcP z).2)) 102 (0,0))] ++ (Own.o 30 ((tcP z).1.flatMap dgc) op ++ [])) from (mL (mG 2 rfl)))))) ?_
    refine Lq 2 [2,4,5,36,38] ?_
    refine Lu (Eff.store1 (b := ob) (off := 37) (v := .int .u64 ((tcN z).1 : Int)) rfl kr kr rfl kr 0 (cs := (oc ⟨k,m0,⟨(digF z).1,Own.a op,Own.c op,(tcP z).1,0,ByteArray.empty⟩,t0⟩).toArray) (e := 38) kr (by rw [(oc_size _ hdl d0_len)]; decide)) ?_
    refine CfgL.done rfl ?_
    refine Cg (Γ' := [(5,[],pT ob),(4,[],pT ib),(2,[],pT rs)]) ?_
    refine Cfg.setO (congrArg (fun (xq : Array Value) => (([(ob,.cells xq 38 (0,0)),(rs,.cells ((oc ⟨0,m0,c0,t0⟩).toArray) 38 (0,0)),(ib,.cells (inC ((tcN z).2)) 102 (0,0))] ++ (Own.o 30 ((tcP z).1.flatMap dgc) op ++ [])) : LO)) (show _ = ((oc ⟨k,m0,⟨(digF z).1,Own.a op,Own.c op,(tcP z).1,(tcN z).1,ByteArray.empty⟩,t0⟩).toArray) from st_n37 k hdl _ _ _ _)) ?_
    refine Cfg.begL rfl ?_
    refine Lp 1 [] none n0 trivial ?_
    refine Lu (Eff.callM (.string (tx (tcT z).1)) 2 (b := ib) (ob := Obj.cells (inC ((tcN z).2)) 102 (0,0)) (.cells (inC ((tcT z).2)) 102 (0,0)) rfl Tryz.func30 rfl rfl kr kr (fun w1 h => wTText ib (tcN z).2 200 w1 (h.own (ib,Obj.cells (inC ((tcN z).2)) 102 (0,0)) (show (ib,Obj.cells (inC ((tcN z).2)) 102 (0,0)) ∈ ([(ob,Obj.cells ((oc ⟨k,m0,⟨(digF z).1,Own.a op,Own.c op,(tcP z).1,(tcN z).1,ByteArray.empty⟩,t0⟩).toArray) 38 (0,0)),(rs,Obj.cells ((oc ⟨0,m0,c0,t0⟩).toArray) 38 (0,0)),(ib,Obj.cells (inC ((tcN z).2)) 102 (0,0))] ++ (Own.o 30 ((tcP z).1.flatMap dgc) op ++ [])) from (mL (mG 2 rfl)))) (by decide))) ?_
    refine Lq 2 [2,4,5,40,42] ?_
    refine Lu (Eff.store1 (b := ob) (off := 38) (v := .string (tx (tcT z).1)) rfl kr kr rfl kr 0 (cs := (oc ⟨k,m0,⟨(digF z).1,Own.a op,Own.c op,(tcP z).1,(tcN z).1,ByteArray.empty⟩,t0⟩).toArray) (e := 38) kr (by rw [(oc_size _ hdl d0_len)]; decide)) ?_
    refine CfgL.done rfl ?_
    refine Cg (Γ' := [(5,[],pT ob),(4,[],pT ib),(2,[],pT rs)]) ?_
    refine Cfg.setO (congrArg (fun (xq : Array Value) => (([(ob,.cells xq 38 (0,0)),(rs,.cells ((oc ⟨0,m0,c0,t0⟩).toArray) 38 (0,0)),(ib,.cells (inC ((tcT z).2)) 102 (0,0))] ++ (Own.o 30 ((tcP z).1.flatMap dgc) op ++ [])) : LO)) (show _ = ((oc ⟨k,m0,⟨(digF z).1,Own.a op,Own.c op,(tcP z).1,(tcN z).1,tx (tcT z).1⟩,t0⟩).toArray) from st_t38 k hdl _ _ _ _ _)) ?_
    refine Cfg.begL rfl ?_
    refine Lq 1 [2,5,53] ?_
    refine Lu (Eff.callA (.int .i64 (endF (tcT z).2)) rfl Tryz.func31 rfl rfl kr (fun w1 h => wEnd ib (tcT z).2 w1 (h.own (ib,Obj.cells (inC ((tcT z).2)) 102 (0,0)) (show (ib,Obj.cells (inC ((tcT z).2)) 102 (0,0)) ∈ ([(ob,Obj.cells ((oc ⟨k,m0,⟨(digF z).1,Own.a op,Own.c op,(tcP z).1,(tcN z).1,tx (tcT z).1⟩,t0⟩).toArray) 38 (0,0)),(rs,Obj.cells ((oc ⟨0,m0,c0,t0⟩).toArray) 38 (0,0)),(ib,Obj.cells (inC ((tcT z).2)) 102 (0,0))] ++ (Own.o 30 ((tcP z).1.flatMap dgc) op ++ [])) from (mL (mG 2 rfl)))))) ?_
    refine Ld 1 [2,5,6] ?_
    refine Rq [2,5,6,56] ?_
    refine Cfg.cond rfl (b := ((endF (tcT z).2) != (0 : Int))) kr (fun c6r => ?_) (fun c6r => ?_)
    ·have c6 := (bne_iff_ne.1 c6r)
     refine Cfg.begL rfl ?_
     refine Lp 2 [(dS (.agg (oc oz).toArray))] (some [2,57,58]) (fun S => [(∀ w1,S w1 → (Instr.build 38 #[]).run Tryz.prog w1 = .ok (.agg (oc oz).toArray) w1)]) ⟨(fun w1 _ => kr),trivial⟩ ?_
     refine Lu (Eff.storeN (b := rs) (off := 0) (vs := (oc oz).toArray) (n := 72) rfl kr kr kr (oc_size _ d0_len d0_len) (fun q hq => all_oc _ q hq) 1 (cs := (oc ⟨0,m0,c0,t0⟩).toArray) (e := 38) kr (by rw [(oc_size _ d0_len d0_len)]; decide)) ?_
     refine CfgL.setO (congrArg (fun (xq : Array Value) => (([(ob,.cells ((oc ⟨k,m0,⟨(digF z).1,Own.a op,Own.c op,(tcP z).1,(tcN z).1,tx (tcT z).1⟩,t0⟩).toArray) 38 (0,0)),(rs,.cells xq 38 (0,0)),(ib,.cells (inC ((tcT z).2)) 102 (0,0))] ++ (Own.o 30 ((tcP z).1.flatMap dgc) op ++ [])) : LO)) (show _ = ((oc oz).toArray) from spl_all (((oc_size _ d0_len d0_len)).trans ((oc_size _ d0_len d0_len)).symm))) ?_
     refine Ld 1 [2,3] ?_
     refine Cfg.ret rfl (rs := [.cell 2 38,.tmp 3]) rfl [.agg (oc oz).toArray,.int .i64 (endF (tcT z).2)] ⟨⟨_,by kernel_rfl,(fun w1 h => h.oload 1 rfl Tryz.underlying38 rfl (n := 72) kr (oc_size _ d0_len d0_len))⟩,by kernel_rfl,trivial⟩ (fun w1 hp => ?_)
     have hfin : parE l = endF (tcT z).2 := parE_e hk hz c1 (pe_c c5) c6
     have hne : parE l ≠ 0 := by rw [hfin]; exact c6
     rw [hfin]
     exact ⟨⟨oz,[]⟩,⟨⟨InM.zero _,InC.zero _,d0_len⟩,(fun r hr => by cases hr),(by show 0 < _; decide),(by show 0 ≤ _; decide),(by show 0 ≤ _; decide),(fun _ => rfl),(fun h9 => absurd h9 hne)⟩,rfl,_,hp.sub (List.nil_sublist _)⟩
    ·have c6 := (bne_eq_false_iff_eq.1 c6r)
     refine Cfg.begL rfl ?_
     refine Lp 1 [(dS (.agg (oc ⟨k,m0,⟨(digF z).1,Own.a op,Own.c op,(tcP z).1,(tcN z).1,tx (tcT z).1⟩,t0⟩).toArray))] (some [2,5,59]) (fun S => [(∀ w1,S w1 → (loadVar 38 ⟨ob,0,none⟩).run Tryz.prog w1 = .ok (.agg (oc ⟨k,m0,⟨(digF z).1,Own.a op,Own.c op,(tcP z).1,(tcN z).1,tx (tcT z).1⟩,t0⟩).toArray) w1)]) ⟨(fun w1 h => h.oload 0 rfl Tryz.underlying38 rfl (n := 72) kr (oc_size _ hdl d0_len)),trivial⟩ ?_
     refine Lu (Eff.callA (.int .i64 (chkO ⟨k,m0,⟨(digF z).1,Own.a op,Own.c op,(tcP z).1,(tcN z).1,tx (tcT z).1⟩,t0⟩)) rfl Tryz.func15 rfl rfl kr (fun w1 h => oChk ⟨k,m0,⟨(digF z).1,Own.a op,Own.c op,(tcP z).1,(tcN z).1,tx (tcT z).1⟩,t0⟩ (Own.o 30 ((tcP z).1.flatMap dgc) op) w1 ⟨InM.zero _,⟨hdl,own_inf kop,digs_D _ _,by have h9 : (tcP z).1.length ≤ 2 := rowsG_len _ 2; show (tcP z).1.length ≤ _; omega⟩,d0_len⟩ (fun e he => h.own e (show e ∈ ([(ob,Obj.cells ((oc ⟨k,m0,⟨(digF z).1,Own.a op,Own.c op,(tcP z).1,(tcN z).1,tx (tcT z).1⟩,t0⟩).toArray) 38 (0,0)),(rs,Obj.cells ((oc ⟨0,m0,c0,t0⟩).toArray) 38 (0,0)),(ib,Obj.cells (inC ((tcT z).2)) 102 (0,0))] ++ (Own.o 30 ((tcP z).1.flatMap dgc) op ++ [])) from mR (mL he))) (fun r hr => by cases hr) (by show (tx (tcT z).1).size ≤ _; rw [tx_size]; have h9 : (tcT z).1.length ≤ 200 := textF_le _ (m := 200); omega) (by show (0 : Nat) ≤ _; decide))) ?_
     refine Ld 1 [2,5,7] ?_
     refine Cfg.reg rfl [2,5,7,62] [] (Γ' := [(62,[],.bool ((chkO ⟨k,m0,⟨(digF z).1,Own.a op,Own.c op,(tcP z).1,(tcN z).1,tx (tcT z).1⟩,t0⟩) != (0 : Int))),(7,[],.int .i64 (chkO ⟨k,m0,⟨(digF z).1,Own.a op,Own.c op,(tcP z).1,(tcN z).1,tx (tcT z).1⟩,t0⟩)),(5,[],pT ob),(2,[],pT rs)]) (nd := (fun _ => [])) (fun _ => kr) trivial ?_
     refine Cfg.cond rfl (b := ((chkO ⟨k,m0,⟨(digF z).1,Own.a op,Own.c op,(tcP z).1,(tcN z).1,tx (tcT z).1⟩,t0⟩) != (0 : Int))) kr (fun c7r => ?_) (fun c7r => ?_)
     ·have c7 := (bne_iff_ne.1 c7r)
      refine Cfg.begL rfl ?_
      refine Lp 2 [(dS (.agg (oc oz).toArray))] (some [2,63,64]) (fun S => [(∀ w1,S w1 → (Instr.build 38 #[]).run Tryz.prog w1 = .ok (.agg (oc oz).toArray) w1)]) ⟨(fun w1 _ => kr),trivial⟩ ?_
      refine Lu (Eff.storeN (b := rs) (off := 0) (vs := (oc oz).toArray) (n := 72) rfl kr kr kr (oc_size _ d0_len d0_len) (fun q hq => all_oc _ q hq) 1 (cs := (oc ⟨0,m0,c0,t0⟩).toArray) (e := 38) kr (by rw [(oc_size _ d0_len d0_len)]; decide)) ?_
      refine CfgL.setO (congrArg (fun (xq : Array Value) => (([(ob,.cells ((oc ⟨k,m0,⟨(digF z).1,Own.a op,Own.c op,(tcP z).1,(tcN z).1,tx (tcT z).1⟩,t0⟩).toArray) 38 (0,0)),(rs,.cells xq 38 (0,0)),(ib,.cells (inC ((tcT z).2)) 102 (0,0))] ++ (Own.o 30 ((tcP z).1.flatMap dgc) op ++ [])) : LO)) (show _ = ((oc oz).toArray) from spl_all (((oc_size _ d0_len d0_len)).trans ((oc_size _ d0_len d0_len)).symm))) ?_
      refine Ld 1 [2,3] ?_
      refine Cfg.ret rfl (rs := [.cell 2 38,.tmp 3]) rfl [.agg (oc oz).toArray,.int .i64 (chkO ⟨k,m0,⟨(digF z).1,Own.a op,Own.c op,(tcP z).1,(tcN z).1,tx (tcT z).1⟩,t0⟩)] ⟨⟨_,by kernel_rfl,(fun w1 h => h.oload 1 rfl Tryz.underlying38 rfl (n := 72) kr (oc_size _ d0_len d0_len))⟩,by kernel_rfl,trivial⟩ (fun w1 hp => ?_)
      have hce : chkO ⟨k,m0,⟨(digF z).1,Own.a op,Own.c op,(tcP z).1,(tcN z).1,tx (tcT z).1⟩,t0⟩ = parChk k z := (chkO_com (o := ⟨k,m0,⟨(digF z).1,Own.a op,Own.c op,(tcP z).1,(tcN z).1,tx (tcT z).1⟩,t0⟩) c5).trans (pc_c c5).symm
      have hfin : parE l = chkO ⟨k,m0,⟨(digF z).1,Own.a op,Own.c op,(tcP z).1,(tcN z).1,tx (tcT z).1⟩,t0⟩ := parE_c hk hz c1 ((pe_c c5).trans om) hce.symm
      have hne : parE l ≠ 0 := by rw [hfin]; exact c7
      rw [hfin]
      exact ⟨⟨oz,[]⟩,⟨⟨InM.zero _,InC.zero _,d0_len⟩,(fun r hr => by cases hr),(by show 0 < _; decide),(by show 0 ≤ _; decide),(by show 0 ≤ _; decide),(fun _ => rfl),(fun h9 => absurd h9 hne)⟩,rfl,_,hp.sub (List.nil_sublist _)⟩
     ·have c7 := (bne_eq_false_iff_eq.1 c7r)
      refine Cfg.begL rfl ?_
      refine Lp 1 [(dS (.agg (oc ⟨k,m0,⟨(digF z).1,Own.a op,Own.c op,(tcP z).1,(tcN z).1,tx (tcT z).1⟩,t0⟩).toArray))] (some [2,65]) (fun S => [(∀ w1,S w1 → (loadVar 38 ⟨ob,0,none⟩).run Tryz.prog w1 = .ok (.agg (oc ⟨k,m0,⟨(digF z).1,Own.a op,Own.c op,(tcP z).1,(tcN z).1,tx (tcT z).1⟩,t0⟩).toArray) w1)]) ⟨(fun w1 h => h.oload 0 rfl Tryz.underlying38 rfl (n := 72) kr (oc_size _ hdl d0_len)),trivial⟩ ?_
      refine Lu (Eff.storeN (b := rs) (off := 0) (vs := (oc ⟨k,m0,⟨(digF z).1,Own.a op,Own.c op,(tcP z).1,(tcN z).1,tx (tcT z).1⟩,t0⟩).toArray) (n := 72) rfl kr kr kr (oc_size _ hdl d0_len) (fun q hq => all_oc _ q hq) 1 (cs := (oc ⟨0,m0,c0,t0⟩).toArray) (e := 38) kr (by rw [(oc_size _ d0_len d0_len)]; decide)) ?_
      refine CfgL.setO (congrArg (fun (xq : Array Value) => (([(ob,.cells ((oc ⟨k,m0,⟨(digF z).1,Own.a op,Own.c op,(tcP z).1,(tcN z).1,tx (tcT z).1⟩,t0⟩).toArray) 38 (0,0)),(rs,.cells xq 38 (0,0)),(ib,.cells (inC ((tcT z).2)) 102 (0,0))] ++ (Own.o 30 ((tcP z).1.flatMap dgc) op ++ [])) : LO)) (show _ = ((oc ⟨k,m0,⟨(digF z).1,Own.a op,Own.c op,(tcP z).1,(tcN z).1,tx (tcT z).1⟩,t0⟩).toArray) from spl_all (((oc_size _ hdl d0_len)).trans ((oc_size _ d0_len d0_len)).symm))) ?_
      refine Ld 1 [2,3] ?_
      refine Cfg.ret rfl (rs := [.cell 2 38,.tmp 3]) rfl [.agg (oc ⟨k,m0,⟨(digF z).1,Own.a op,Own.c op,(tcP z).1,(tcN z).1,tx (tcT z).1⟩,t0⟩).toArray,.int .i64 0] ⟨⟨_,by kernel_rfl,(fun w1 h => h.oload 1 rfl Tryz.underlying38 rfl (n := 72) kr (oc_size _ hdl d0_len))⟩,by kernel_rfl,trivial⟩ (fun w1 hp => ?_)
      have hce : chkO ⟨k,m0,⟨(digF z).1,Own.a op,Own.c op,(tcP z).1,(tcN z).1,tx (tcT z).1⟩,t0⟩ = parChk k z := (chkO_com (o := ⟨k,m0,⟨(digF z).1,Own.a op,Own.c op,(tcP z).1,(tcN z).1,tx (tcT z).1⟩,t0⟩) c5).trans (pc_c c5).symm
      have hfin : parE l = chkO ⟨k,m0,⟨(digF z).1,Own.a op,Own.c op,(tcP z).1,(tcN z).1,tx (tcT z).1⟩,t0⟩ := parE_c hk hz c1 ((pe_c c5).trans om) hce.symm
      have h0 : parE l = 0 := by rw [hfin]; omega
      rw [h0]
      have h9 : HP w [] [] (Own.o 30 ((tcP z).1.flatMap dgc) op ++ []) w1 := hp.sub (.cons _ (.cons _ (.cons _ slr)))
      rw [List.append_nil] at h9
      exact ⟨⟨⟨k,m0,⟨(digF z).1,Own.a op,Own.c op,(tcP z).1,(tcN z).1,tx (tcT z).1⟩,t0⟩,Own.o 30 ((tcP z).1.flatMap dgc) op⟩,⟨⟨InM.zero _,⟨hdl,own_inf kop,digs_D _ _,by have h9 : (tcP z).1.length ≤ 2 := rowsG_len _ 2; show (tcP z).1.length ≤ _; omega⟩,d0_len⟩,(fun r hr => by cases hr),(by show (tcN z).1 < _; exact valF_lt _),(by show (tx (tcT z).1).size ≤ _; rw [tx_size]; exact textF_le _ (m := 200)),(by show 0 ≤ _; decide),(fun h8 => absurd h0 h8),(fun _ => ⟨hk,(fun h9 => by have : k = 109 := h9; omega),(fun _ => by rw [← hz]; exact ⟨rfl,rfl,rfl,rfl⟩),(fun h9 => by have : k = 116 := h9; omega)⟩)⟩,rfl,_,h9⟩
   ·have c5 := (beq_eq_false_iff_ne.1 c5r)
    refine Rq [2,4,5,43] ?_
    refine Cfg.cond rfl (b := ((k : Int) == (116 : Int))) kr (fun c8r => ?_) (fun c8r => ?_)
    ·have c8 := (beq_iff_eq.1 c8r)
     refine Cfg.begL rfl ?_
     refine Lq 1 [2,4,5,45] ?_
     refine Lu (Eff.callM (.agg (bv (digF z).1)) 1 (b := ib) (ob := Obj.cells (inC z) 102 (0,0)) (.cells (inC ((digF z).2)) 102 (0,0)) rfl Tryz.func27 rfl rfl kr kr (fun w1 h => wTDigest ib z w1 (h.own (ib,Obj.cells (inC z) 102 (0,0)) (show (ib,Obj.cells (inC z) 102 (0,0)) ∈ [(ob,Obj.cells ((oc ⟨k,m0,c0,t0⟩).toArray) 38 (0,0)),(ib,Obj.cells (inC z) 102 (0,0)),(rs,Obj.cells ((oc ⟨0,m0,c0,t0⟩).toArray) 38 (0,0))] from (mG 1 rfl))))) ?_
     refine Lq 2 [2,4,5,46,48] ?_
     refine Lu (Eff.storeN (b := ob) (off := 39) (vs := (bv (digF z).1)) (n := 32) rfl kr kr kr ((bv_size _).trans hdl) (all_bv _) 0 (cs := (oc ⟨k,m0,c0,t0⟩).toArray) (e := 38) kr (by rw [(oc_size _ d0_len d0_len)]; decide)) ?_
     refine oL 0 rfl (show _ = ((oc ⟨k,m0,c0,⟨(digF z).1,ByteArray.empty⟩⟩).toArray) from st_d39 k hdl) ?_
     refine CfgL.done rfl ?_
     refine Cg (Γ' := [(5,[],pT ob),(4,[],pT ib),(2,[],pT rs)]) ?_
     refine Cfg.begL rfl ?_
     refine Lp 1 [] none n0 trivial ?_
     refine Lu (Eff.callM (.string (tx (ttT z).1)) 1 (b := ib) (ob := Obj.cells (inC ((digF z).2)) 102 (0,0)) (.cells (inC ((ttT z).2)) 102 (0,0)) rfl Tryz.func30 rfl rfl kr kr (fun w1 h => wTText ib (digF z).2 200 w1 (h.own (ib,Obj.cells (inC ((digF z).2)) 102 (0,0)) (show (ib,Obj.cells (inC ((digF z).2)) 102 (0,0)) ∈ [(ob,Obj.cells ((oc ⟨k,m0,c0,⟨(digF z).1,ByteArray.empty⟩⟩).toArray) 38 (0,0)),(ib,Obj.cells (inC ((digF z).2)) 102 (0,0)),(rs,Obj.cells ((oc ⟨0,m0,c0,t0⟩).toArray) 38 (0,0))] from (mG 1 rfl))) (by decide))) ?_
     refine Lq 2 [2,4,5,50,52] ?_
     refine Lu (Eff.store1 (b := ob) (off := 71) (v := .string (tx (ttT z).1)) rfl kr kr rfl kr 0 (cs := (oc ⟨k,m0,c0,⟨(digF z).1,ByteArray.empty⟩⟩).toArray) (e := 38) kr (by rw [(oc_size _ d0_len hdl)]; decide)) ?_
     refine CfgL.done rfl ?_
     refine Cg (Γ' := [(5,[],pT ob),(4,[],pT ib),(2,[],pT rs)]) ?_
     refine oB 0 rfl (show _ = ((oc ⟨k,m0,c0,⟨(digF z).1,tx (ttT z).1⟩⟩).toArray) from st_t71 k hdl _) ?_
     refine Cfg.begL rfl ?_
     refine Lq 1 [2,5,53] ?_
     refine Lu (Eff.callA (.int .i64 (endF (ttT z).2)) rfl Tryz.func31 rfl rfl kr (fun w1 h => wEnd ib (ttT z).2 w1 (h.own (ib,Obj.cells (inC ((ttT z).2)) 102 (0,0)) (show (ib,Obj.cells (inC ((ttT z).2)) 102 (0,0)) ∈ [(ob,Obj.cells ((oc ⟨k,m0,c0,⟨(digF z).1,tx (ttT z).1⟩⟩).toArray) 38 (0,0)),(ib,Obj.cells (inC ((ttT z).2)) 102 (0,0)),(rs,Obj.cells ((oc ⟨0,m0,c0,t0⟩).toArray) 38 (0,0))] from (mG 1 rfl))))) ?_
     refine Ld 1 [2,5,6] ?_
     refine Rq [2,5,6,56] ?_
     refine Cfg.cond rfl (b := ((endF (ttT z).2) != (0 : Int))) kr (fun c9r => ?_) (fun c9r => ?_)
     ·have c9 := (bne_iff_ne.1 c9r)
      refine Cfg.begL rfl ?_
      refine Lp 2 [(dS (.agg (oc oz).toArray))] (some [2,57,58]) (fun S => [(∀ w1,S w1 → (Instr.build 38 #[]).run Tryz.prog w1 = .ok (.agg (oc oz).toArray) w1)]) ⟨(fun w1 _ => kr),trivial⟩ ?_
      refine Lu (Eff.storeN (b := rs) (off := 0) (vs := (oc oz).toArray) (n := 72) rfl kr kr kr (oc_size _ d0_len d0_len) (fun q hq => all_oc _ q hq) 2 (cs := (oc ⟨0,m0,c0,t0⟩).toArray) (e := 38) kr (by rw [(oc_size _ d0_len d0_len)]; decide)) ?_
      refine oL 2 rfl (show _ = ((oc oz).toArray) from spl_all (((oc_size _ d0_len d0_len)).trans ((oc_size _ d0_len d0_len)).symm)) ?_
      refine Ld 1 [2,3] ?_
      refine Cfg.ret rfl (rs := [.cell 2 38,.tmp 3]) rfl [.agg (oc oz).toArray,.int .i64 (endF (ttT z).2)] ⟨⟨_,by kernel_rfl,(fun w1 h => h.oload 2 rfl Tryz.underlying38 rfl (n := 72) kr (oc_size _ d0_len d0_len))⟩,by kernel_rfl,trivial⟩ (fun w1 hp => ?_)
      have hfin : parE l = endF (ttT z).2 := parE_e hk hz c1 (pe_t c8) c9
      have hne : parE l ≠ 0 := by rw [hfin]; exact c9
      rw [hfin]
      exact ⟨⟨oz,[]⟩,⟨⟨InM.zero _,InC.zero _,d0_len⟩,(fun r hr => by cases hr),(by show 0 < _; decide),(by show 0 ≤ _; decide),(by show 0 ≤ _; decide),(fun _ => rfl),(fun h9 => absurd h9 hne)⟩,rfl,_,hp.sub (List.nil_sublist _)⟩
     ·have c9 := (bne_eq_false_iff_eq.1 c9r)
      refine Cfg.begL rfl ?_
      refine Lp 1 [(dS (.agg (oc ⟨k,m0,c0,⟨(digF z).1,tx (ttT z).1⟩⟩).toArray))] (some [2,5,59]) (fun S => [(∀ w1,S w1 → (loadVar 38 ⟨ob,0,none⟩).run Tryz.prog w1 = .ok (.agg (oc ⟨k,m0,c0,⟨(digF z).1,tx (ttT z).1⟩⟩).toArray) w1)]) ⟨(fun w1 h => h.oload 0 rfl Tryz.underlying38 rfl (n := 72) kr (oc_size _ d0_len hdl)),trivial⟩ ?_
      refine Lu (Eff.callA (.int .i64 (chkO ⟨k,m0,c0,⟨(digF z).1,tx (ttT z).1⟩⟩)) rfl Tryz.func15 rfl rfl kr (fun w1 h => oChk ⟨k,m0,c0,⟨(digF z).1,tx (ttT z).1⟩⟩ ([]) w1 ⟨InM.zero _,InC.zero _,hdl⟩ (fun e he => by cases he) (fun r hr => by cases hr) (by show (0 : Nat) ≤ _; decide) (by show (tx (ttT z).1).size ≤ _; rw [tx_size]; have h9 : (ttT z).1.length ≤ 200 := textF_le _ (m := 200); omega))) ?_
      refine Ld 1 [2,5,7] ?_
      refine Cfg.reg rfl [2,5,7,62] [] (Γ' := [(62,[],.bool ((chkO ⟨k,m0,c0,⟨(digF z).1,tx (ttT z).1⟩⟩) != (0 : Int))),(7,[],.int .i64 (chkO ⟨k,m0,c0,⟨(digF z).1,tx (ttT z).1⟩⟩)),(5,[],pT ob),(2,[],pT rs)]) (nd := (fun _ => [])) (fun _ => kr) trivial ?_
      refine Cfg.cond rfl (b := ((chkO ⟨k,m0,c0,⟨(digF z).1,tx (ttT z).1⟩⟩) != (0 : Int))) kr (fun c10r => ?_) (fun c10r => ?_)
      ·have c10 := (bne_iff_ne.1 c10r)
       refine Cfg.begL rfl ?_
       refine Lp 2 [(dS (.agg (oc oz).toArray))] (some [2,63,64]) (fun S => [(∀ w1,S w1 → (Instr.build 38 #[]).run Tryz.prog w1 = .ok (.agg (oc oz).toArray) w1)]) ⟨(fun w1 _ => kr),trivial⟩ ?_
       refine Lu (Eff.storeN (b := rs) (off := 0) (vs := (oc oz).toArray) (n := 72) rfl kr kr kr (oc_size _ d0_len d0_len) (fun q hq => all_oc _ q hq) 2 (cs := (oc ⟨0,m0,c0,t0⟩).toArray) (e := 38) kr (by rw [(oc_size _ d0_len d0_len)]; decide)) ?_
       refine oL 2 rfl (show _ = ((oc oz).toArray) from spl_all (((oc_size _ d0_len d0_len)).trans ((oc_size _ d0_len d0_len)).symm)) ?_
       refine Ld 1 [2,3] ?_
       refine Cfg.ret rfl (rs := [.cell 2 38,.tmp 3]) rfl [.agg (oc oz).toArray,.int .i64 (chkO ⟨k,m0,c0,⟨(digF z).1,tx (ttT z).1⟩⟩)] ⟨⟨_,by kernel_rfl,(fun w1 h => h.oload 2 rfl Tryz.underlying38 rfl (n := 72) kr (oc_size _ d0_len d0_len))⟩,by kernel_rfl,trivial⟩ (fun w1 hp => ?_)
       have hce : chkO ⟨k,m0,c0,⟨(digF z).1,tx (ttT z).1⟩⟩ = parChk k z := (chkO_tag (o := ⟨k,m0,c0,⟨(digF z).1,tx (ttT z).1⟩⟩) c8).trans (pc_t c8).symm
       have hfin : parE l = chkO ⟨k,m0,c0,⟨(digF z).1,tx (ttT z).1⟩⟩ := parE_c hk hz c1 ((pe_t c8).trans om) hce.symm
       have hne : parE l ≠ 0 := by rw [hfin]; exact c10
       rw [hfin]
       exact ⟨⟨oz,[]⟩,⟨⟨InM.zero _,InC.zero _,d0_len⟩,(fun r hr => by cases hr),(by show 0 < _; decide),(by show 0 ≤ _; decide),(by show 0 ≤ _; decide),(fun _ => rfl),(fun h9 => absurd h9 hne)⟩,rfl,_,hp.sub (List.nil_sublist _)⟩
      ·have c10 := (bne_eq_false_iff_eq.1 c10r)
       refine Cfg.begL rfl ?_
       refine Lp 1 [(dS (.agg (oc ⟨k,m0,c0,⟨(digF z).1,tx (ttT z).1⟩⟩).toArray))] (some [2,65]) (fun S => [(∀ w1,S w1 → (loadVar 38 ⟨ob,0,none⟩).run Tryz.prog w1 = .ok (.agg (oc ⟨k,m0,c0,⟨(digF z).1,tx (ttT z).1⟩⟩).toArray) w1)]) ⟨(fun w1 h => h.oload 0 rfl Tryz.underlying38 rfl (n := 72) kr (oc_size _ d0_len hdl)),trivial⟩ ?_
       refine Lu (Eff.storeN (b := rs) (off := 0) (vs := (oc ⟨k,m0,c0,⟨(digF z).1,tx (ttT z).1⟩⟩).toArray) (n := 72) rfl kr kr kr (oc_size _ d0_len hdl) (fun q hq => all_oc _ q hq) 2 (cs := (oc ⟨0,m0,c0,t0⟩).toArray) (e := 38) kr (by rw [(oc_size _ d0_len d0_len)]; decide)) ?_
       refine oL 2 rfl (show _ = ((oc ⟨k,m0,c0,⟨(digF z).1,tx (ttT z).1⟩⟩).toArray) from spl_all (((oc_size _ d0_len hdl)).trans ((oc_size _ d0_len d0_len)).symm)) ?_
       refine Ld 1 [2,3] ?_
       refine Cfg.ret rfl (rs := [.cell 2 38,.tmp 3]) rfl [.agg (oc ⟨k,m0,c0,⟨(digF z).1,tx (ttT z).1⟩⟩).toArray,.int .i64 0] ⟨⟨_,by kernel_rfl,(fun w1 h => h.oload 2 rfl Tryz.underlying38 rfl (n := 72) kr (oc_size _ d0_len hdl))⟩,by kernel_rfl,trivial⟩ (fun w1 hp => ?_)
       have hce : chkO ⟨k,m0,c0,⟨(digF z).1,tx (ttT z).1⟩⟩ = parChk k z := (chkO_tag (o := ⟨k,m0,c0,⟨(digF z).1,tx (ttT z).1⟩⟩) c8).trans (pc_t c8).symm
       have hfin : parE l = chkO ⟨k,m0,c0,⟨(digF z).1,tx (ttT z).1⟩⟩ := parE_c hk hz c1 ((pe_t c8).trans om) hce.symm
       have h0 : parE l = 0 := by rw [hfin]; omega
       rw [h0]
       have h9 : HP w [] [] [] w1 := hp.sub (List.nil_sublist _)
       exact ⟨⟨⟨k,m0,c0,⟨(digF z).1,tx (ttT z).1⟩⟩,[]⟩,⟨⟨InM.zero _,InC.zero _,hdl⟩,(fun r hr => by cases hr),(by show 0 < _; decide),(by show 0 ≤ _; decide),(by show (tx (ttT z).1).size ≤ _; rw [tx_size]; exact textF_le _ (m := 200)),(fun h8 => absurd h0 h8),(fun _ => ⟨hk,(fun h9 => by have : k = 109 := h9; omega),(fun h9 => by have : k = 99 := h9; omega),(fun _ => by rw [← hz]; exact ⟨rfl,rfl⟩)⟩)⟩,rfl,_,h9⟩
    ·have c8 := (beq_eq_false_iff_ne.1 c8r)
     refine Cfg.begL rfl ?_
     refine Lp 1 [(dS (.agg (oc oz).toArray))] (some [2,19]) (fun S => [(∀ w1,S w1 → (Instr.build 38 #[]).run Tryz.prog w1 = .ok (.agg (oc oz).toArray) w1)]) ⟨(fun w1 _ => kr),trivial⟩ ?_
     refine Lu (Eff.storeN (b := rs) (off := 0) (vs := (oc oz).toArray) (n := 72) rfl kr kr kr (oc_size _ d0_len d0_len) (fun q hq => all_oc _ q hq) 2 (cs := (oc ⟨0,m0,c0,t0⟩).toArray) (e := 38) kr (by rw [(oc_size _ d0_len d0_len)]; decide)) ?_
     refine oL 2 rfl (show _ = ((oc oz).toArray) from spl_all (((oc_size _ d0_len d0_len)).trans ((oc_size _ d0_len d0_len)).symm)) ?_
     refine Ld 1 [2,3] ?_
     refine Cfg.ret rfl (rs := [.cell 2 38,.tmp 3]) rfl [.agg (oc oz).toArray,.int .i64 11] ⟨⟨_,by kernel_rfl,(fun w1 h => h.oload 2 rfl Tryz.underlying38 rfl (n := 72) kr (oc_size _ d0_len d0_len))⟩,by kernel_rfl,trivial⟩ (fun w1 hp => ?_)
     have hfin : parE l = 11 := parE_e hk hz c1 (pe_n c2 c5 c8) (by decide)
     have hne : parE l ≠ 0 := by rw [hfin]; decide
     rw [hfin]
     exact ⟨⟨oz,[]⟩,⟨⟨InM.zero _,InC.zero _,d0_len⟩,(fun r hr => by cases hr),(by show 0 < _; decide),(by show 0 ≤ _; decide),(by show 0 ≤ _; decide),(fun _ => rfl),(fun h9 => absurd h9 hne)⟩,rfl,_,hp.sub (List.nil_sublist _)⟩
theorem endF_0 {z : IN} (h : endF z = 0) : z.er = 0 ∧ z.rest = [] := by
 unfold endF at h
 split at h
 ·rename_i h1; exact absurd h h1
 ·rename_i h1
  split at h
  ·exact absurd h (by decide)
  ·rename_i h2
   exact ⟨Decidable.not_not.1 h1,List.eq_nil_of_length_eq_zero om⟩
theorem endF_nil : endF ⟨0,[]⟩ = 0 := rfl
theorem byte_ok {l : List UInt8} (h : (byteF ⟨0,l⟩).2.er = 0) : l = be (byteF ⟨0,l⟩).1 1 ++ (byteF ⟨0,l⟩).2.rest := by
 obtain ⟨_,h2,_,h4⟩ := next_ok (z := ⟨0,l⟩) (n := 1) h
 have h5 : (nextF ⟨0,l⟩ 1).1.length = 1 := h4
 have h6 := be_val (nextF ⟨0,l⟩ 1).1 (by rw [h5]; decide)
 rw [h5] at h6
 have h7 : be (byteF ⟨0,l⟩).1 1 = (nextF ⟨0,l⟩ 1).1 := by
  show be (valF (nextF ⟨0,l⟩ 1).1 % 256) 1 = _
  have h8 := be_mod (valF (nextF ⟨0,l⟩ 1).1) 1
  rw [Nat.pow_one] at h8
  rw [h8,h6]
 rw [h7]
 exact h2
theorem byteF_app (n : Nat) (r : List UInt8) (h : n < 256) : byteF ⟨0,be n 1 ++ r⟩ = (n,⟨0,r⟩) := by
 unfold byteF
 rw [nextF_app (be n 1) r (by rw [be_len]; rfl),show valF (be n 1) = n from valF_be n 1 (by decide) (by rw [Nat.pow_one]; exact h),Nat.mod_eq_of_lt h]
theorem par_k {l : List UInt8} (h : parE l = 0) : ¬ l.length = 0 ∧ parEnd (byteF ⟨0,l⟩).1 (byteF ⟨0,l⟩).2 = 0 ∧ parChk (byteF ⟨0,l⟩).1 (byteF ⟨0,l⟩).2 = 0 := by
 unfold parE at h
 split at h
 ·exact absurd h (by decide)
 ·rename_i h1
  split at h
  ·rename_i h2; exact absurd h h2
  ·rename_i h2; exact ⟨h1,Decidable.not_not.1 h2,h⟩
theorem read_back {l : List UInt8} {o : OM} (h : parE l = 0) (hc : ParC l o) : chkO o = 0 ∧ objL o = l := by
 obtain ⟨_,h2,h3⟩ := par_k h
 have hk := hc.k
 rw [← hk] at h2 h3
 by_cases k1 : o.k = 109
 ·obtain ⟨a,b,c⟩ := hc.m k1
  rw [pe_m om] at h2
  rw [pc_m om] at h3
  obtain ⟨e1,e2⟩ := endF_0 h2
  obtain ⟨f1,f2⟩ := map_ok e1
  have hb := byte_ok f1
  refine ⟨?_,?_⟩
  ·rw [chkO_map om,a,b,c]; exact h3
  ·unfold objL
   rw [if_pos k1,a,b,c,hk]
   rw [e2,List.append_nil] at f2
   rw [← f2]
   exact hb.symm
 ·by_cases k2 : o.k = 99
  ·obtain ⟨a,b,c,d⟩ := hc.c k2
   rw [pe_c om] at h2
   rw [pc_c om] at h3
   obtain ⟨e1,e2⟩ := endF_0 h2
   obtain ⟨f1,f2⟩ := com_ok e1
   have hb := byte_ok f1
   refine ⟨?_,?_⟩
   ·rw [chkO_com om,b,d]; exact h3
   ·unfold objL
    rw [if_neg k1,if_pos k2,a,b,c,d,hk]
    rw [e2,List.append_nil] at f2
    rw [← f2]
    exact hb.symm
  ·by_cases k3 : o.k = 116
   ·obtain ⟨a,b⟩ := hc.t k3
    rw [pe_t om] at h2
    rw [pc_t om] at h3
    obtain ⟨e1,e2⟩ := endF_0 h2
    obtain ⟨f1,f2⟩ := tag_ok e1
    have hb := byte_ok f1
    refine ⟨?_,?_⟩
    ·rw [chkO_tag om,b]; exact h3
    ·unfold objL
     rw [if_neg k1,if_neg k2,a,b,hk]
     rw [e2,List.append_nil] at f2
     rw [← f2]
     exact hb.symm
   ·rw [pe_n om om om] at h2
    exact absurd h2 (by decide)
theorem write_back {Rl : List (Nat × Obj)} {o : OM} (h : chkO o = 0) (hO : InO Rl o) (hu : ∀ r ∈ o.m.rs,∀ n ∈ r.xs,n < 4294967296) (hn : o.c.n < 18446744073709551616) :
  parE (objL o) = 0 ∧ ∀ x,ParC (objL o) x → osame x o = true ∧ osame o x = true := by
 have hk := chkO_kind h
 have hk2 : o.k < 256 := by omega
 have hne : ¬ (objL o).length = 0 := by unfold objL; rw [List.length_append,be_len]; omega
 by_cases k1 : o.k = 109
 ·have hr := h
  rw [chkO_map om] at hr
  have hin := rightF_in hr (fun t ht n hn => by obtain ⟨r,h1,rfl⟩ := List.mem_map.1 ht; exact hu r h1 n hn)
  have hb : byteF ⟨0,objL o⟩ = (o.k,⟨0,mapL o.m.vs o.m.es (o.m.rs.map RowU.xs)⟩) := by
   unfold objL; rw [if_pos k1]; exact byteF_app _ _ hk2
  obtain ⟨a,b,c⟩ := map_back hin []
  rw [List.append_nil] at a b c
  refine ⟨?_,fun x hx => ?_⟩
  ·unfold parE
   rw [if_neg hne,hb]
   show (if parEnd o.k _ ≠ 0 then _ else _) = _
   rw [pe_m om,c,if_neg (by rw [endF_nil]; decide),pc_m om,a,b,c]
   exact hr
  ·have hxk : x.k = o.k := by rw [hx.k,hb]
   obtain ⟨d,e,f⟩ := hx.m om
   rw [hb] at d e f
   have d := d.trans a
   have e := e.trans b
   have f := f.trans (congrArg Prod.fst c)
   have f : x.m.rs.map RowU.xs = o.m.rs.map RowU.xs := f
   refine ⟨?_,?_⟩
   ·rw [os_map om om]; unfold msame; rw [d,e,f,decide_eq_true rfl,decide_eq_true rfl,decide_eq_true rfl]; rfl
   ·rw [os_map om om]; unfold msame; rw [d,e,f,decide_eq_true rfl,decide_eq_true rfl,decide_eq_true rfl]; rfl
 ·by_cases k2 : o.k = 99
  ·have hr := h
   rw [chkO_com om] at hr
   obtain ⟨p2,t2⟩ := comE_ok hr
   have hb : byteF ⟨0,objL o⟩ = (o.k,⟨0,comL o.c.d o.c.ps o.c.n o.c.t⟩) := by
    unfold objL; rw [if_neg k1,if_pos k2]; exact byteF_app _ _ hk2
   obtain ⟨a,b,c,d⟩ := com_back hO.c.d p2 hO.c.w hn t2 []
   rw [List.append_nil] at a b c d
   refine ⟨?_,fun x hx => ?_⟩
   ·unfold parE
    rw [if_neg hne,hb]
    show (if parEnd o.k _ ≠ 0 then _ else _) = _
    rw [pe_c om,d,if_neg (by rw [endF_nil]; decide),pc_c om,b,d]
    show comE o.c.ps (tx o.c.t.data.toList) = 0
    rw [tx_back]; exact hr
   ·have hxk : x.k = o.k := by rw [hx.k,hb]
    obtain ⟨e,f,g,i⟩ := hx.c om
    rw [hb] at e f g i
    have e := e.trans a
    have f := f.trans b
    have g := g.trans c
    have i : x.c.t = o.c.t := i.trans ((congrArg (fun q : List UInt8 × IN => tx q.1) d).trans (tx_back _))
    refine ⟨?_,?_⟩
    ·rw [os_com om om om]; unfold csame; rw [e,f,g,i,decide_eq_true rfl,beq_self_eq_true,beq_self_eq_true,beq_self_eq_true]; rfl
    ·rw [os_com om om om]; unfold csame; rw [e,f,g,i,decide_eq_true rfl,beq_self_eq_true,beq_self_eq_true,beq_self_eq_true]; rfl
  ·have k3 : o.k = 116 := by omega
   have hr := h
   rw [chkO_tag om] at hr
   have t2 := txtE_ok hr
   have hb : byteF ⟨0,objL o⟩ = (o.k,⟨0,tagL o.t.d o.t.t⟩) := by
    unfold objL; rw [if_neg k1,if_neg k2]; exact byteF_app _ _ hk2
   obtain ⟨a,d⟩ := tag_back hO.t t2 []
   rw [List.append_nil] at a d
   refine ⟨?_,fun x hx => ?_⟩
   ·unfold parE
    rw [if_neg hne,hb]
    show (if parEnd o.k _ ≠ 0 then _ else _) = _
    rw [pe_t om,d,if_neg (by rw [endF_nil]; decide),pc_t om,d]
    show txtE (tx o.t.t.data.toList) = 0
    rw [tx_back]; exact hr
   ·have hxk : x.k = o.k := by rw [hx.k,hb]
    obtain ⟨e,i⟩ := hx.t om
    rw [hb] at e i
    have e := e.trans a
    have i : x.t.t = o.t.t := i.trans ((congrArg (fun q : List UInt8 × IN => tx q.1) d).trans (tx_back _))
    refine ⟨?_,?_⟩
    ·rw [os_tag om om om om]; unfold tsame; rw [e,i,beq_self_eq_true,beq_self_eq_true]; rfl
    ·rw [os_tag om om om om]; unfold tsame; rw [e,i,beq_self_eq_true,beq_self_eq_true]; rfl
end Go.Proofs.YtbeeelgfhfmgbaaGreatDoor
