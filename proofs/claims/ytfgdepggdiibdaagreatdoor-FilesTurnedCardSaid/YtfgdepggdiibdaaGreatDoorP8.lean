/- Texts on which the proof of this claim stands: JpW, FlW, SpF, Fl17, IU, IV, K38, Lay3, Fl14, Fl18, Fl19. -/
import Derived.Test.YtfgdepggdiibdaaGreatDoorP7
import Derived.Test.YtfgdepggdiibdaaGreatDoorP6
import Derived.Test.YtfgdepggdiibdaaGreatDoorP2
import Derived.Test.YtfgdepggdiibdaaGreatDoorP5
import Derived.Sort.KeysCollected
import Derived.Sort.Walk0
import Derived.Below
import Derived.Shelf.SlIter.Nil
import Derived.Test.YtfgdepggdiibdaaGreatDoorP3
import Derived.Test.YtfgdepggdiibdaaGreatDoorChecked
import Derived.Shelf.SortM.Plain
import Derived.Shelf.SortM.SortNone
import Derived.Test.YtfgdepggdiibdaaGreatDoorP1
namespace Go.Proofs.YtfgdepggdiibdaaGreatDoor
open K
set_option linter.unusedVariables false
def w2 : List Wr := [(100,bk1 1),(150,bk1 2)]
theorem w2_w : WW w2 := fun x hx => by
 rcases List.mem_cons.1 hx with rfl | hx
 ·exact bk1_len 1
 ·rw [List.mem_singleton.1 hx]; exact bk1_len 2
def l200 : List (List UInt8) := List.replicate 200 zb
def aD4 (H : List UInt8) : DK := { fuse := -1,steps := 10,down := false,last := (((((l200.set 0 zb).set 1 (bk1 1)).set 2 (bk1 2)).set 0 H).set 100 (bk1 1)).set 150 (bk1 2),wait := [] }
theorem srt2 {a b : Int} (h : a ≤ b) : srt [a,b] = [a,b] := List.mergeSort_of_pairwise (by simp [leI,h])
theorem keys2 {q r : Int} (h : q ≤ r) (b c : List UInt8) : keysW [(q,b),(r,c)] = [q,r] := by unfold keysW wv2; exact srt2 h
theorem bar1 (s : Int) (l : List (List UInt8)) (q : Nat) (b : List UInt8) : barF (aDk s l [((q : Int),b)]) = (0,aDk (s + 1) (l.set q b) []) := by
 have h1 : spF (aDk s l [((q : Int),b)]) = (true,aDk (s + 1) l [((q : Int),b)]) := rfl
 unfold barF
 rw [h1]
 show ((0 : Int),({ fuse := -1,steps := s + 1,down := false,last := setl _ _ 0 (keysW [((q : Int),b)]) l,wait := [] } : DK)) = _
 rw [keys1]
 simp [setl,aDk,wget]
theorem bar2 (s : Int) (l : List (List UInt8)) (q r : Nat) (b c : List UInt8) (hq : q < r) : barF (aDk s l [((q : Int),b),((r : Int),c)]) = (0,aDk (s + 1) ((l.set q b).set r c) []) := by
 have h1 : spF (aDk s l [((q : Int),b),((r : Int),c)]) = (true,aDk (s + 1) l [((q : Int),b),((r : Int),c)]) := rfl
 unfold barF
 rw [h1]
 show ((0 : Int),({ fuse := -1,steps := s + 1,down := false,last := setl _ _ 0 (keysW [((q : Int),b),((r : Int),c)]) l,wait := [] } : DK)) = _
 rw [keys2 om]
 simp [setl,aDk,wget,show ¬ ((r : Int) = (q : Int)) by omega]
theorem flt0 (s : Int) (l : List (List UInt8)) (W : Wt) (q : Nat) (hq : q < l.length) : fltF (aDk s l W) (q : Int) = 0 := by
 unfold fltF
 rw [if_neg (by show ¬ (false = true); decide),if_pos]
 show (0 : Int) ≤ (q : Int) ∧ (q : Int) < (l.length : Int)
 omega
theorem wr0 (s : Int) (l : List (List UInt8)) (W : Wt) (q : Nat) (b : List UInt8) (hq : q < l.length) : writeF (aDk s l W) (q : Int) b = (0,aDk (s + 1) l (wset W q b)) := by
 have h1 : spF (aDk s l W) = (true,aDk (s + 1) l W) := rfl
 unfold writeF
 rw [if_neg (by rw [flt0 s l W q hq]; decide),h1]; rfl
theorem lay1 (s : Int) (l : List (List UInt8)) (q : Nat) (b : List UInt8) (hq : q < l.length) : layF (aDk s l []) [((q : Int),b)] = (0,aDk (s + 2) (l.set q b) []) := by
 have h0 := wr0 s l [] q b hq
 unfold layF
 rw [h0,if_neg (fun e => e rfl)]
 show barF (aDk (s + 1) l [((q : Int),b)]) = _
 rw [bar1,show s + 1 + 1 = s + 2 by omega]
theorem lay2 (s : Int) (l : List (List UInt8)) (q r : Nat) (b c : List UInt8) (hq : q < r) (hr : r < l.length) : layF (aDk s l []) [((q : Int),b),((r : Int),c)] = (0,aDk (s + 3) ((l.set q b).set r c) []) := by
 have h0 := wr0 s l [] q b om
 have h1 := wr0 (s + 1) l [((q : Int),b)] r c hr
 have e : wset [((q : Int),b)] (r : Int) c = [((q : Int),b),((r : Int),c)] := by
  simp [wset,show ¬ ((r : Int) = (q : Int)) by omega]
 rw [e] at h1
 unfold layF
 rw [h0,if_neg (fun e => e rfl)]
 show layF (aDk (s + 1) l [((q : Int),b)]) [((r : Int),c)] = _
 unfold layF
 rw [h1,if_neg (fun e => e rfl)]
 show barF (aDk (s + 1 + 1) l [((q : Int),b),((r : Int),c)]) = _
 rw [bar2 _ _ _ _ _ _ hq,show s + 1 + 1 + 1 = s + 3 by omega]
theorem laysC (D D' : DK) (l : List Wr) (ls : List (List Wr)) (h : layF D l = (0,D')) : laysF D (l :: ls) = laysF D' ls := by
 conv => lhs; unfold laysF
 rw [h,if_neg (fun e => e rfl)]
theorem lays_w2 (H : List UInt8) : laysF (newD 200) [[((0 : Int),zb)],[((1 : Int),bk1 1),((2 : Int),bk1 2)],[((0 : Int),H)],w2] = (0,aD4 H) := by
 have hl : l200.length = 200 := List.length_replicate
 have h1 := lay1 0 l200 0 zb om
 have h2 := lay2 (0 + 2) (l200.set 0 zb) 1 2 (bk1 1) (bk1 2) (by decide) (by rw [List.length_set]; omega)
 have h3 := lay1 (0 + 2 + 3) (((l200.set 0 zb).set 1 (bk1 1)).set 2 (bk1 2)) 0 H (by rw [List.length_set,List.length_set,List.length_set]; omega)
 have h4 := lay2 (0 + 2 + 3 + 2) ((((l200.set 0 zb).set 1 (bk1 1)).set 2 (bk1 2)).set 0 H) 100 150 (bk1 1) (bk1 2) (by decide) (by rw [List.length_set,List.length_set,List.length_set,List.length_set]; omega)
 exact (laysC _ _ _ _ h1).trans ((laysC _ _ _ _ h2).trans ((laysC _ _ _ _ h3).trans ((laysC _ _ _ _ h4).trans rfl)))
theorem ris_w2 : risF w2 = w2 := by
 have h : lastM w2 w2.length = [((100 : Int),0),((150 : Int),1)] := rfl
 unfold risF
 rw [h]
 unfold keysN
 show List.map _ (srt [100,150]) = _
 rw [srt2 (by decide)]
 rfl
theorem trans_w2 : transF (newD 200) 1 w2 = (0,aD4 (headF 1 w2)) := by
 unfold transF stagesF
 generalize headF 1 w2 = H
 exact lays_w2 H
theorem com_w2 : commitF ⟨0,0,newD 200⟩ w2 = (0,⟨0,1,aD4 (headF 1 w2)⟩) := by
 have h := com_ok (why := 0) (num := 0) (D := newD 200) (l := w2) rfl kr (by rw [ris_w2]; decide) (by rw [ris_w2]; decide) (by rw [ris_w2]; show (transF (newD 200) 1 w2).1 = 0; rw [trans_w2])
 rw [ris_w2] at h
 have e : transF (newD 200) ((0 + 1) % 18446744073709551616) w2 = (0,aD4 (headF 1 w2)) := trans_w2
 rw [e] at h
 exact h
theorem g200 : DG (newD 200) := DG.new (by decide)
theorem gD4 : DG (aD4 (headF 1 w2)) := by
 have h := commit_good (J := ⟨0,0,newD 200⟩) g200 w2_w
 rw [com_w2] at h; exact h
set_option maxRecDepth 100000 in
theorem last100 (H : List UInt8) : lastsF (aD4 H) 100 = bk1 1 := by kernel_rfl
set_option maxRecDepth 100000 in
theorem last150 (H : List UInt8) : lastsF (aD4 H) 150 = bk1 2 := by kernel_rfl
theorem inW_lit (b : Nat) (l : List Wr) (h : WW l) (t : TypeId) : InW [(b,.cells (jv l).toArray t (0,0))] (some ⟨b,0,none⟩) l := by
 intro _
 refine ⟨b,0,_,t,(0,0),rfl,List.mem_singleton.2 rfl,fun j hj => ?_⟩
 rw [Nat.zero_add,List.getElem?_toArray]
 have hl : (jv l).length = l.length * 513 := jv_len h
 show (jv l)[j]? = some ((jv l).getD j undef)
 rw [List.getD_eq_getElem?_getD,List.getElem?_eq_getElem om]; rfl
theorem jv_w2 : jc ((100 : Int),bk1 1) ++ jc ((150 : Int),bk1 2) = jv w2 := by show _ = [((100 : Int),bk1 1),((150 : Int),bk1 2)].flatMap jc; simp
set_option maxRecDepth 100000 in
theorem shaAwake1 {t0 : TypeId} {fr0 : Nat × Nat} (w : World) (hR : Has w [(1,.cells (wv Kc) t0 fr0)]) :
  Calls Tryz.prog 93 #[] w fun e w' => e = .returned (.bool true) ∧ Ext [] w w' := by
 refine enter (vs := []) [] [(1,.cells (wv Kc) t0 fr0)] [] Tryz.func93 rfl kr (HP.ofHas hR) ?_
 refine Rg [] [] n0 trivial ?_
 refine Cfg.begL rfl ?_
 refine Le (Eff.callA (vs := []) (.bool true) rfl Tryz.func130 rfl rfl kr (fun w1 h => shaAwake w1 (h.hasR (fun e he => he)))) ?_
 rintro ⟨⟩ -
 refine Lp 1 [] (some [0]) n0 trivial ?_
 refine CfgL.done rfl ?_
 refine Cfg.ret rfl (rs := [.tmp 0]) rfl [.bool true] ⟨kr,trivial⟩ (fun w1 hp => ?_)
 exact ⟨rfl,hp.ext⟩
set_option maxRecDepth 100000 in
theorem dAwake1 (w : World) :
  Calls Tryz.prog 94 #[] w fun e w' => e = .returned (.bool true) ∧ Ext [] w w' := by
 refine enter (vs := []) [] [] [] Tryz.func94 rfl kr (HP.start w) ?_
 refine Rg [] [] n0 trivial ?_
 refine Cfg.begL rfl ?_
 refine Le (Eff.callA (vs := []) (.bool true) rfl Tryz.func131 rfl rfl kr (fun w1 _ => dAwake w1)) ?_
 rintro ⟨⟩ -
 refine Lp 1 [] (some [0]) n0 trivial ?_
 refine CfgL.done rfl ?_
 refine Cfg.ret rfl (rs := [.tmp 0]) rfl [.bool true] ⟨kr,trivial⟩ (fun w1 hp => ?_)
 exact ⟨rfl,hp.ext⟩
set_option maxRecDepth 100000 in
set_option maxHeartbeats 8000000 in
theorem awakeW {t0 : TypeId} {fr0 : Nat × Nat} (w : World) (hb : w.heap[1]? = some (.cells (wv Kc) t0 fr0)) :
  Calls Tryz.prog 58 #[] w fun e w' => e = .returned (.bool true) ∧ Ext [] w w' := by
 have hR : Has w [(1,Obj.cells (wv Kc) t0 fr0)] := fun e he => by rw [List.mem_singleton.1 he]; exact hb
 have hop := open_new (n := 200) (by decide)
 refine enter (vs := []) [] [(1,Obj.cells (wv Kc) t0 fr0)] [] Tryz.func58 rfl kr (HP.ofHas hR) ?_
 refine Rg [] [] n0 trivial ?_
 refine Cfg.begL rfl ?_
 refine Le (Eff.callH (vs := [.int .i64 200]) (fun y : DM × MX => .tuple #[.pointer (some ⟨y.1.d,0,none⟩),.int .i64 0]) [] (fun y => dO (newD 200) y.1 y.2) (fun y => MapOk y.2.1 y.2.2 []) [] [] rfl rfl Tryz.func7 rfl rfl kr (fun w1 h _ _ => dNew 200 w1 (by decide))) ?_
 rintro ⟨m,x⟩ hmo
 refine Lp 5 [] (some [1]) n0 trivial ?_
 refine CfgL.done rfl ?_
 refine Cfg.begL rfl ?_
 refine Lp 1 [] none n0 trivial ?_
 refine Le (Eff.callH (vs := [.pointer (some ⟨m.d,0,none⟩)]) (fun z : MX × Nat => .tuple #[.pointer (some ⟨z.2,0,none⟩),.int .i64 0]) (dO (newD 200) m x) (fun z => (z.2,Obj.cells #[.int .i64 (0 : Int),.pointer (some ⟨m.d,0,none⟩),.int .u64 (0 : Int)] 143 (0,0)) :: dO (newD 200) m z.1) (fun z => MapOk z.1.1 z.1.2 (wv2 (newD 200).wait)) [] [] rfl rfl Tryz.func30 rfl rfl kr (fun w1 h hA1 hd1 => by have h9 := jOpenOk m x (newD 200) t0 fr0 w1 g200 hmo ⟨Int.le_refl 0,by show (0 : Int) ≤ 4611686018426000000; decide⟩ hA1 hd1 (h.hasR (fun e he => he)) (apart (Fl := []) (A := dO (newD 200) m x) (T := []) h (fun e he => he)) (by rw [hop]); rw [hop] at h9; exact h9)) ?_
 rintro ⟨x2,jb⟩ hmo_x2
 refine Lp 5 [] (some [1,3,4]) n0 trivial ?_
 refine CfgL.done rfl ?_
 refine Cfg.begL rfl ?_
 refine Lp 7 [dZ,dZ,dZ,(1,false,none),(1,false,none)] (some [1,3,21]) (fun _ => [((.bool false : Value) = .bool false),((.bool false : Value) = .bool false)]) ⟨rfl,rfl,trivial⟩ ?_
 refine Le (Eff.callA (vs := []) (.bool true) rfl Tryz.func93 rfl rfl kr (fun w1 h => shaAwake1 w1 (h.hasR (fun e he => he)))) ?_
 rintro ⟨⟩ -
 refine Lp 3 [(1,false,none)] (some [1,3,25]) (fun _ => [((.bool false : Value) = .bool false)]) ⟨rfl,trivial⟩ ?_
 refine Le (Eff.callA (vs := []) (.bool true) rfl Tryz.func94 rfl rfl kr (fun w1 _ => dAwake1 w1)) ?_
 rintro ⟨⟩ -
 refine Lp 2 [(1,false,none)] (some [1,3,28]) (fun _ => [((.bool false : Value) = .bool false)]) ⟨rfl,trivial⟩ ?_
 refine CfgL.done rfl ?_
 refine Cfg.condF rfl (b := false) kr rfl ?_
 refine Cfg.begL rfl ?_
 refine CfgL.pure 5 [dZ,(dS (.agg (bv (bk1 1)))),(dS (.agg (jc ((100 : Int),bk1 1)).toArray)),(dS (.agg (bv (bk1 2)))),(dS (.agg (jc ((150 : Int),bk1 2)).toArray))] (some [1,3,29,31,33]) (Γ' := [(33,[],.agg (jc ((150 : Int),bk1 2)).toArray),(31,[],.agg (jc ((100 : Int),bk1 1)).toArray),(29,[],pT jb),(3,[],pT jb),(1,[],.pointer (some ⟨m.d,0,none⟩))]) (nd := (fun S => [(∀ w1,S w1 → (Instr.build 37 #[(0,.int .u8 1)]).run Tryz.prog w1 = .ok (.agg (bv (bk1 1))) w1),(∀ w1,S w1 → (Instr.build 101 #[(0,.int .i64 100),(1,.agg (bv (bk1 1)))]).run Tryz.prog w1 = .ok (.agg (jc ((100 : Int),bk1 1)).toArray) w1),(∀ w1,S w1 → (Instr.build 37 #[(0,.int .u8 2)]).run Tryz.prog w1 = .ok (.agg (bv (bk1 2))) w1),(∀ w1,S w1 → (Instr.build 101 #[(0,.int .i64 150),(1,.agg (bv (bk1 2)))]).run Tryz.prog w1 = .ok (.agg (jc ((150 : Int),bk1 2)).toArray) w1)])) kr (fun _ => kr) ⟨(fun _ _ => kr),(fun w1 _ => build_wr 100 (bk1_len 1) w1),(fun _ _ => kr),(fun w1 _ => build_wr 150 (bk1_len 2) w1),trivial⟩ ?_
 refine Le (Eff.buildAgg2 (u := (jc ((100 : Int),bk1 1)).toArray) (v := (jc ((150 : Int),bk1 2)).toArray) rfl kr kr Tryz.underlying98 kr (z := (.agg (jc wz).toArray)) kr (show (jc ((100 : Int),bk1 1)).toArray.size = 513 from List.size_toArray.trans (jc_len (bk1_len 1))) (show (jc ((150 : Int),bk1 2)).toArray.size = 513 from List.size_toArray.trans (jc_len (bk1_len 2))) (by decide) (by decide)) ?_
 rintro kb ⟨hkb,nkb⟩
 refine CfgL.setO (O' := ([(kb,Obj.cells ((jv w2).toArray) 101 (0,0))] ++ (((jb,Obj.cells #[.int .i64 (0 : Int),.pointer (some ⟨m.d,0,none⟩),.int .u64 (0 : Int)] 143 (0,0)) :: dO (newD 200) m x2) ++ []))) (congrArg (fun q : List Value => (([(kb,Obj.cells q.toArray 101 (0,0))] ++ (((jb,Obj.cells #[.int .i64 (0 : Int),.pointer (some ⟨m.d,0,none⟩),.int .u64 (0 : Int)] 143 (0,0)) :: dO (newD 200) m x2) ++ [])) : LO)) jv_w2) ?_
 refine Le (Eff.callH (vs := [pT jb,.slice (some ⟨kb,0,none⟩) 2 2]) (fun _ : MX => .int .i64 0) ((jb,Obj.cells #[.int .i64 (0 : Int),.pointer (some ⟨m.d,0,none⟩),.int .u64 (0 : Int)] 143 (0,0)) :: dO (newD 200) m x2) (fun z => (jb,Obj.cells #[.int .i64 (0 : Int),.pointer (some ⟨m.d,0,none⟩),.int .u64 (1 : Int)] 143 (0,0)) :: dO (aD4 (headF 1 w2)) m z) (fun z => MapOk z.1 z.2 (wv2 (aD4 (headF 1 w2)).wait)) [(kb,.cells ((jv w2).toArray) 101 (0,0))] [] rfl rfl Tryz.func38 rfl rfl kr (fun w1 h hA1 hd1 => by have h9 := jCommit jb 0 0 m x2 (newD 200) (some ⟨kb,0,none⟩) 2 w2 [(kb,Obj.cells (jv w2).toArray 101 (0,0))] t0 fr0 w1 g200 hmo_x2 hA1 hd1 (inW_lit kb w2 w2_w 101) w2_w (by decide) ⟨Int.le_refl 0,by show (0 : Int) ≤ 4611686018425000000; decide⟩ (fun e he => (List.mem_cons.1 he).elim (fun h1 => h1 ▸ h.ro _ mH) (fun h1 => h.own e (mL h1))) (fun e he => (List.mem_cons.1 he).elim (fun h1 => h1 ▸ apart (Fl := [(kb,Obj.cells ((jv w2).toArray) 101 (0,0))]) (A := ((jb,Obj.cells #[.int .i64 (0 : Int),.pointer (some ⟨m.d,0,none⟩),.int .u64 (0 : Int)] 143 (0,0)) :: dO (newD 200) m x2)) (T := []) (L := [(1,Obj.cells (wv Kc) t0 fr0)]) h (fun e he => he) _ (List.mem_singleton.2 rfl)) (fun h1 => mid_apart (F := [(kb,Obj.cells ((jv w2).toArray) 101 (0,0))]) (A := ((jb,Obj.cells #[.int .i64 (0 : Int),.pointer (some ⟨m.d,0,none⟩),.int .u64 (0 : Int)] 143 (0,0)) :: dO (newD 200) m x2)) (T := []) h e (.inl h1))); rw [com_w2] at h9; exact h9)) ?_
 rintro x3 hmo_x3
 refine Lp 1 [] (some [1,3,5]) n0 trivial ?_
 refine CfgL.done rfl ?_
 refine Cfg.begL rfl ?_
 refine Lp 4 [dZ,dZ,dZ,(1,false,none)] (some [1,3,38,39]) (fun _ => [((.bool true : Value) = .bool true)]) ⟨rfl,trivial⟩ ?_
 refine Le (Eff.callA (vs := [.pointer (some ⟨m.d,0,none⟩)]) (.int .i64 10) rfl Tryz.func17 rfl rfl kr (fun w1 h => dSteps m x3 (aD4 (headF 1 w2)) w1 (fun e he => h.own e (List.mem_append_right [(kb,Obj.cells ((jv w2).toArray) 101 (0,0))] (mL (List.mem_cons_of_mem _ he)))))) ?_
 rintro ⟨⟩ -
 refine Lp 4 [(1,false,none),dZ,dZ,(1,false,none)] (some [1,3,43,44]) (fun _ => [((.bool true : Value) = .bool true),((.bool true : Value) = .bool true)]) ⟨rfl,rfl,trivial⟩ ?_
 refine Le (Eff.callA (vs := [.pointer (some ⟨m.d,0,none⟩),.int .i64 100]) (.agg (bv (bk1 1))) rfl Tryz.func95 rfl rfl kr (fun w1 h => by have h9 := dLasts m x3 (aD4 (headF 1 w2)) 100 w1 gD4 hmo_x3 (fun e he => h.own e (List.mem_append_right [(kb,Obj.cells ((jv w2).toArray) 101 (0,0))] (mL (List.mem_cons_of_mem _ he)))); rw [last100] at h9; exact h9)) ?_
 rintro ⟨⟩ -
 refine Lp 5 [(1,false,some (.int .u8 1)),(1,false,none),dZ,dZ,(1,false,none)] (some [3,49,50]) (fun _ => [((.bool true : Value) = .bool true),(iL (0 : Int) 512),(((bv (bk1 1)))[0]? = some (.int .u8 1)),((.bool true : Value) = .bool true),((.bool true : Value) = .bool true)]) ⟨rfl,om,kr,rfl,rfl,trivial⟩ ?_
 refine Le (Eff.callA (vs := [.pointer (some ⟨m.d,0,none⟩),.int .i64 150]) (.agg (bv (bk1 2))) rfl Tryz.func95 rfl rfl kr (fun w1 h => by have h9 := dLasts m x3 (aD4 (headF 1 w2)) 150 w1 gD4 hmo_x3 (fun e he => h.own e (List.mem_append_right [(kb,Obj.cells ((jv w2).toArray) 101 (0,0))] (mL (List.mem_cons_of_mem _ he)))); rw [last150] at h9; exact h9)) ?_
 rintro ⟨⟩ -
 refine Lp 5 [(1,false,some (.int .u8 2)),(1,false,none),dZ,dZ,(1,false,none)] (some [55,56]) (fun _ => [((.bool true : Value) = .bool true),(iL (0 : Int) 512),(((bv (bk1 2)))[0]? = some (.int .u8 2)),((.bool true : Value) = .bool true),((.bool true : Value) = .bool true)]) ⟨rfl,om,kr,rfl,rfl,trivial⟩ ?_
 refine Le (Eff.callA (vs := [pT jb]) (.int .u64 1) rfl Tryz.func96 rfl rfl kr (fun w1 h => jNumber jb 0 1 m x3 (aD4 (headF 1 w2)) w1 (fun e he => h.own e (List.mem_append_right [(kb,Obj.cells ((jv w2).toArray) 101 (0,0))] (mL he))))) ?_
 rintro ⟨⟩ -
 refine Lp 3 [(1,false,none)] (some [0]) (fun _ => [((.bool true : Value) = .bool true)]) ⟨rfl,trivial⟩ ?_
 refine CfgL.done rfl ?_
 refine Cfg.ret rfl (rs := [.tmp 0]) rfl [.bool true] ⟨kr,trivial⟩ (fun w1 hp => ?_)
 exact ⟨by simp [resOf],hp.ext⟩
end Go.Proofs.YtfgdepggdiibdaaGreatDoor
namespace Go.Proofs.YtfgdepggdiibdaaGreatDoor
open K
set_option linter.unusedVariables false
set_option maxRecDepth 100000 in
theorem jAwake1 {t0 : TypeId} {fr0 : Nat × Nat} (w : World) (hR : Has w [(1,.cells (wv Kc) t0 fr0)]) :
  Calls Tryz.prog 26 #[] w fun e w' => e = .returned (.bool true) ∧ Ext [] w w' := by
 refine enter (vs := []) [] [(1,.cells (wv Kc) t0 fr0)] [] Tryz.func26 rfl kr (HP.ofHas hR) ?_
 refine Rg [] [] n0 trivial ?_
 refine Cfg.begL rfl ?_
 refine Le (Eff.callA (vs := []) (.bool true) rfl Tryz.func58 rfl rfl kr (fun w1 h => awakeW w1 (h.ro _ mH))) ?_
 rintro ⟨⟩ -
 refine Lp 1 [] (some [0]) n0 trivial ?_
 refine CfgL.done rfl ?_
 refine Cfg.ret rfl (rs := [.tmp 0]) rfl [.bool true] ⟨kr,trivial⟩ (fun w1 hp => ?_)
 exact ⟨rfl,hp.ext⟩
end Go.Proofs.YtfgdepggdiibdaaGreatDoor
namespace Go.Proofs.YtfgdepggdiibdaaGreatDoor
open K
set_option linter.unusedVariables false
theorem newF_hi (f t : Int) : (t ≤ f → ((newF f t).length : Int) = 0) ∧ (f < t → (t - f < 4096 → ((newF f t).length : Int) = t - f) ∧ (4096 ≤ t - f → ((newF f t).length : Int) = 4096)) := by
 unfold newF
 split
 ·rename_i h; exact ⟨fun _ => rfl,fun h2 => by omega⟩
 ·rename_i h
  refine ⟨fun h2 => absurd h2 h,fun _ => ?_⟩
  rw [List.length_replicate]
  exact ⟨fun _ => by omega,fun _ => by omega⟩
theorem new59 : newF 5 9 = [true,true,true,true] := by decide
theorem runs59 : runsAt [true,true,true,true] 0 = [(0,4)] := by
 rw [runsAt_some (n := 4) (by decide) (by decide) (by decide),runsAt_end (by decide)]
theorem take59 : takeF 5 [true,true,true,true] 3 = (5,0,[false,false,false,true]) := by
 have h := take_ok (f := 5) (fr := [true,true,true,true]) (n := 3) (pre := []) (rest := []) (k := 0) (m := 4) (by decide) runs59 (fun y hy => by cases hy) (by decide)
 exact h.1.trans (by decide)
theorem free59 : suml (runsAt [false,false,false,true] 0) = 1 := by rw [suml_count]; decide
set_option maxRecDepth 100000 in
theorem awakeC (w : World) :
  Calls Tryz.prog 59 #[] w fun e w' => e = .returned (.bool true) ∧ Ext [] w w' := by
 refine enter (vs := []) [] [] [] Tryz.func59 rfl kr (HP.start w) ?_
 refine Rg [] [] n0 trivial ?_
 refine Cfg.begL rfl ?_
 refine Le (Eff.callH (vs := [.int .i64 5,.int .i64 9]) (fun x : Nat × K.Own => .pointer (some ⟨x.1,0,none⟩)) [] (fun x => spO x.1 (5 : Int) x.2 ([true,true,true,true])) (fun x => Good x.2 ([true,true,true,true])) [] [] rfl rfl Tryz.func32 rfl rfl kr (fun w1 h _ _ => (by have h9 := newU (5 : Int) (9 : Int) w1 (by unfold I64; omega) (by unfold I64; omega); rw [new59] at h9; exact h9))) ?_
 rintro ⟨s1,o1⟩ hg_o1
 have hl_1 := newF_len (5 : Int) (9 : Int)
 have hh_1 := newF_hi (5 : Int) (9 : Int)
 refine Lp 1 [] (some [1]) n0 trivial ?_
 refine CfgL.done rfl ?_
 refine Rg [1,6] [] n0 trivial ?_
 refine Cfg.condF rfl (b := false) kr rfl ?_
 refine Cfg.begL rfl ?_
 refine Lp 1 [] (some [1,8]) n0 trivial ?_
 refine Le (Eff.callH (vs := [pT s1,.int .i64 3]) (fun _ : K.Own => .tuple #[.int .i64 5,.int .i64 0]) (spO s1 (5 : Int) o1 ([true,true,true,true])) (fun o => spO s1 (5 : Int) o ([false,false,false,true])) (fun o => Good o ([false,false,false,true])) [] [] rfl rfl Tryz.func97 rfl rfl kr (fun w1 h hA hd => (by have h9 := takeU s1 (5 : Int) o1 ([true,true,true,true]) (3 : Int) w1 (by simp only [List.length_cons,List.length_nil]; omega) (by simp only [List.length_cons,List.length_nil]; omega) hg_o1 (by unfold I64; omega) hA hd; rw [take59] at h9; exact h9))) ?_
 rintro o2 hg_o2
 refine Lp 5 [] (some [1,2,3]) n0 trivial ?_
 refine CfgL.done rfl ?_
 refine Cfg.begL rfl ?_
 refine Lp 8 [dZ,dZ,dZ,(1,false,none),(1,false,none),dZ,dZ,(1,false,none)] (some [1,18,19]) (fun _ => [((.bool true : Value) = .bool true),((.bool true : Value) = .bool true),((.bool true : Value) = .bool true)]) ⟨rfl,rfl,rfl,trivial⟩ ?_
 refine Le (Eff.callA (vs := [pT s1]) (.int .i64 1) rfl Tryz.func47 rfl rfl kr (fun w1 h => (by have h9 := freeU s1 (5 : Int) o2 ([false,false,false,true]) w1 (by simp only [List.length_cons,List.length_nil]; omega) (by simp only [List.length_cons,List.length_nil]; omega) hg_o2 (h.has (fun e he => by simp [he])); rw [free59] at h9; exact h9))) ?_
 rintro ⟨⟩ -
 refine Lp 4 [(1,false,none),dZ,dZ,(1,false,none)] (some [1,23,24]) (fun _ => [((.bool true : Value) = .bool true),((.bool true : Value) = .bool true)]) ⟨rfl,rfl,trivial⟩ ?_
 refine Le (Eff.callA (vs := [pT s1,.int .i64 8]) (.bool true) rfl Tryz.func98 rfl rfl kr (fun w1 h => (by have h9 := isU s1 (5 : Int) (8 : Int) o2 ([false,false,false,true]) w1 (by unfold I64; omega) (by unfold I64; omega) (by simp only [List.length_cons,List.length_nil]; omega) hg_o2 (h.has (fun e he => by simp [he])); rw [(show (inP 5 [false,false,false,true].length 8 && [false,false,false,true].getD (8 - 5 : Int).toNat false) = true by decide)] at h9; exact h9))) ?_
 rintro ⟨⟩ -
 refine CfgL.pure 3 [dZ,dZ,(1,false,none)] (some [27,28]) (Γ' := [(28,[],pT s1),(27,[],.bool true)]) (nd := (fun _ => [((.bool true : Value) = .bool true)])) kr (fun _ => kr) ⟨rfl,trivial⟩ ?_
 refine Le (Eff.callA (vs := [pT s1,.int .i64 5]) (.bool false) rfl Tryz.func98 rfl rfl kr (fun w1 h => (by have h9 := isU s1 (5 : Int) (5 : Int) o2 ([false,false,false,true]) w1 (by unfold I64; omega) (by unfold I64; omega) (by simp only [List.length_cons,List.length_nil]; omega) hg_o2 (h.has (fun e he => by simp [he])); rw [(show (inP 5 [false,false,false,true].length 5 && [false,false,false,true].getD (5 - 5 : Int).toNat false) = false by decide)] at h9; exact h9))) ?_
 rintro ⟨⟩ -
 refine Lp 3 [(1,false,none)] (some [0]) (fun _ => [((.bool true : Value) = .bool true)]) ⟨rfl,trivial⟩ ?_
 refine CfgL.done rfl ?_
 refine Cfg.ret rfl (rs := [.tmp 0]) rfl [.bool true] ⟨kr,trivial⟩ (fun w1 hp => ?_)
 exact ⟨rfl,hp.ext⟩
set_option maxRecDepth 100000 in
theorem spAwake1 (w : World) :
  Calls Tryz.prog 27 #[] w fun e w' => e = .returned (.bool true) ∧ Ext [] w w' := by
 refine enter (vs := []) [] [] [] Tryz.func27 rfl kr (HP.start w) ?_
 refine Rg [] [] n0 trivial ?_
 refine Cfg.begL rfl ?_
 refine Le (Eff.callA (vs := []) (.bool true) rfl Tryz.func59 rfl rfl kr (fun w1 h => awakeC w1)) ?_
 rintro ⟨⟩ -
 refine Lp 1 [] (some [0]) n0 trivial ?_
 refine CfgL.done rfl ?_
 refine Cfg.ret rfl (rs := [.tmp 0]) rfl [.bool true] ⟨kr,trivial⟩ (fun w1 hp => ?_)
 exact ⟨rfl,hp.ext⟩
end Go.Proofs.YtfgdepggdiibdaaGreatDoor
namespace Go.Proofs.YtfgdepggdiibdaaGreatDoor
open K
set_option linter.unusedVariables false
theorem inF_blk (b : Nat) (t : TypeId) (l : List FA) : InF acL 4 [(b,.cells (l.flatMap acL).toArray t (0,0))] (some ⟨b,0,none⟩) l := by
 intro _
 have hl : (l.flatMap acL).length = l.length * 4 := flat_len (fun x _ => acL_len x)
 refine ⟨b,0,_,t,(0,0),rfl,mH,fun j hj => ?_⟩
 show _ = some ((l.flatMap acL).getD j undef)
 rw [Nat.zero_add,List.getElem?_toArray,List.getD_eq_getElem?_getD,List.getElem?_eq_getElem om]; rfl
theorem fOpenOk (m : DM) (x : MX) (D : DK) (t0 : TypeId) (fr0 : Nat × Nat) (w : World) (hg : DG D) (hmo : MapOk x.1 x.2 (wv2 D.wait)) (hs : 0 ≤ D.steps ∧ D.steps ≤ 4611686018426000000) (hA : Has w (dO D m x)) (hd : ((dO D m x).map (·.1)).Nodup) (hR : Has w [(1,Obj.cells (wv Kc) t0 fr0)]) (hnr : ∀ e ∈ [(1,Obj.cells (wv Kc) t0 fr0)],e.1 ∉ (dO D m x).map (·.1)) (hO : openF D = (0,0,D)) (hN : D.last.length = 200) (hdn : D.down = false) (h0 : (opL D 24 T00).1 = true) :
  Calls Tryz.prog 8 #[.pointer (some ⟨m.d,0,none⟩)] w fun e w' => ∃ q : FM × MX,(FOk q.1 (opL D 24 T00).2 ∧ MapOk q.2.1 q.2.2 (wv2 D.wait)) ∧ e = .returned (.tuple #[.pointer (some ⟨q.1.fb,0,none⟩),.int .i64 0]) ∧ ∃ R1,HP w ((dO D m x).map (·.1)) R1 (gO q.1 0 0 m (opL D 24 T00).2 ++ dO D m q.2) w' := by
 refine (fOpen m x D t0 fr0 w hg hmo hs hA hd hR hnr hO hN hdn).mono ?_
 rintro e w' (⟨_,z,y,⟨a1,a2,a3,a4⟩,he,hp⟩ | ⟨h1,_⟩)
 ·exact ⟨(z,y),⟨⟨a1,(EntI.opened h0).wok,a2,a3⟩,a4⟩,he,hp⟩
 ·rw [h0] at h1; cases h1
theorem fOpenNo (m : DM) (x : MX) (D : DK) (t0 : TypeId) (fr0 : Nat × Nat) (w : World) (hg : DG D) (hmo : MapOk x.1 x.2 (wv2 D.wait)) (hs : 0 ≤ D.steps ∧ D.steps ≤ 4611686018426000000) (hA : Has w (dO D m x)) (hd : ((dO D m x).map (·.1)).Nodup) (hR : Has w [(1,Obj.cells (wv Kc) t0 fr0)]) (hnr : ∀ e ∈ [(1,Obj.cells (wv Kc) t0 fr0)],e.1 ∉ (dO D m x).map (·.1)) (hO : openF D = (0,0,D)) (hN : D.last.length = 200) (hdn : D.down = false) (h0 : (opL D 24 T00).1 = false) :
  Calls Tryz.prog 8 #[.pointer (some ⟨m.d,0,none⟩)] w fun e w' => ∃ y : MX,MapOk y.1 y.2 (wv2 D.wait) ∧ e = .returned (.tuple #[.pointer none,.int .i64 18]) ∧ ∃ R1,HP w ((dO D m x).map (·.1)) R1 (dO D m y) w' := by
 refine (fOpen m x D t0 fr0 w hg hmo hs hA hd hR hnr hO hN hdn).mono ?_
 rintro e w' (⟨h1,_⟩ | ⟨_,h⟩)
 ·rw [h0] at h1; cases h1
 ·exact h
theorem new_steps : 0 ≤ (newD 200).steps ∧ (newD 200).steps ≤ 4611686018425000000 := ⟨Int.le_refl 0,by show (0 : Int) ≤ 4611686018425000000; decide⟩
theorem new_steps6 : 0 ≤ (newD 200).steps ∧ (newD 200).steps ≤ 4611686018426000000 := ⟨Int.le_refl 0,by show (0 : Int) ≤ 4611686018426000000; decide⟩
theorem go_side {w0 w : World} {M : List Nat} {R L A U T : List (Nat × Obj)} {tab : Nat × Obj} (h : HP w0 M R (L ++ (A ++ T)) w) (ht : tab ∈ R) (hU : ∀ e ∈ U,e ∈ L) : Has w (tab :: U) ∧ ∀ e ∈ tab :: U,e.1 ∉ A.map (·.1) := by
 refine ⟨fun e he => ?_,fun e he hm => ?_⟩
 ·rcases List.mem_cons.1 he with rfl | he
  ·exact h.ro _ ht
  ·exact h.own _ (mL (hU e he))
 ·rcases List.mem_cons.1 he with rfl | he
  ·obtain ⟨e2,h2,h3⟩ := List.mem_map.1 hm
   exact h.away (mR (mL h2)) ht h3
  ·exact HP.sep h (hU e he) hm
set_option maxRecDepth 100000 in
set_option maxHeartbeats 8000000 in
theorem fAwake {t0 : TypeId} {fr0 : Nat × Nat} (w : World) (hR : Has w [(1,Obj.cells (wv Kc) t0 fr0)]) :
  Calls Tryz.prog 5 #[] w fun e w' => e = .returned (.bool true) ∧ Ext [] w w' := by
 obtain ⟨n1,D1,hdo,hD1,hs1⟩ := ex_do
 refine enter (vs := []) [] [(1,Obj.cells (wv Kc) t0 fr0)] [] Tryz.func5 rfl kr (HP.ofHas hR) ?_
 refine Rg [] [] n0 trivial ?_
 refine Cfg.begL rfl ?_
 refine Le (Eff.callH (vs := [.int .i64 200]) (fun y : DM × MX => .tuple #[.pointer (some ⟨y.1.d,0,none⟩),.int .i64 0]) [] (fun y => dO (newD 200) y.1 y.2) (fun y => MapOk y.2.1 y.2.2 []) [] [] rfl rfl Tryz.func7 rfl rfl kr (fun w1 h _ _ => dNew 200 w1 (by decide))) ?_
 rintro ⟨m,x⟩ hmo
 refine Lp 5 [] (some [1]) n0 trivial ?_
 refine CfgL.done rfl ?_
 refine Cfg.begL rfl ?_
 refine Lp 1 [] (some [13]) n0 trivial ?_
 refine Le (Eff.callH (vs := [.pointer (some ⟨m.d,0,none⟩)]) (fun q : FM × MX => .tuple #[.pointer (some ⟨q.1.fb,0,none⟩),.int .i64 0]) (dO (newD 200) m x) (fun q => gO q.1 0 s00.num m s00.T ++ dO s00.D m q.2) (fun q => FOk q.1 s00.T ∧ MapOk q.2.1 q.2.2 (wv2 s00.D.wait)) [] [] rfl rfl Tryz.func8 rfl rfl kr (fun w1 h hA1 hd1 => by have h9 := fOpenOk m x (newD 200) t0 fr0 w1 Wl.new.g hmo new_steps6 hA1 hd1 (fun e he => h.ro e he) (apart (Fl := []) (A := dO (newD 200) m x) (T := []) h (fun e he =>  he)) (Wl.new.open0 (new_shown 0)) (newD_len 200) rfl (by rw [op_new 24 (Nat.le_refl _)]); rw [op_new 24 (Nat.le_refl _)] at h9; exact h9)) ?_
 rintro ⟨z,y⟩ ⟨hfz,hmy⟩
 refine Lp 5 [] (some [3,4]) n0 trivial ?_
 refine CfgL.done rfl ?_
 refine Cfg.begL rfl ?_
 refine Lp 7 [dZ,dZ,dZ,(1,false,none),(1,false,none)] (some [3,23]) (fun _ => [((.bool false : Value) = .bool false),((.bool false : Value) = .bool false)]) ⟨rfl,rfl,trivial⟩ ?_
 refine Le (Eff.callA (vs := []) (.bool true) rfl Tryz.func26 rfl rfl kr (fun w1 h => jAwake1 w1 (h.hasR (fun e he => he)))) ?_
 rintro ⟨⟩ -
 refine Lp 3 [(1,false,none)] (some [3,27]) (fun _ => [((.bool false : Value) = .bool false)]) ⟨rfl,trivial⟩ ?_
 refine Le (Eff.callA (vs := []) (.bool true) rfl Tryz.func27 rfl rfl kr (fun w1 _ => spAwake1 w1)) ?_
 rintro ⟨⟩ -
 refine Lp 2 [(1,false,none)] (some [3,30]) (fun _ => [((.bool false : Value) = .bool false)]) ⟨rfl,trivial⟩ ?_
 refine CfgL.done rfl ?_
 refine Cfg.condF rfl (b := false) kr rfl ?_
 refine Cfg.begL rfl ?_
 refine CfgL.pure 1 [] (some [3,31]) (Γ' := [(31,[],.pointer (some ⟨z.fb,0,none⟩)),(3,[],.pointer (some ⟨z.fb,0,none⟩))]) (nd := (fun _ => [])) kr (fun _ => kr) trivial ?_
 refine Le (Eff.callA (vs := [.string ⟨#[97]⟩,.string ⟨#[104,105]⟩]) (.agg (acC ex1)) rfl Tryz.func28 rfl rfl kr (fun w1 _ => fMkPut sA sHi w1)) ?_
 rintro ⟨⟩ -
 refine Le (Eff.callA (vs := [.string ⟨#[97]⟩,.string ⟨#[98]⟩]) (.agg (acC ex2)) rfl Tryz.func29 rfl rfl kr (fun w1 _ => fMkRen sA sB w1)) ?_
 rintro ⟨⟩ -
 refine Le (Eff.reO (A2 := fun kb => ([(kb,.cells (([ex1,ex2].flatMap acL).toArray) 34 (0,0))] ++ ((gO z 0 s00.num m s00.T ++ dO s00.D m y) ++ []))) (Eff.buildAgg2 (u := acC ex1) (v := acC ex2) rfl kr kr Tryz.underlying22 kr (z := .agg (acC faz)) kr rfl rfl (by decide) (by decide)) (fun kb => rfl)) ?_
 rintro kb ⟨hkb,nkb⟩
 refine Le (Eff.callH (vs := [.pointer (some ⟨z.fb,0,none⟩),.slice (some ⟨kb,0,none⟩) 2 2]) (fun _ : FM × MX => .int .i64 0) ((gO z 0 s00.num m s00.T ++ dO s00.D m y)) (fun q => (gO q.1 0 n1 m exT2 ++ dO D1 m q.2)) (fun q => q.1.fb = z.fb ∧ FOk q.1 exT2 ∧ MapOk q.2.1 q.2.2 (wv2 D1.wait) ∧ Wl D1 ∧ s00.D.steps ≤ D1.steps ∧ D1.steps ≤ s00.D.steps + 20000) [(kb,.cells (([ex1,ex2].flatMap acL).toArray) 34 (0,0))] [] rfl rfl Tryz.func9 rfl rfl kr (fun w1 h hA1 hd1 => by have h9 := fDo z m y s00 (some ⟨kb,0,none⟩) 2 [ex1,ex2] [(kb,Obj.cells (([ex1,ex2].flatMap acL).toArray) 34 (0,0))] t0 fr0 w1 Wl.new hfz hmy new_steps hA1 hd1 (inF_blk kb 34 [ex1,ex2]) (fun a ha => by rcases List.mem_cons.1 ha with rfl | ha; exact ⟨by decide,by decide⟩; rw [List.mem_singleton.1 ha]; exact ⟨by decide,by decide⟩) (by show 2 ≤ 1000000; decide) (go_side (L := [(kb,Obj.cells (([ex1,ex2].flatMap acL).toArray) 34 (0,0))]) (A := (gO z 0 s00.num m s00.T ++ dO s00.D m y)) (U := [(kb,Obj.cells (([ex1,ex2].flatMap acL).toArray) 34 (0,0))]) (T := []) h mH (fun e he => by rw [List.mem_singleton.1 he]; exact mG 0 rfl)).1 (go_side (L := [(kb,Obj.cells (([ex1,ex2].flatMap acL).toArray) 34 (0,0))]) (A := (gO z 0 s00.num m s00.T ++ dO s00.D m y)) (U := [(kb,Obj.cells (([ex1,ex2].flatMap acL).toArray) 34 (0,0))]) (T := []) h mH (fun e he => by rw [List.mem_singleton.1 he]; exact mG 0 rfl)).2; rw [hdo] at h9; exact h9)) ?_
 rintro ⟨z2,y2⟩ ⟨hz2,hf2,hm2,-⟩
 refine Lp 1 [] (some [3,5]) n0 trivial ?_
 refine CfgL.done rfl ?_
 refine Cfg.begL rfl ?_
 refine Lp 1 [] none n0 trivial ?_
 refine Le (Eff.callA (vs := [.pointer (some ⟨z.fb,0,none⟩),.string ⟨#[98]⟩]) (.tuple #[.string ⟨#[104,105]⟩,.int .i64 0]) rfl Tryz.func13 rfl rfl kr (fun w1 h => by have h9 := fRead z2 n1 m y2 D1 exT2 sB 0 w1 (fun e he => h.own e (show e ∈ ([(kb,Obj.cells (([ex1,ex2].flatMap acL).toArray) 34 (0,0))] ++ ((gO z2 0 n1 m exT2 ++ dO D1 m y2) ++ [])) from (mR (mL he)))) hD1 hm2 hf2 (by decide) rfl (by rw [exT2_at]; exact .inr ⟨by decide,by decide⟩); rw [hz2,ex_read hD1 hs1] at h9; exact h9)) ?_
 rintro ⟨⟩ -
 refine Lp 5 [] (some [3,5,6,7]) n0 trivial ?_
 refine CfgL.done rfl ?_
 refine Cfg.begL rfl ?_
 refine Lp 11 [dZ,dZ,dZ,(1,false,none),(1,false,none),dZ,dZ,(1,false,none),(1,false,none)] (some [3,51]) (fun _ => [((.bool true : Value) = .bool true),((.bool true : Value) = .bool true),((.bool true : Value) = .bool true),((.bool true : Value) = .bool true)]) ⟨rfl,rfl,rfl,rfl,trivial⟩ ?_
 refine CfgL.known 51 (b := ((⟨#[104,105]⟩ : ByteArray).toList == (⟨#[104,105]⟩ : ByteArray).toList)) kr true (beq_self_eq_true _) ?_
 refine Lp 1 [(1,false,none)] (some [51,52]) (fun _ => [((.bool true : Value) = .bool true)]) ⟨rfl,trivial⟩ ?_
 refine Le (Eff.callA (vs := [.pointer (some ⟨z.fb,0,none⟩),.string ⟨#[97]⟩]) (.bool false) rfl Tryz.func25 rfl rfl kr (fun w1 h => by have h9 := fHas z2 0 n1 m y2 D1 exT2 sA w1 (fun e he => h.own e (show e ∈ ([(kb,Obj.cells (([ex1,ex2].flatMap acL).toArray) 34 (0,0))] ++ ((gO z2 0 n1 m exT2 ++ dO D1 m y2) ++ [])) from (mR (mL he)))) hf2.tb hf2.g hf2.sm; rw [hz2,show (smget exT2.W sA).isSome = false from by kernel_rfl] at h9; exact h9)) ?_
 rintro ⟨⟩ -
 refine Lp 3 [(1,false,none)] (some [0]) (fun _ => [((.bool true : Value) = .bool true)]) ⟨rfl,trivial⟩ ?_
 refine CfgL.done rfl ?_
 refine Cfg.ret rfl (rs := [.tmp 0]) rfl [.bool true] ⟨kr,trivial⟩ (fun w1 hp => ?_)
 exact ⟨by simp [resOf],hp.ext⟩
end Go.Proofs.YtfgdepggdiibdaaGreatDoor
namespace Go.Proofs.YtfgdepggdiibdaaGreatDoor
namespace I
open K (one aggB run_underlying' run_sizeOf' add_none run_v cell_cells)
set_option linter.unusedVariables false
structure SortedKeysS (P : Program) (fS fK ety : Nat) : Prop where
 has : ∃ fn c,P.funcs[fS]? = some fn ∧ (fn.name == "runtime.NumGoroutine") = false ∧ fn.body = some c
 some : ∀ (Bm b : Nat) (es : Array MapEntry) (clock : Nat) (ks : List (List UInt8)) (w : World),w.heap[b]? = .some (.map es clock) → Go.MapKept.Stamped es clock → es.toList.map (·.key) = ks.map Go.Proofs.encStr →
  (∀ x ∈ ks,x.length ≤ Go.maxLen) → ks.length ≤ 1000000 → w.cell? ⟨Bm,0,none⟩ = .some (.map (.some b)) →
  Calls P fS #[.func (.func fK) #[] #[.pointer (.some ⟨Bm,0,none⟩)]] w fun e w' => ∃ v,e = .returned v ∧ w'.ownsRow w.heap.size ety 1 v ks.length ((ks.mergeSort leB).map Go.Proofs.encStr) ∧ (v = .slice none 0 0 ↔ ks = []) ∧ Go.RowKit.Below w.heap.size w w'
 none : ∀ (Bm : Nat) (w : World),w.cell? ⟨Bm,0,none⟩ = .some (.map none) →
  Calls P fS #[.func (.func fK) #[] #[.pointer (.some ⟨Bm,0,none⟩)]] w fun e w' => e = .returned (.slice none 0 0) ∧ Go.RowKit.Below w.heap.size w w'
section

end
end I
end Go.Proofs.YtfgdepggdiibdaaGreatDoor
namespace Go.Proofs.YtfgdepggdiibdaaGreatDoor
namespace I
open Go.RowKit Go.Maps Go.Sort Go.Shelf Go.WideElems
set_option linter.unusedVariables false
def noReadS (_ : Value) : Option (DataW Unit × List MemPlace) := some (.nil,[])
theorem keyOf_strE {P : Program} {k : TypeId} {x : List UInt8} (hk : P.underlying k = some .string) (hl : x.length ≤ maxLen) : keyOf P k (Go.Proofs.encStr x) = some (.string x) := by
 simp [keyOf,hk,mapKey,Go.Proofs.encStr,ByteArray.size]
 exact hl
theorem keys_permS {P : Program} {k : TypeId} (hk : P.underlying k = some .string) : ∀ {es : List MapEntry} {ks : List (List UInt8)},es.map (·.key) = ks.map Go.Proofs.encStr → (∀ x ∈ ks,x.length ≤ maxLen) →
  (∀ x ∈ es,∃ y,rd P k noReadS x = some y) ∧ (es.map (Go.WideElems.rg P k noReadS)).map (fun p => Go.strOf p.1) = ks
 | [],[],_,_ => ⟨fun x hx => (by cases hx),rfl⟩
 | [],_ :: _,h,_ => by simp at h
 | _ :: _,[],h,_ => by simp at h
 | e :: es,x :: ks,h,hw => by
  simp only [List.map_cons,List.cons.injEq] at h
  obtain ⟨h1,h2⟩ := h
  obtain ⟨g1,g2⟩ := keys_permS hk h2 (fun y hy => hw y (List.mem_cons_of_mem _ hy))
  have hrd : rd P k noReadS e = some (.string x,.nil) := by
   have := keyOf_strE hk (hw x mH)
   simp [Go.WideElems.rd,h1,this,noReadS]
  refine ⟨fun y hy => ?_,?_⟩
  ·rcases List.mem_cons.1 hy with rfl | hy
   ·exact ⟨_,hrd⟩
   ·exact g1 y hy
  ·simp only [List.map_cons,g2,rg_of hrd]
   rfl
theorem sortedKeysS_of {P : Program} {ρk ρs : Ren} (Lk : SlLaysZ.n7 P ρk) (Ls : SlLaysZ.n6 P ρs) (hsort : ∀ m,AnyZ.SortsIn P ρs Fence.wide m) (e9 : ∀ args w,(callFunc (ρs.f 9) args).run P w = .ok (.enter (ρs.f 9) args) w) :
  SortedKeysS P (ρs.f 6) (ρk.f 10) (ρs.t 26) := by
 have eg : ∀ args w,(callFunc (ρk.f 10) args).run P w = .ok (.enter (ρk.f 10) args) w := Lk.f10.enters rfl
 refine ⟨?_,fun Bm b es clock ks w hb hst hk hw hle hcell => ?_,fun Bm w hcell => ?_⟩
 ·obtain ⟨nm,h1,h2⟩ := Ls.f6
  exact ⟨_,_,h2,h1,rfl⟩
 ·obtain ⟨g1,g2⟩ := keys_permS (P := P) Lk.t26 hk hw
  have hlen : es.size = ks.length := by
   have := congrArg List.length hk
   simpa using this
  have hp : (strKeys (DataW.map ((es.toList.map (Go.WideElems.rg P (ρk.t 26) noReadS)).foldr DataW.insert []))).Perm ks := by
   have := ((WideShapes.sorted_perm (es.toList.map (Go.WideElems.rg P (ρk.t 26) noReadS))).map (fun p => Go.strOf p.1))
   rw [g2] at this
   exact this
  have hsz : Maps.size (DataW.map ((es.toList.map (Go.WideElems.rg P (ρk.t 26) noReadS)).foldr DataW.insert [])) = ks.length := by
   have := (WideShapes.sorted_perm (es.toList.map (Go.WideElems.rg P (ρk.t 26) noReadS))).length_eq
   simpa [Maps.size,hlen] using this
  have hown : w.ownsMap P (ρk.t 26) noReadS b es.size (DataW.map ((es.toList.map (Go.WideElems.rg P (ρk.t 26) noReadS)).foldr DataW.insert [])) :=
   ⟨es,clock,hb,⟨by rw [hlen]; exact Nat.le_trans hle (by decide),hst,g1⟩,Nat.le_refl _,rfl⟩
  have hBm : Bm < w.heap.size := by
   cases hx : w.heap[Bm]? with
   | none => simp [World.cell?,hx] at hcell
   | some o => exact (Array.getElem?_eq_some_iff.1 hx).1
  have hseq := AnyZ.keys_gives (ρ := ρk) { Lk with } Fence.wide 2 trivial rfl om Bm b es.size _ w hBm hcell hown
  have cS := AnyZ.sorted_in Ls Fence.wide 5 trivial trivial trivial trivial rfl om (hsort _) e9 (ρk.f 10) #[pT Bm] trivial eg _ _ (by rw [hsz]; exact Nat.le_trans hle (by decide)) (by rw [hsz]; omega) w hseq
  refine ((callsIn_wide (n := 5)).1 cS).mono ?_
  rintro e w' ⟨v,ss,rfl,hS,hrow,hnil,hB⟩
  have hpp : ss.Perm ks := hS.trans hp
  rw [hpp.length_eq,mergeSort_of_perm hpp] at hrow
  refine ⟨v,rfl,hrow,?_,hB⟩
  rw [hnil]
  constructor
  ·intro h; subst h; exact List.Perm.nil_eq hpp |>.symm
  ·intro h; subst h; exact List.Perm.eq_nil hpp
 ·have hBm : Bm < w.heap.size := by
   cases hx : w.heap[Bm]? with
   | none => simp [World.cell?,hx] at hcell
   | some o => exact (Array.getElem?_eq_some_iff.1 hx).1
  have hseq := AnyZ.keys_gives_nil (ρ := ρk) { Lk with } Fence.wide 2 trivial rfl Bm w hBm hcell
  have cS := AnyZ.sorted_in Ls Fence.wide 5 trivial trivial trivial trivial rfl om (hsort _) e9 (ρk.f 10) #[pT Bm] trivial eg _ 0 (Nat.zero_le _) om w hseq
  refine ((callsIn_wide (n := 5)).1 cS).mono ?_
  rintro e w' ⟨v,ss,rfl,rfl,hrow,hnil,hB⟩
  obtain rfl := hnil.2 rfl
  exact ⟨rfl,hB⟩
end I
end Go.Proofs.YtfgdepggdiibdaaGreatDoor
namespace Go.Proofs.YtfgdepggdiibdaaGreatDoor
namespace K
open Go.RowKit Go.Maps Go.Sort Go.Shelf Go.WideElems
set_option linter.unusedVariables false
def srtB (l : List (List UInt8)) : List (List UInt8) := l.mergeSort leB
theorem srtB_perm (l : List (List UInt8)) : (srtB l).Perm l := List.mergeSort_perm l leB
theorem srtB_len (l : List (List UInt8)) : (srtB l).length = l.length := (srtB_perm l).length_eq
def srtS (l : List ByteArray) : List ByteArray := (srtB (l.map fun s => s.data.toList)).map fun x => ⟨x.toArray⟩
theorem srtS_perm (l : List ByteArray) : (srtS l).Perm l := by
 have h := (srtB_perm (l.map fun s => s.data.toList)).map (fun x : List UInt8 => (⟨x.toArray⟩ : ByteArray))
 rw [List.map_map] at h
 have e : l.map ((fun x : List UInt8 => (⟨x.toArray⟩ : ByteArray)) ∘ fun s => s.data.toList) = l := by
  conv => rhs; rw [← List.map_id l]
  exact List.map_congr_left fun s _ => rfl
 rw [e] at h
 exact h
theorem srtS_len (l : List ByteArray) : (srtS l).length = l.length := (srtS_perm l).length_eq
theorem srtS_cells (l : List ByteArray) : (srtS l).map Value.string = (srtB (l.map fun s => s.data.toList)).map Go.Proofs.encStr := by
 unfold srtS
 rw [List.map_map]; rfl
theorem sorted_givesS {P : Program} {fS fK ety : Nat} (S : I.SortedKeysS P fS fK ety) (bm r : Nat) (es : Array MapEntry) (ck : Nat) (W : List (ByteArray × Value)) (w : World) (h : SMapOk es ck W) (hb : w.heap[r]? = .some (.map es ck)) (hk : ∀ p ∈ W,p.1.size ≤ Go.maxLen) (hl : W.length ≤ 1000000)
  (hc : w.cell? ⟨bm,0,none⟩ = .some (.map (.some r))) :
  Calls P fS #[.func (.func fK) #[] #[.pointer (.some ⟨bm,0,none⟩)]] w fun e w' => ∃ o : Own,OwnOk o 1 W.length ((srtS (W.map (·.1))).map Value.string) ∧ e = .returned (.slice o.a W.length o.c) ∧ Has w' (o.o ety ((srtS (W.map (·.1))).map Value.string)) ∧ (∀ x ∈ o.o ety ((srtS (W.map (·.1))).map Value.string),w.heap.size ≤ x.1) ∧ Ext [] w w' := by
 obtain ⟨ks,hks⟩ : ∃ ks,ks = (W.map (·.1)).map (fun s => s.data.toList) := ⟨_,rfl⟩
 have hlen : ks.length = W.length := by rw [hks,List.length_map,List.length_map]
 have hkeys : es.toList.map (·.key) = ks.map Go.Proofs.encStr := by
  have := congrArg (List.map (·.1)) h.rel
  rw [List.map_map,List.map_map] at this
  rw [hks,List.map_map,List.map_map]
  exact this
 have hcl : (srtS (W.map (·.1))).map Value.string = (srtB ks).map Go.Proofs.encStr := by rw [srtS_cells,hks]
 have hsl : ((srtB ks).map Go.Proofs.encStr).length = W.length := by rw [List.length_map,srtB_len,hlen]
 rw [hcl]
 refine (S.some bm r es ck ks w hb h.st hkeys (fun x hx => by
  rw [hks] at hx
  obtain ⟨s,hs,rfl⟩ := List.mem_map.1 hx
  obtain ⟨p,hp,rfl⟩ := List.mem_map.1 hs
  exact hk p hp) (by rw [hlen]; exact hl) hc).mono ?_
 rintro e w' ⟨v,rfl,hrow,_,hB⟩
 rw [hlen] at hrow
 have hx : Ext [] w w' := ⟨hB.os,hB.tape,hB.output,hB.size,fun k hk _ => hB.block k hk⟩
 rcases hrow.2 with ⟨rfl,h0⟩ | ⟨g,cap,cur,rfl,hbase,hg,r1,_,r3,r4⟩
 ·have e0 : (srtB ks).map Go.Proofs.encStr = [] := List.eq_nil_of_length_eq_zero (by rw [hsl,h0])
  rw [e0,h0]
  exact ⟨.none,OwnOk.none 1,rfl,(fun e he => by cases he),(fun e he => by cases he),hx⟩
 ·have hcur : ((srtB ks).map Go.Proofs.encStr ++ cur.toList.drop W.length).toArray = cur := by
   apply Array.ext'
   show (srtB ks).map Go.Proofs.encStr ++ cur.toList.drop W.length = cur.toList
   have r4' : cur.toList.take W.length = (srtB ks).map Go.Proofs.encStr := by rw [Nat.mul_one] at r4; exact r4
   rw [← r4',List.take_append_drop]
  refine ⟨.some (g,cap,cur.toList.drop W.length),⟨by rw [hsl,Nat.mul_one],fun h => (by cases h),fun p hp => ?_⟩,rfl,fun e he => ?_,fun e he => ?_,hx⟩
  ·cases hp
   refine ⟨?_,r1⟩
   have r3' : cur.toList.length = cap := by rw [Array.length_toList,r3,Nat.mul_one]
   simp only
   rw [hsl,List.length_drop,r3']; omega
  ·rw [List.mem_singleton.1 he]
   simp only
   rw [hcur]; exact hg
  ·rw [List.mem_singleton.1 he]; exact hbase
end K
end Go.Proofs.YtfgdepggdiibdaaGreatDoor
namespace Go.Proofs.YtfgdepggdiibdaaGreatDoor
open Go.Shelf Go.Proofs
def L.keys43_ren : Go.Shelf.Ren := ⟨fun | 7 => 43 | 10 => 86 | n => n,fun | 23 => 81 | 26 => 9 | 3 => 3 | 28 => 107 | 0 => 0 | 27 => 106 | 33 => 45 | 4 => 4 | n => n,fun | n => n⟩
theorem L.keys43 : Go.Proofs.SlLaysZ.n7 Tryz.prog L.keys43_ren := {
 mixed := by kernel_rfl,
 f7 := ⟨Tryz.f43.name,by decide,Tryz.func43.trans (congrArg some kr)⟩,
 f10 := ⟨Tryz.f86.name,by decide,Tryz.func86.trans (congrArg some kr)⟩,
 t0 := Tryz.underlying0,
 a0 := Tryz.isAgg0,
 z0 := Tryz.sizeOf0,
 v0 := Tryz.zeroValue0,
 t4 := Tryz.underlying4,
 a4 := Tryz.isAgg4,
 z4 := Tryz.sizeOf4,
 v4 := Tryz.zeroValue4,
 t23 := Tryz.underlying81,
 a23 := Tryz.isAgg81,
 z23 := Tryz.sizeOf81,
 v23 := Tryz.zeroValue81,
 t26 := Tryz.underlying9,
 a26 := Tryz.isAgg9,
 z26 := Tryz.sizeOf9,
 v26 := Tryz.zeroValue9,
 t27 := Tryz.underlying106,
 a27 := Tryz.isAgg106,
 z27 := Tryz.sizeOf106,
 v27 := Tryz.zeroValue106,
 t28 := Tryz.underlying107,
 a28 := Tryz.isAgg107,
 z28 := Tryz.sizeOf107,
 v28 := Tryz.zeroValue107,
 t33 := Tryz.underlying45,
 a33 := Tryz.isAgg45,
 z33 := Tryz.sizeOf45,
 v33 := Tryz.zeroValue45 }
def L.sorted42_ren : Go.Shelf.Ren := ⟨fun | 6 => 42 | 8 => 84 | 9 => 85 | 11 => 125 | 13 => 127 | 12 => 126 | 23 => 160 | 24 => 161 | 14 => 151 | 15 => 152 | 16 => 153 | 17 => 154 | 18 => 155 | 19 => 156 | 20 => 157 | 21 => 158 | 22 => 159 | 25 => 186 | 26 => 187 | 27 => 188 | 28 => 189 | 29 => 190 | 30 => 191 | 31 => 202 | n => n,fun | 26 => 9 | 28 => 107 | 24 => 41 | 0 => 0 | 3 => 3 | 37 => 189 | 48 => 157 | 50 => 141 | 4 => 4 | 40 => 239 | 39 => 238 | 45 => 109 | 5 => 5 | 9 => 9 | 51 => 267 | 55 => 270 | 57 => 281 | 58 => 127 | 33 => 45 | n => n,fun | n => n⟩
theorem L.sorted42 : Go.Proofs.SlLaysZ.n6 Tryz.prog L.sorted42_ren := {
 mixed := by kernel_rfl,
 f6 := ⟨Tryz.f42.name,by decide,Tryz.func42.trans (congrArg some kr)⟩,
 f8 := ⟨Tryz.f84.name,by decide,Tryz.func84.trans (congrArg some kr)⟩,
 f11 := ⟨Tryz.f125.name,by decide,Tryz.func125.trans (congrArg some kr)⟩,
 t0 := Tryz.underlying0,
 a0 := Tryz.isAgg0,
 z0 := Tryz.sizeOf0,
 v0 := Tryz.zeroValue0,
 t24 := Tryz.underlying41,
 a24 := Tryz.isAgg41,
 z24 := Tryz.sizeOf41,
 v24 := Tryz.zeroValue41,
 t26 := Tryz.underlying9,
 a26 := Tryz.isAgg9,
 z26 := Tryz.sizeOf9,
 v26 := Tryz.zeroValue9,
 t28 := Tryz.underlying107,
 a28 := Tryz.isAgg107,
 z28 := Tryz.sizeOf107,
 v28 := Tryz.zeroValue107,
 i26 := by kernel_rfl }
def L.sort85_ren : Go.Shelf.Ren := ⟨fun | 6 => 85 | 8 => 127 | 9 => 126 | 19 => 160 | 20 => 161 | 21 => 151 | 22 => 152 | 23 => 153 | 24 => 154 | 25 => 155 | 26 => 156 | 27 => 157 | 28 => 158 | 29 => 159 | 36 => 186 | 31 => 187 | 32 => 188 | 37 => 189 | 38 => 190 | 39 => 191 | 41 => 202 | n => n,fun | 27 => 41 | 29 => 9 | 3 => 3 | 32 => 189 | 26 => 41 | 0 => 0 | 44 => 157 | 46 => 141 | 4 => 4 | 36 => 239 | 35 => 238 | 41 => 109 | 5 => 5 | 9 => 9 | 53 => 267 | 57 => 270 | 63 => 281 | 64 => 127 | n => n,fun | n => n⟩
theorem L.sort85 : Go.Proofs.SlLaysM.n6 Tryz.prog L.sort85_ren := {
 mixed := by kernel_rfl,
 f6 := ⟨Tryz.f85.name,by decide,Tryz.func85.trans (congrArg some kr)⟩,
 f8 := Tryz.func127.trans (congrArg some kr),
 f9 := ⟨Tryz.f126.name,by decide,Tryz.func126.trans (congrArg some kr)⟩,
 f19 := Tryz.func160.trans (congrArg some kr),
 f20 := Tryz.func161.trans (congrArg some kr),
 f21 := ⟨Tryz.f151.name,by decide,Tryz.func151.trans (congrArg some kr)⟩,
 f22 := ⟨Tryz.f152.name,by decide,Tryz.func152.trans (congrArg some kr)⟩,
 f23 := ⟨Tryz.f153.name,by decide,Tryz.func153.trans (congrArg some kr)⟩,
 f24 := ⟨Tryz.f154.name,by decide,Tryz.func154.trans (congrArg some kr)⟩,
 f25 := ⟨Tryz.f155.name,by decide,Tryz.func155.trans (congrArg some kr)⟩,
 f26 := ⟨Tryz.f156.name,by decide,Tryz.func156.trans (congrArg some kr)⟩,
 f27 := ⟨Tryz.f157.name,by decide,Tryz.func157.trans (congrArg some kr)⟩,
 f28 := ⟨Tryz.f158.name,by decide,Tryz.func158.trans (congrArg some kr)⟩,
 f29 := ⟨Tryz.f159.name,by decide,Tryz.func159.trans (congrArg some kr)⟩,
 f31 := Tryz.func187.trans (congrArg some kr),
 f32 := Tryz.func188.trans (congrArg some kr),
 f36 := ⟨Tryz.f186.name,by decide,Tryz.func186.trans (congrArg some kr)⟩,
 f37 := ⟨Tryz.f189.name,by decide,Tryz.func189.trans (congrArg some kr)⟩,
 f38 := ⟨Tryz.f190.name,by decide,Tryz.func190.trans (congrArg some kr)⟩,
 f39 := ⟨Tryz.f191.name,by decide,Tryz.func191.trans (congrArg some kr)⟩,
 f41 := ⟨Tryz.f202.name,by decide,Tryz.func202.trans (congrArg some kr)⟩,
 t0 := Tryz.underlying0,
 a0 := Tryz.isAgg0,
 z0 := Tryz.sizeOf0,
 v0 := Tryz.zeroValue0,
 t3 := Tryz.underlying3,
 a3 := Tryz.isAgg3,
 z3 := Tryz.sizeOf3,
 v3 := Tryz.zeroValue3,
 t4 := Tryz.underlying4,
 a4 := Tryz.isAgg4,
 z4 := Tryz.sizeOf4,
 v4 := Tryz.zeroValue4,
 t5 := Tryz.underlying5,
 a5 := Tryz.isAgg5,
 z5 := Tryz.sizeOf5,
 v5 := Tryz.zeroValue5,
 t9 := Tryz.underlying9,
 a9 := Tryz.isAgg9,
 z9 := Tryz.sizeOf9,
 v9 := Tryz.zeroValue9,
 t26 := Tryz.underlying41,
 a26 := Tryz.isAgg41,
 z26 := Tryz.sizeOf41,
 v26 := Tryz.zeroValue41,
 t27 := Tryz.underlying41,
 a27 := Tryz.isAgg41,
 z27 := Tryz.sizeOf41,
 v27 := Tryz.zeroValue41,
 t29 := Tryz.underlying9,
 a29 := Tryz.isAgg9,
 z29 := Tryz.sizeOf9,
 v29 := Tryz.zeroValue9,
 t32 := Tryz.underlying189,
 a32 := Tryz.isAgg189,
 z32 := Tryz.sizeOf189,
 v32 := Tryz.zeroValue189,
 t35 := Tryz.underlying238,
 a35 := Tryz.isAgg238,
 z35 := Tryz.sizeOf238,
 v35 := Tryz.zeroValue238,
 t36 := Tryz.underlying239,
 a36 := Tryz.isAgg239,
 z36 := Tryz.sizeOf239,
 v36 := Tryz.zeroValue239,
 t41 := Tryz.underlying109,
 a41 := Tryz.isAgg109,
 z41 := Tryz.sizeOf109,
 v41 := Tryz.zeroValue109,
 t44 := Tryz.underlying157,
 a44 := Tryz.isAgg157,
 z44 := Tryz.sizeOf157,
 v44 := Tryz.zeroValue157,
 t46 := Tryz.underlying141,
 a46 := Tryz.isAgg141,
 z46 := Tryz.sizeOf141,
 v46 := Tryz.zeroValue141,
 t53 := Tryz.underlying267,
 a53 := Tryz.isAgg267,
 z53 := Tryz.sizeOf267,
 v53 := Tryz.zeroValue267,
 t57 := Tryz.underlying270,
 a57 := Tryz.isAgg270,
 z57 := Tryz.sizeOf270,
 v57 := Tryz.zeroValue270,
 t63 := Tryz.underlying281,
 a63 := Tryz.isAgg281,
 z63 := Tryz.sizeOf281,
 v63 := Tryz.zeroValue281,
 t64 := Tryz.underlying127,
 a64 := Tryz.isAgg127,
 z64 := Tryz.sizeOf127,
 v64 := Tryz.zeroValue127 }
theorem L.sorts42 (m : Nat) : AnyZ.SortsIn Tryz.prog L.sorted42_ren Fence.wide m :=
  ⟨fun blk off cap ss W hH hblk hsz => callsIn_wide.2 (AnyM.slices_Sort_string L.sort85 blk off cap ss W hH hblk hsz),
   fun p cap W => callsIn_wide.2 (AnyM.slices_Sort_string_none L.sort85 p cap W)⟩
theorem L.sortedKeys43 : I.SortedKeysS Tryz.prog 42 86 9 := I.sortedKeysS_of L.keys43 L.sorted42 L.sorts42 (enters_of Tryz.func85 (by kernel_rfl) rfl)
end Go.Proofs.YtfgdepggdiibdaaGreatDoor
namespace Go.Proofs.YtfgdepggdiibdaaGreatDoor
open K
set_option linter.unusedVariables false
set_option maxRecDepth 100000 in
theorem fList (z : FM) (num : Nat) (m : DM) (y : MX) (D : DK) (T : Tb) (w : World) (hR : Has w (gO z 0 num m T ++ dO D m y)) (hf : FOk z T) (hnm : ∀ p ∈ T.W,p.1.size ≤ maxLen) (hl : T.W.length ≤ 1000000) :
  Calls Tryz.prog 12 #[.pointer (some ⟨z.fb,0,none⟩)] w fun e w' => ∃ o : K.Own,OwnOk o 1 T.W.length ((srtS (T.W.map fun (p : ByteArray × Value) => p.1)).map Value.string) ∧ e = .returned (.slice (Own.a o) T.W.length (Own.c o)) ∧ ∃ R1,HP w [] R1 (Own.o 9 ((srtS (T.W.map fun (p : ByteArray × Value) => p.1)).map Value.string) o) w' := by
 refine enter (vs := [.pointer (some ⟨z.fb,0,none⟩)]) [] (gO z 0 num m T ++ dO D m y) [] Tryz.func12 rfl kr (HP.ofHas hR) ?_
 refine Rg [0] [] n0 trivial ?_
 refine Rg [0,4] [] n0 trivial ?_
 refine Cfg.condF rfl (b := false) kr rfl ?_
 refine Cfg.begL rfl ?_
 refine Lp 7 [dZ,dZ,dZ,(dS (.pointer (some ⟨z.tb,0,none⟩))),dZ,dZ,(dS (.map (some z.nr)))] (some [11]) (fun S => [(∀ w1,S w1 → w1.cell? ⟨z.fb,1,none⟩ = some (.pointer (some ⟨z.tb,0,none⟩))),(∀ w1,S w1 → w1.cell? ⟨z.tb,432,none⟩ = some (.map (some z.nr)))]) ⟨(rC 0 rfl rfl),(fun w1 h => h.rcell 2 rfl (tb_names hf.tb.l)),trivial⟩ ?_
 refine Le (Eff.callN (vs := [.map (some z.nr)]) (fun tq => .func (.func 86) #[] #[pT tq]) (fun tq => tq) (fun _ => .cells #[.map (some z.nr)] 81 (0,0)) (fun _ => True) rfl Tryz.func43 rfl rfl kr (fun w1 h => mKeysS z.nr w1)) ?_
 rintro tq -
 refine Le (Eff.callOF (vs := [.func (.func 86) #[] #[pT tq]]) 9 1 T.W.length ((srtS (T.W.map fun (p : ByteArray × Value) => p.1)).map Value.string) [(tq,.cells #[.map (some z.nr)] 81 (0,0))] [] rfl rfl Tryz.func42 rfl rfl kr (fun w1 h => sorted_givesS L.sortedKeys43 tq z.nr z.x.1 z.x.2 T.W w1 hf.sm (h.ro _ (mG 3 rfl)) hnm hl (h.ocell 0 rfl rfl))) ?_
 rintro o ko
 refine Lp 1 [] (some [2]) n0 trivial ?_
 refine CfgL.done rfl ?_
 refine Cfg.ret rfl (rs := [.tmp 2]) rfl [.slice (Own.a o) T.W.length (Own.c o)] ⟨kr,trivial⟩ (fun w1 hp => ?_)
 have h9 : HP w [] _ (Own.o 9 ((srtS (T.W.map fun (p : ByteArray × Value) => p.1)).map Value.string) o ++ []) w1 := hp.sub (.cons _ slr)
 rw [List.append_nil] at h9
 exact ⟨o,ko,rfl,_,h9⟩
end Go.Proofs.YtfgdepggdiibdaaGreatDoor
namespace Go.Proofs.YtfgdepggdiibdaaGreatDoor
open K
set_option linter.unusedVariables false
theorem xor_le {a b : Nat} (ha : a < 256) (hb : b < 256) : 0 ≤ ((a ^^^ b : Nat) : Int) ∧ ((a ^^^ b : Nat) : Int) ≤ 255 := by
 have := Nat.xor_lt_two_pow (n := 8) ha hb
 exact ⟨Int.natCast_nonneg _,by omega⟩
def szN (T : Tb) (nm : ByteArray) : Nat := (T.ps.getD (vk ((smget T.W nm).getD (.int .i64 0))) plz).sz
def totN (T : Tb) (L : List ByteArray) (j : Nat) : Nat := ((L.take j).map fun nm => secs (szN T nm)).sum
theorem totN_next {T : Tb} {L : List ByteArray} {j : Nat} {nm : ByteArray} (h : j < L.length) (hn : nm = L.getD j ByteArray.empty) : totN T L (j + 1) = totN T L j + secs (szN T nm) := by
 unfold totN
 have e : L[j] = nm := by rw [hn,List.getD_eq_getElem?_getD,List.getElem?_eq_getElem h]; rfl
 rw [List.take_succ_eq_append_getElem h,List.map_append,List.sum_append,e]; simp
theorem szN_at {T : Tb} {nm : ByteArray} {k : Nat} (h : smget T.W nm = some (.int .i64 (k : Int))) : szN T nm = (T.ps.getD k plz).sz := by
 unfold szN
 rw [h]; rfl
def nmS (T : Tb) : List ByteArray := srtS (T.W.map fun (p : ByteArray × Value) => p.1)
theorem nmS_len (T : Tb) : (nmS T).length = T.W.length := by unfold nmS; rw [srtS_len,List.length_map]
theorem totN_all {T : Tb} (hn : (T.W.map (·.1)).Nodup) : totN T (nmS T) (nmS T).length = psum T.ps T.W := by
 unfold totN psum
 rw [List.take_length]
 have h1 : ((nmS T).map fun nm => secs (szN T nm)).Perm ((T.W.map fun (p : ByteArray × Value) => p.1).map fun nm => secs (szN T nm)) := (srtS_perm _).map _
 have hs : ∀ {a b : List Nat},a.Perm b → a.sum = b.sum := fun h => by
  induction h with
  | nil => rfl
  | cons x _ ih => rw [List.sum_cons,List.sum_cons,ih]
  | swap x y l => simp only [List.sum_cons]; omega
  | trans _ _ h1 h2 => exact h1.trans h2
 rw [hs h1,List.map_map]
 congr 1
 refine List.map_congr_left fun p hp => ?_
 show secs (szN T p.1) = secs (T.ps.getD (vk p.2) plz).sz
 unfold szN
 rw [smget_of hn (k := p.1) (v := p.2) hp]; rfl
theorem name_at {T : Tb} (h : EntI 144 T) {j : Nat} (hj : j < T.W.length) {nm : ByteArray} (hn : nm = (nmS T).getD j ByteArray.empty) : ∃ k : Nat,k < 144 ∧ smget T.W nm = some (.int .i64 (k : Int)) ∧ namB nm = true ∧ plIn (T.ps.getD k plz) := by
 have hj2 : j < (nmS T).length := by rw [nmS_len]; exact hj
 have h1 : nm ∈ nmS T := by rw [hn,List.getD_eq_getElem?_getD,List.getElem?_eq_getElem hj2]; exact List.getElem_mem hj2
 obtain ⟨p,hp,e⟩ := List.mem_map.1 ((srtS_perm _).mem_iff.1 h1)
 obtain ⟨k,e2,_,hk,h3,h4⟩ := h.w p hp
 have h5 := smget_of h.nd (k := p.1) (v := p.2) hp
 rw [e2,e] at h5
 rw [e] at h3
 exact ⟨k,hk,h5,h3,h4⟩
theorem free_ct (fr : List Bool) : suml (runsAt fr 0) = fr.count true := by rw [suml_count,List.drop_zero]
theorem fd_size {D : DK} (h : DG D) (p : Pl) : (tx (fdat D p (secs p.sz))).size = p.sz := by
 rw [tx_size,fdat_len h]
 unfold secs; omega
theorem str_cell {w : World} {ob j : Nat} {L : List ByteArray} {oj : List Value} {t : TypeId} {fr : Nat × Nat} (h : w.heap[ob]? = some (.cells (L.map Value.string ++ oj).toArray t fr)) (hj : j < L.length) : w.cell? ⟨ob,j,none⟩ = some (.string (L.getD j ByteArray.empty)) := by
 rw [cell_cells h,List.getElem?_toArray,List.getElem?_append_left (by rw [List.length_map]; exact hj),List.getElem?_map,List.getD_eq_getElem?_getD,List.getElem?_eq_getElem hj]; rfl
set_option maxRecDepth 100000 in
set_option maxHeartbeats 8000000 in
theorem filesTurnedWalk {t0 : TypeId} {fr0 : Nat × Nat} (la : Option Addr) (cap : Nat) (l : List FA) (Rl : List (Nat × Obj)) (at_ tu bx : Nat) (w : World) (hI : InF acL 4 Rl la l) (hll : l.length ≤ maxLen) (hat : at_ < 65536) (htu : tu < 256) (hbx : bx < 256) (hR : Has w ((1,Obj.cells (wv Kc) t0 fr0) :: Rl)) :
  Calls Tryz.prog 3 #[.slice la l.length cap,.int .u16 (at_ : Int),.int .u8 (tu : Int),.int .u8 (bx : Int)] w fun e w' => e = .returned (.bool true) ∧ Ext [] w w' := by
 have hl2 : l.length ≤ 9223372036854775807 := hll
 refine enter (vs := [.slice la l.length cap,.int .u16 (at_ : Int),.int .u8 (tu : Int),.int .u8 (bx : Int)]) [] ((1,Obj.cells (wv Kc) t0 fr0) :: Rl) [] Tryz.func3 rfl kr (HP.ofHas hR) ?_
 refine Rg [0,1,2,3] [] n0 trivial ?_
 refine Cfg.begL rfl ?_
 refine Le (Eff.callA (vs := []) (.bool true) rfl Tryz.func5 rfl rfl kr (fun w1 h => fAwake w1 (fun e he => h.ro e (by rw [List.mem_singleton.1 he]; exact mH)))) ?_
 rintro ⟨⟩ -
 refine Lp 1 [] (some [0,1,2,3,25]) n0 trivial ?_
 refine CfgL.done rfl ?_
 refine Cfg.condF rfl (b := false) kr rfl ?_
 refine Cfg.begL rfl ?_
 refine Lp 1 [] (some [0,1,2,3,26]) n0 trivial ?_
 refine Le (Eff.callA (vs := [.slice la l.length cap]) (.bool (lightF l)) rfl Tryz.func6 rfl rfl kr (fun w1 h => fLight la cap l Rl w1 hI hll (fun e he => h.ro e (List.mem_cons_of_mem _ he)))) ?_
 rintro ⟨⟩ -
 refine Lp 1 [] (some [0,1,2,3,28]) n0 trivial ?_
 refine CfgL.done rfl ?_
 refine Cfg.cond rfl (b := (!(lightF l))) kr (fun c2r => ?_) (fun c2r => ?_)
 ·have c2 : ((lightF l) = false) := (notT c2r)
  refine Rg [8] [] n0 trivial ?_
  refine Cfg.ret rfl (rs := [.tmp 8]) rfl [.bool true] ⟨kr,trivial⟩ (fun w1 hp => ?_)
  exact ⟨by simp [resOf],hp.ext⟩
 ·have c2 : ((lightF l) = true) := (notF c2r)
  have hlt : lightF l = true := by simpa using c2
  have hl12 := light_len hlt
  refine Cfg.begL rfl ?_
  refine Le (Eff.callH (vs := [.int .i64 200]) (fun y : DM × MX => .tuple #[.pointer (some ⟨y.1.d,0,none⟩),.int .i64 0]) [] (fun y => dO (newD 200) y.1 y.2) (fun y => MapOk y.2.1 y.2.2 []) [] [] rfl rfl Tryz.func7 rfl rfl kr (fun w1 h _ _ => dNew 200 w1 (by decide))) ?_
  rintro ⟨m,x⟩ hmo
  refine Lp 5 [] (some [0,1,2,3,9]) n0 trivial ?_
  refine CfgL.done rfl ?_
  refine Cfg.begL rfl ?_
  refine Lp 1 [] none n0 trivial ?_
  refine Le (Eff.callH (vs := [.pointer (some ⟨m.d,0,none⟩)]) (fun q : FM × MX => .tuple #[.pointer (some ⟨q.1.fb,0,none⟩),.int .i64 0]) (dO (newD 200) m x) (fun q => gO q.1 0 s00.num m s00.T ++ dO s00.D m q.2) (fun q => FOk q.1 s00.T ∧ MapOk q.2.1 q.2.2 (wv2 s00.D.wait)) [] [] rfl rfl Tryz.func8 rfl rfl kr (fun w1 h hA1 hd1 => by have h9 := fOpenOk m x (newD 200) t0 fr0 w1 Wl.new.g hmo new_steps6 hA1 hd1 (fun e he => h.ro e (by rw [List.mem_singleton.1 he]; exact mH)) (apart (Fl := []) (A := dO (newD 200) m x) (T := []) h (fun e he =>  (by rw [List.mem_singleton.1 he]; exact mH))) (Wl.new.open0 (new_shown 0)) (newD_len 200) rfl (by rw [op_new 24 (Nat.le_refl _)]); rw [op_new 24 (Nat.le_refl _)] at h9; exact h9)) ?_
  rintro ⟨z,y⟩ ⟨hfz,hmy⟩
  refine CfgL.pure 5 [] (some [0,1,2,3,9,11,12]) (Γ' := [(12,[],.int .i64 0),(11,[],.pointer (some ⟨z.fb,0,none⟩)),(9,[],.pointer (some ⟨m.d,0,none⟩)),(0,[],.slice la l.length cap),(1,[],.int .u16 (at_ : Int)),(2,[],.int .u8 (tu : Int)),(3,[],.int .u8 (bx : Int))]) (nd := (fun _ => [])) kr (fun _ => kr) trivial ?_
  refine CfgL.done rfl ?_
  refine Rg [0,1,2,3,9,11,39] [] n0 trivial ?_
  refine Cfg.condF rfl (b := false) kr rfl ?_
  refine Rg [1,2,3,9,11,40,41,42] [] n0 trivial ?_
  refine Cfg.loop rfl (ι := Nat × FSx9 × FM × MX) (fun (xz : Nat × FSx9 × FM × MX) => match xz with | (i,s,z2,y2) => [(42,[],.int .i64 (i : Int)),(41,[],.int .i64 (l.length : Int)),(40,[],.slice la l.length cap),(11,[],.pointer (some ⟨z.fb,0,none⟩)),(9,[],.pointer (some ⟨m.d,0,none⟩)),(1,[],.int .u16 (at_ : Int)),(2,[],.int .u8 (tu : Int)),(3,[],.int .u8 (bx : Int))]) (fun (xz : Nat × FSx9 × FM × MX) => match xz with | (i,s,z2,y2) => ([] ++ ((gO z2 0 s.num m s.T ++ dO s.D m y2) ++ []))) (fun (xz : Nat × FSx9 × FM × MX) => match xz with | (i,s,z2,y2) => (i ≤ l.length) ∧ (Wl s.D) ∧ (FOk z2 s.T) ∧ (MapOk y2.1 y2.2 (wv2 s.D.wait)) ∧ (z2.fb = z.fb) ∧ (0 ≤ s.D.steps ∧ s.D.steps ≤ 20000 * (i : Int))) (fun (xz : Nat × FSx9 × FM × MX) => match xz with | (i,s,z2,y2) => l.length - i) (0,s00,z,y) ?_ (Conv.mk kr) slr ?_
  ·exact ⟨Nat.zero_le _,Wl.new,hfz,hmy,rfl,Int.le_refl 0,Int.le_refl 0⟩
  ·rintro ⟨i,s,z2,y2⟩ ⟨hi,hw,hf,hmy,hz,hst⟩
   refine Rg [1,2,3,9,11,40,41,42,43] [] n0 trivial ?_
   refine Cfg.cond rfl (b := (decide ((i : Int) < (l.length : Int)))) kr (fun c4r => ?_) (fun c4r => ?_)
   ·have c4 := (dT c4r)
    obtain ⟨sb,off,cs,te,fre,hsb,hmem,hcs⟩ := hI om
    obtain ⟨a,hae⟩ : ∃ a,a = l.getD i faz := ⟨_,rfl⟩
    have hla := light_at hlt a (by rw [hae]; exact K.getD_mem om)
    have hasz : a.nm.size ≤ maxLen ∧ a.t2.size ≤ maxLen := ⟨Nat.le_trans hla.2.n (by decide),Nat.le_trans hla.2.t (by decide)⟩
    refine Cfg.setS 40 (congrArg (fun (xq : Value) => (xq : Value)) (show .slice la l.length cap = .slice (some ⟨sb,off,none⟩) l.length cap from by rw [hsb])) ?_
    refine Cfg.begL rfl ?_
    refine Lp 2 [dZ,(dS (.agg (acC a)))] (some [1,2,3,9,11,40,41,42,45]) (fun S => [(0 ≤ (i : Int) ∧ (i : Int) < (l.length : Int)),(∀ w1,S w1 → (loadVar 34 ⟨sb,(addO off (i * 4)),none⟩).run Tryz.prog w1 = .ok (.agg (acC a)) w1)]) ⟨om,(fun w1 h => load_list (vs := acL a) Tryz.underlying34 rfl kr (acL_len _) (fun j v hj => by rw [addO_eq]; exact (cell_cells (h.ro _ (List.mem_cons_of_mem _ hmem))).trans (fl_cell faz (fun x _ => acL_len x) hcs om (by rw [← hae]; exact hj)))),trivial⟩ ?_
    refine Le (Eff.alloc (z := (.agg (acC faz))) rfl kr) ?_
    rintro xb ⟨hxb,nxb⟩
    refine Le (Eff.storeN (b := xb) (off := 0) (vs := (acC a)) (n := 4) rfl kr kr kr rfl (acL_all _) 0 (cs := (acC faz)) (e := 34) kr (Nat.le_refl 4)) ?_
    rintro ⟨⟩ -
    refine CfgL.setO (congrArg (fun (xq : Array Value) => (([(xb,.cells xq 34 (0,0))] ++ ((gO z2 0 s.num m s.T ++ dO s.D m y2) ++ [])) : LO)) (show _ = (acC a) from (show spl (acC faz) 0 (acC a).toList = acC a from spl_all rfl))) ?_
    refine CfgL.done rfl ?_
    refine Cg (Γ' := [(14,[],pT xb),(42,[],.int .i64 (i : Int)),(41,[],.int .i64 (l.length : Int)),(40,[],.slice (some ⟨sb,off,none⟩) l.length cap),(11,[],.pointer (some ⟨z.fb,0,none⟩)),(9,[],.pointer (some ⟨m.d,0,none⟩)),(1,[],.int .u16 (at_ : Int)),(2,[],.int .u8 (tu : Int)),(3,[],.int .u8 (bx : Int))]) ?_
    refine Cfg.begL rfl ?_
    refine Lp 2 [dZ,(dS (.agg (acC a)))] (some [1,2,3,9,11,40,41,42,46,47]) (fun S => [(∀ w1,S w1 → (loadVar 34 ⟨xb,0,none⟩).run Tryz.prog w1 = .ok (.agg (acC a)) w1)]) ⟨(fun w1 h => h.oload 0 rfl Tryz.underlying34 rfl (n := 4) kr rfl),trivial⟩ ?_
    refine Le (Eff.buildAgg (vs := (acC a)) (n := 4) rfl kr Tryz.underlying22 kr (z := (.agg (acC faz))) kr rfl (by decide) (by decide)) ?_
    rintro kb ⟨hkb,nkb⟩
    refine Le (Eff.callH (vs := [.pointer (some ⟨z.fb,0,none⟩),.slice (some ⟨kb,0,none⟩) 1 1]) (fun _ : FM × MX => .int .i64 ((doF s [a]).1)) ((gO z2 0 s.num m s.T ++ dO s.D m y2)) (fun q => (gO q.1 0 ((doF s [a]).2.num) m ((doF s [a]).2.T) ++ dO ((doF s [a]).2.D) m q.2)) (fun q => q.1.fb = z.fb ∧ FOk q.1 ((doF s [a]).2.T) ∧ MapOk q.2.1 q.2.2 (wv2 ((doF s [a]).2.D).wait) ∧ Wl ((doF s [a]).2.D) ∧ s.D.steps ≤ ((doF s [a]).2.D).steps ∧ ((doF s [a]).2.D).steps ≤ s.D.steps + 20000) [(kb,.cells (acC a) 34 (0,0)),(xb,.cells (acC a) 34 (0,0))] [] rfl rfl Tryz.func9 rfl rfl kr (fun w1 h hA1 hd1 => by have h9 := fDo z2 m y2 s (some ⟨kb,0,none⟩) 1 [a] [(kb,Obj.cells (acC a) 34 (0,0))] t0 fr0 w1 hw hf hmy ⟨hst.1,by omega⟩ hA1 hd1 (show InF acL 4 [(kb,Obj.cells (acC a) 34 (0,0))] (some ⟨kb,0,none⟩) [a] from inF_blk kb 34 [a]) (fun x hx => by rw [List.mem_singleton.1 hx]; exact hasz) (by show 1 ≤ 1000000; decide) (go_side (L := [(kb,Obj.cells (acC a) 34 (0,0)),(xb,Obj.cells (acC a) 34 (0,0))]) (A := (gO z2 0 s.num m s.T ++ dO s.D m y2)) (U := [(kb,Obj.cells (acC a) 34 (0,0))]) (T := []) h mH (fun e he => by rw [List.mem_singleton.1 he]; exact mG 0 rfl)).1 (go_side (L := [(kb,Obj.cells (acC a) 34 (0,0)),(xb,Obj.cells (acC a) 34 (0,0))]) (A := (gO z2 0 s.num m s.T ++ dO s.D m y2)) (U := [(kb,Obj.cells (acC a) 34 (0,0))]) (T := []) h mH (fun e he => by rw [List.mem_singleton.1 he]; exact mG 0 rfl)).2; rw [hz] at h9; exact h9)) ?_
    rintro ⟨z3,y3⟩ ⟨hz3,hf3,hm3,hw3,hs3⟩
    refine CfgL.done rfl ?_
    refine Cg (Γ' := [(42,[],.int .i64 (i : Int)),(41,[],.int .i64 (l.length : Int)),(40,[],.slice (some ⟨sb,off,none⟩) l.length cap),(11,[],.pointer (some ⟨z.fb,0,none⟩)),(9,[],.pointer (some ⟨m.d,0,none⟩)),(1,[],.int .u16 (at_ : Int)),(2,[],.int .u8 (tu : Int)),(3,[],.int .u8 (bx : Int))]) ?_
    refine Rg [1,2,3,9,11,40,41,42] [] (fun _ => [(i6 ((i : Int) + 1))]) ⟨om,trivial⟩ ?_
    refine Cfg.setS 40 (congrArg (fun (xq : Value) => (xq : Value)) (show .slice (some ⟨sb,off,none⟩) l.length cap = .slice la l.length cap from by rw [hsb])) ?_
    refine Cfg.again rfl (i + 1,(doF s [a]).2,z3,y3) ⟨by omega,hw3,hf3,hm3,hz3,by have := hs3.1; have := hs3.2; omega,by have := hs3.2; omega⟩ (by show l.length - (i + 1) < l.length - i; omega) (Conv.mk kr) (.cons _ (.cons _ slr))
   ·have c4 := (dF c4r)
    refine Cfg.sub (O' := ([] ++ (dO s.D m y2 ++ []))) ?_ (show List.Sublist (dO s.D m y2 ++ []) ((gO z2 0 s.num m s.T ++ dO s.D m y2) ++ []) from List.Sublist.append (List.sublist_append_right _ _) slr)
    refine Rg [1,2,3,9,15] [] (fun _ => [(0 ≤ (at_ : Int) ∧ (at_ : Int) ≤ 65535 ∧ 0 < (512 : Int)),(i6 ((at_ : Int) / 512)),(0 ≤ ((at_ : Int) / 512) ∧ 0 < (24 : Int)),(i6 (97 + (((at_ : Int) / 512) % 24)))]) ⟨om,om,om,om,trivial⟩ ?_
    obtain ⟨q,hq,hq97,hq121⟩ : ∃ q : Nat,((97 : Int) + ((((at_ : Int) / (512 : Int)) % (24 : Int)))) = (q : Int) ∧ 97 ≤ q ∧ q < 121 := ⟨97 + at_ / 512 % 24,by omega,by omega,by omega⟩
    refine Cfg.setS 15 (congrArg (fun (xq : Int) => (.int .i64 xq : Value)) (show (97 + (((at_ : Int) / 512) % 24)) = (q : Int) from by first | exact hq | (rw [← hq]))) ?_
    refine Cfg.begL rfl ?_
    refine Lp 2 [] none n0 trivial ?_
    refine Le (Eff.callA (vs := [.pointer (some ⟨m.d,0,none⟩),.int .i64 (q : Int)]) (.tuple #[.agg (bv (readF s.D (q : Int))),.int .i64 (fltF s.D (q : Int))]) rfl Tryz.func10 rfl rfl kr (fun w1 h => dRead m y2 s.D (q : Int) w1 hw.g hmy (fun e he => h.own e (show e ∈ ([] ++ (dO s.D m y2 ++ [])) from (mR (mL he)))))) ?_
    rintro ⟨⟩ -
    refine Lp 3 [] (some [1,2,3,9,15,60,61]) n0 trivial ?_
    refine Le (Eff.alloc (z := (.agg (bv (List.replicate 512 0)))) rfl kr) ?_
    rintro hb3 ⟨hhb3,nhb3⟩
    refine Le (Eff.storeN (b := hb3) (off := 0) (vs := (bv (readF s.D (q : Int)))) (n := 512) rfl kr kr kr ((bv_size _).trans (readF_len hw.g _)) (all_bv _) 0 (cs := (bv (List.replicate 512 0))) (e := 37) kr (by rw [zsz512]; omega)) ?_
    rintro ⟨⟩ -
    refine CfgL.setO (congrArg (fun (xq : Array Value) => (([(hb3,.cells xq 37 (0,0))] ++ (dO s.D m y2 ++ [])) : LO)) (show _ = (bv (readF s.D (q : Int))) from spl_all (((bv_size _).trans (readF_len hw.g _)).trans zsz512.symm))) ?_
    refine Lp 1 [] (some [1,2,3,9,15,16]) n0 trivial ?_
    refine CfgL.done rfl ?_
    have hb1 : ((readF s.D (q : Int)).getD (at_ % 512) 0).toNat < 256 := UInt8.toNat_lt _
    refine Cfg.begL rfl ?_
    refine Lp 7 [dZ,dZ,dZ,(dS (.int .u8 ((((readF s.D (q : Int)).getD (at_ % 512) 0).toNat : Nat) : Int)))] (some [3,9,15,16,67,68]) (fun S => [(0 ≤ (at_ : Int) ∧ 0 < (512 : Int)),(iL ((at_ : Int) % 512) 512),(cE S hb3 (at_ % 512) (.int .u8 ((((readF s.D (q : Int)).getD (at_ % 512) 0).toNat : Nat) : Int))),((0 ≤ ((((readF s.D (q : Int)).getD (at_ % 512) 0).toNat : Nat) : Int) ∧ ((((readF s.D (q : Int)).getD (at_ % 512) 0).toNat : Nat) : Int) ≤ 255) ∧ 0 ≤ (tu : Int) ∧ (tu : Int) ≤ 255),(iL ((at_ : Int) % 512) 512)]) ⟨om,om,(fun w1 h => h.ocell 0 rfl (bv_get (n := 512) (readF_len hw.g _) om)),om,om,trivial⟩ ?_
    refine Le (Eff.store1 (b := hb3) (off := (at_ % 512)) (v := .int .u8 (((((readF s.D (q : Int)).getD (at_ % 512) 0).toNat) ^^^ tu : Nat) : Int)) rfl kr kr rfl kr 0 (cs := (bv (readF s.D (q : Int)))) (e := 37) kr (by rw [bv_size,readF_len hw.g _]; omega)) ?_
    rintro ⟨⟩ -
    refine CfgL.done rfl ?_
    refine Cg (Γ' := [(16,[],pT hb3),(15,[],.int .i64 (q : Int)),(9,[],.pointer (some ⟨m.d,0,none⟩)),(3,[],.int .u8 (bx : Int))]) ?_
    obtain ⟨L1,hL1,hl1⟩ : ∃ L1 : List UInt8,((bv (readF s.D (q : Int))).setIfInBounds (at_ % 512) (.int .u8 (((((readF s.D (q : Int)).getD (at_ % 512) 0).toNat) ^^^ tu : Nat) : Int))) = bv L1 ∧ L1.length = 512 := ⟨_,bv_set (xor_le hb1 htu).1 (xor_le hb1 htu).2,by rw [List.length_set]; exact readF_len hw.g _⟩
    refine Cfg.setO (congrArg (fun (xq : Array Value) => (([(hb3,.cells xq 37 (0,0))] ++ (dO s.D m y2 ++ [])) : LO)) (show _ = (bv L1) from hL1)) ?_
    have hb2 : (L1.getD 0 0).toNat < 256 := UInt8.toNat_lt _
    refine Cfg.begL rfl ?_
    refine Lp 5 [dZ,(dS (.int .u8 ((L1.getD 0 0).toNat : Int)))] (some [9,15,16,72,73]) (fun S => [(iL (0 : Int) 512),(cE S hb3 0 (.int .u8 ((L1.getD 0 0).toNat : Int))),((0 ≤ ((L1.getD 0 0).toNat : Int) ∧ ((L1.getD 0 0).toNat : Int) ≤ 255) ∧ 0 ≤ (bx : Int) ∧ (bx : Int) ≤ 255),(iL (0 : Int) 512)]) ⟨om,(fun w1 h => h.ocell 0 rfl (bv_get (n := 512) hl1 om)),om,om,trivial⟩ ?_
    refine Le (Eff.store1 (b := hb3) (off := 0) (v := .int .u8 ((((L1.getD 0 0).toNat) ^^^ bx : Nat) : Int)) rfl kr kr rfl kr 0 (cs := (bv L1)) (e := 37) kr (by rw [bv_size,hl1]; omega)) ?_
    rintro ⟨⟩ -
    refine CfgL.done rfl ?_
    refine Cg (Γ' := [(16,[],pT hb3),(15,[],.int .i64 (q : Int)),(9,[],.pointer (some ⟨m.d,0,none⟩))]) ?_
    obtain ⟨L2,hL2,hl2⟩ : ∃ L2 : List UInt8,((bv L1).setIfInBounds 0 (.int .u8 ((((L1.getD 0 0).toNat) ^^^ bx : Nat) : Int))) = bv L2 ∧ L2.length = 512 := ⟨_,bv_set (xor_le hb2 hbx).1 (xor_le hb2 hbx).2,by rw [List.length_set]; exact hl1⟩
    refine Cfg.setO (congrArg (fun (xq : Array Value) => (([(hb3,.cells xq 37 (0,0))] ++ (dO s.D m y2 ++ [])) : LO)) (show _ = (bv L2) from hL2)) ?_
    obtain ⟨D1,hD1⟩ : ∃ D1,D1 = (writeF s.D 0 zb).2 := ⟨_,rfl⟩
    have hwr1 := hw.write (q := 0) ⟨by decide,by decide⟩ zb_len
    have hD1e := hwr1.1
    have hw1 : Wl D1 := by rw [hD1]; exact hwr1.2.1
    have hsp1 := writeF_steps s.D 0 zb
    rw [← hD1] at hsp1
    obtain ⟨D2,hD2⟩ : ∃ D2,D2 = (writeF D1 (q : Int) L2).2 := ⟨_,rfl⟩
    have hwr2 := hw1.write (q := (q : Int)) ⟨by omega,by omega⟩ hl2
    have hD2e := hwr2.1
    have hw2 : Wl D2 := by rw [hD2]; exact hwr2.2.1
    have hsp2 := writeF_steps D1 (q : Int) L2
    rw [← hD2] at hsp2
    have h0s : shown D2 0 = zb := by
     rw [hD2,hwr2.2.2,if_neg om,hD1,hwr1.2.2,if_pos rfl]
    refine Cfg.begL rfl ?_
    refine Lp 2 [dZ,(dS (.agg (bv zb)))] none (fun S => [(∀ w1,S w1 → (Instr.build 37 #[]).run Tryz.prog w1 = .ok (.agg (bv zb)) w1)]) ⟨(fun w1 _ => kr),trivial⟩ ?_
    refine Le (Eff.callH (vs := [.pointer (some ⟨m.d,0,none⟩),.int .i64 0,.agg (bv zb)]) (fun _ : MX => .int .i64 0) (dO s.D m y2) (fun y => dO D1 m y) (fun y => MapOk y.1 y.2 (wv2 D1.wait)) [(hb3,.cells (bv L2) 37 (0,0))] [] rfl rfl Tryz.func11 rfl rfl kr (fun w1 h hA hd => by have h9 := dWrite m y2 s.D 0 zb w1 hw.g hmy hA hd zb_len ⟨by omega,by omega⟩; rw [hD1e,← hD1] at h9; exact h9)) ?_
    rintro x1 hmx1
    refine CfgL.done rfl ?_
    refine Cg (Γ' := [(16,[],pT hb3),(15,[],.int .i64 (q : Int)),(9,[],.pointer (some ⟨m.d,0,none⟩))]) ?_
    refine Cfg.begL rfl ?_
    refine Lp 3 [dZ,dZ,(dS (.agg (bv L2)))] (some [9,77,78,79]) (fun S => [(∀ w1,S w1 → (loadVar 37 ⟨hb3,0,none⟩).run Tryz.prog w1 = .ok (.agg (bv L2)) w1)]) ⟨(fun w1 h => h.oload 0 rfl Tryz.underlying37 rfl (n := 512) kr ((bv_size _).trans hl2)),trivial⟩ ?_
    refine Le (Eff.callH (vs := [.pointer (some ⟨m.d,0,none⟩),.int .i64 (q : Int),.agg (bv L2)]) (fun _ : MX => .int .i64 0) (dO D1 m x1) (fun y => dO D2 m y) (fun y => MapOk y.1 y.2 (wv2 D2.wait)) [(hb3,.cells (bv L2) 37 (0,0))] [] rfl rfl Tryz.func11 rfl rfl kr (fun w1 h hA hd => by have h9 := dWrite m x1 D1 (q : Int) L2 w1 hw1.g hmx1 hA hd hl2 ⟨by omega,by omega⟩; rw [hD2e,← hD2] at h9; exact h9)) ?_
    rintro x2 hmx2
    refine CfgL.done rfl ?_
    refine Cg (Γ' := [(9,[],.pointer (some ⟨m.d,0,none⟩))]) ?_
    by_cases hop : (opL D2 24 T00).1 = true
    ·
     obtain ⟨T2,hT2⟩ : ∃ T,T = (opL D2 24 T00).2 := ⟨_,rfl⟩
     have hE : EntI 144 T2 := by rw [hT2]; exact EntI.opened hop
     have hEl := hE.ln
     refine Cfg.begL rfl ?_
     refine Lp 1 [] (some [82]) n0 trivial ?_
     refine Le (Eff.callH (vs := [.pointer (some ⟨m.d,0,none⟩)]) (fun q : FM × MX => .tuple #[.pointer (some ⟨q.1.fb,0,none⟩),.int .i64 0]) (dO D2 m x2) (fun q => gO q.1 0 0 m T2 ++ dO D2 m q.2) (fun q => FOk q.1 T2 ∧ MapOk q.2.1 q.2.2 (wv2 D2.wait)) [(hb3,.cells (bv L2) 37 (0,0))] [] rfl rfl Tryz.func8 rfl rfl kr (fun w1 h hA1 hd1 => by have h9 := fOpenOk m x2 D2 t0 fr0 w1 hw2.g hmx2 ⟨by omega,by omega⟩ hA1 hd1 (fun e he => h.ro e (by rw [List.mem_singleton.1 he]; exact mH)) (apart (Fl := [(hb3,Obj.cells (bv L2) 37 (0,0))]) (A := dO D2 m x2) (T := []) h (fun e he =>  (by rw [List.mem_singleton.1 he]; exact mH))) (hw2.open0 h0s) hw2.n hw2.d hop; rw [← hT2] at h9; exact h9)) ?_
     rintro ⟨z4,y5⟩ ⟨hf4,hmy5⟩
     refine Lp 5 [] (some [12,18]) n0 trivial ?_
     refine CfgL.done rfl ?_
     refine Rg [12,18,87] [] n0 trivial ?_
     refine Cfg.condF rfl (b := false) kr rfl ?_
     refine Rg [18,19] [] n0 trivial ?_
     refine Cfg.begL rfl ?_
     refine Lp 1 [] none n0 trivial ?_
     refine Le (Eff.callH (vs := [.pointer (some ⟨z4.fb,0,none⟩)]) (fun o : K.Own => .slice (Own.a o) T2.W.length (Own.c o)) [] (fun o => Own.o 9 ((nmS T2).map Value.string) o) (fun o => OwnOk o 1 T2.W.length ((nmS T2).map Value.string)) [(hb3,.cells (bv L2) 37 (0,0))] (((gO z4 0 0 m T2 ++ dO D2 m y5) ++ [])) rfl rfl Tryz.func12 rfl rfl kr (fun w1 h _ _ => fList z4 0 m y5 D2 T2 w1 (fun e he => h.own e (show e ∈ ([(hb3,Obj.cells (bv L2) 37 (0,0))] ++ ((gO z4 0 0 m T2 ++ dO D2 m y5) ++ [])) from (mR (mL he)))) hf4 (fun x hx => by obtain ⟨k,_,_,_,h3,_⟩ := hE.w x hx; exact Nat.le_trans (namB_le h3) (by decide)) (by have := hE.ln; omega))) ?_
     rintro ol hol
     refine Lp 2 [] (some [18,19,95,96,97]) n0 trivial ?_
     refine CfgL.done rfl ?_
     refine Cfg.loop rfl (ι := Nat) (fun (j : Nat) => [(97,[],.int .i64 (j : Int)),(96,[],.int .i64 (T2.W.length : Int)),(95,[],.slice (Own.a ol) T2.W.length (Own.c ol)),(19,[],.int .i64 ((totN T2 (nmS T2) j) : Int)),(18,[],.pointer (some ⟨z4.fb,0,none⟩))]) (fun (j : Nat) => ([] ++ (Own.o 9 ((nmS T2).map Value.string) ol ++ ((gO z4 0 0 m T2 ++ dO D2 m y5) ++ [])))) (fun (j : Nat) => (j ≤ T2.W.length) ∧ (totN T2 (nmS T2) j ≤ 64 * j)) (fun (j : Nat) => T2.W.length - j) 0 ?_ (Conv.mk kr) (.cons _ slr) ?_
     ·exact ⟨Nat.zero_le _,Nat.le_refl 0⟩
     ·rintro j ⟨hj,htj⟩
      refine Rg [18,19,95,96,97,98] [] n0 trivial ?_
      refine Cfg.cond rfl (b := (decide ((j : Int) < (T2.W.length : Int)))) kr (fun c6r => ?_) (fun c6r => ?_)
      ·have c6 := (dT c6r)
       obtain ⟨⟨ob,oc,oj⟩,hol2⟩ := own_some hol om
       obtain ⟨nm,hnm⟩ : ∃ x,x = (nmS T2).getD j ByteArray.empty := ⟨_,rfl⟩
       obtain ⟨k,hk,hsk,hnam,hin⟩ := name_at hE (j := j) om hnm
       obtain ⟨P,hP⟩ : ∃ P,P = T2.ps.getD k plz := ⟨_,rfl⟩
       have hPs : szN T2 nm = P.sz := by rw [szN_at hsk,hP]
       have hPz : P.sz ≤ 32768 := by rw [hP]; exact (hf4.tb.o _ (K.getD_mem (by rw [hf4.tb.l]; exact hk))).sz
       have htn := totN_next (T := T2) (L := nmS T2) (j := j) (by rw [nmS_len]; omega) hnm
       rw [hPs] at htn
       have hfs := fd_size hw2.g P
       have hsd : secs P.sz = (P.sz + 511) / 512 := rfl
       refine Cfg.setS 95 (congrArg (fun (xq : Value) => (xq : Value)) (show .slice (Own.a ol) T2.W.length (Own.c ol) = .slice (some ⟨ob,0,none⟩) T2.W.length oc from by rw [hol2]; rfl)) ?_
       refine Rg [18,19,21,95,96,97] [dZ,(dS (.string nm))] (fun S => [(0 ≤ (j : Int) ∧ (j : Int) < (T2.W.length : Int)),(cE S ob j (.string nm))]) ⟨om,(fun w1 h => by have h9 := str_cell (h.own (ob,Obj.cells ((nmS T2).map Value.string ++ oj).toArray 9 (0,0)) (show _ ∈ ([] ++ (Own.o 9 ((nmS T2).map Value.string) ol ++ ((gO z4 0 0 m T2 ++ dO D2 m y5) ++ []))) from (mR (mL (by rw [hol2]; exact mH))))) (j := j) (by rw [nmS_len]; omega); rw [← hnm] at h9; exact h9),trivial⟩ ?_
       refine Cfg.begL rfl ?_
       refine Lp 2 [] none n0 trivial ?_
       refine Le (Eff.callA (vs := [.pointer (some ⟨z4.fb,0,none⟩),.string nm]) (.tuple #[.string (tx (fdat D2 P (secs P.sz))),.int .i64 0]) rfl Tryz.func13 rfl rfl kr (fun w1 h => by have h9 := fRead z4 0 m y5 D2 T2 nm k w1 (fun e he => h.own e (show e ∈ ([] ++ (Own.o 9 ((nmS T2).map Value.string) ol ++ ((gO z4 0 0 m T2 ++ dO D2 m y5) ++ []))) from (mR (mR (mL he))))) hw2 hmy5 hf4 hk hsk hin; rw [← hP] at h9; exact h9)) ?_
       rintro ⟨⟩ -
       refine Lp 5 [] (some [18,19,21,22,23,95,96,97]) n0 trivial ?_
       refine CfgL.done rfl ?_
       refine Cfg.begL rfl ?_
       refine Lp 4 [dZ,dZ,dZ,(1,false,none)] (some [18,19,22,95,96,97,109,110]) (fun _ => [((.bool false : Value) = .bool false)]) ⟨rfl,trivial⟩ ?_
       refine Le (Eff.callA (vs := [.string nm]) (.bool true) rfl Tryz.func14 rfl rfl kr (fun w1 _ => by have h9 := fNamed nm w1 (Nat.le_trans (namB_le hnam) (by decide)); rw [hnam] at h9; exact h9)) ?_
       rintro ⟨⟩ -
       refine Lp 2 [(1,false,none)] (some [18,19,22,95,96,97,113]) (fun _ => [((.bool false : Value) = .bool false)]) ⟨rfl,trivial⟩ ?_
       refine CfgL.done rfl ?_
       refine Cfg.condF rfl (b := false) kr rfl ?_
       refine Rg [18,19,95,96,97] [] (fun _ => [(i6 (((tx (fdat D2 P (secs P.sz))).size : Int) + 511)),(0 ≤ (((tx (fdat D2 P (secs P.sz))).size : Int) + 511) ∧ (((tx (fdat D2 P (secs P.sz))).size : Int) + 511) ≤ 9223372036854775807 ∧ 0 < (512 : Int)),(i6 (((totN T2 (nmS T2) j) : Int) + ((((tx (fdat D2 P (secs P.sz))).size : Int) + 511) / 512)))]) ⟨om,om,om,trivial⟩ ?_
       refine Rg [18,19,95,96,97] [] (fun _ => [(i6 ((j : Int) + 1))]) ⟨om,trivial⟩ ?_
       refine Cfg.setS 95 (congrArg (fun (xq : Value) => (xq : Value)) (show .slice (some ⟨ob,0,none⟩) T2.W.length oc = .slice (Own.a ol) T2.W.length (Own.c ol) from by rw [hol2]; rfl)) ?_
       refine Cfg.setS 19 (congrArg (fun (xq : Int) => (.int .i64 xq : Value)) (show (((totN T2 (nmS T2) j) : Int) + ((((tx (fdat D2 P (secs P.sz))).size : Int) + 511) / 512)) = (((totN T2 (nmS T2) (j + 1)) : Nat) : Int) from by omega)) ?_
       refine Cfg.again rfl (j + 1) ⟨by omega,by omega⟩ (by show T2.W.length - (j + 1) < T2.W.length - j; omega) (Conv.mk kr) slr
      ·have c6 := (dF c6r)
       have hje : j = (nmS T2).length := by rw [nmS_len]; omega
       have hta := totN_all (T := T2) hE.nd
       rw [← hje] at hta
       have hEs := hE.s
       have hfc := free_ct T2.fr
       refine Cfg.begL rfl ?_
       refine Lp 2 [] (some [18,121,122]) n0 trivial ?_
       refine Le (Eff.callA (vs := [.pointer (some ⟨z4.fb,0,none⟩)]) (.int .i64 ((suml (runsAt T2.fr 0)) : Int)) rfl Tryz.func15 rfl rfl kr (fun w1 h => fFree z4 0 0 m y5 D2 T2 w1 (fun e he => h.own e (show e ∈ ([] ++ (Own.o 9 ((nmS T2).map Value.string) ol ++ ((gO z4 0 0 m T2 ++ dO D2 m y5) ++ []))) from (mR (mR (mL he))))) hf4.tb hf4.g hf4.sm)) ?_
       rintro ⟨⟩ -
       refine Lp 3 [] (some [18,126]) (fun _ => [(i6 (((totN T2 (nmS T2) j) : Int) + ((suml (runsAt T2.fr 0)) : Int)))]) ⟨om,trivial⟩ ?_
       refine CfgL.known 126 (b := ((((totN T2 (nmS T2) j) : Int) + ((suml (runsAt T2.fr 0)) : Int)) == (79 : Int))) kr true (beq_iff_eq.2 om) ?_
       refine Lp 1 [(1,false,none)] (some [126,127]) (fun _ => [((.bool true : Value) = .bool true)]) ⟨rfl,trivial⟩ ?_
       refine Le (Eff.callH (vs := [.pointer (some ⟨z4.fb,0,none⟩),.slice none 0 0]) (fun _ : FM × MX => .int .i64 0) ((gO z4 0 0 m T2 ++ dO D2 m y5)) (fun q => (gO q.1 0 0 m T2 ++ dO D2 m q.2)) (fun q => q.1.fb = z4.fb ∧ FOk q.1 T2 ∧ MapOk q.2.1 q.2.2 (wv2 D2.wait) ∧ Wl D2 ∧ D2.steps ≤ D2.steps ∧ D2.steps ≤ D2.steps + 20000) ([] ++ (Own.o 9 ((nmS T2).map Value.string) ol)) [] rfl rfl Tryz.func9 rfl rfl kr (fun w1 h hA1 hd1 => by have h9 := fDo z4 m y5 ⟨0,D2,T2⟩ none 0 ([] : List FA) [] t0 fr0 w1 hw2 hf4 hmy5 (show 0 ≤ D2.steps ∧ D2.steps ≤ 4611686018425000000 from ⟨by omega,by omega⟩) hA1 hd1 (fun hn => absurd hn (by decide)) (fun a ha => by cases ha) (Nat.zero_le _) (go_side (L := ([] ++ (Own.o 9 ((nmS T2).map Value.string) ol))) (A := (gO z4 0 0 m T2 ++ dO D2 m y5)) (U := []) (T := []) h mH (fun e he => by cases he)).1 (go_side (L := ([] ++ (Own.o 9 ((nmS T2).map Value.string) ol))) (A := (gO z4 0 0 m T2 ++ dO D2 m y5)) (U := []) (T := []) h mH (fun e he => by cases he)).2; rw [do_none (s := ⟨0,D2,T2⟩) rfl] at h9; exact h9)) ?_
       rintro ⟨z6,y6⟩ -
       refine Lp 3 [(1,false,none)] (some [8]) (fun _ => [((.bool true : Value) = .bool true)]) ⟨rfl,trivial⟩ ?_
       refine CfgL.done rfl ?_
       refine Cfg.ret rfl (rs := [.tmp 8]) rfl [.bool true] ⟨kr,trivial⟩ (fun w1 hp => ?_)
       exact ⟨by simp [resOf],hp.ext⟩
    ·
     have hop := Bool.eq_false_iff.2 hop
     refine Cfg.begL rfl ?_
     refine Lp 1 [] (some [82]) n0 trivial ?_
     refine Le (Eff.callH (vs := [.pointer (some ⟨m.d,0,none⟩)]) (fun _ : MX => .tuple #[.pointer none,.int .i64 18]) (dO D2 m x2) (fun y => dO D2 m y) (fun y => MapOk y.1 y.2 (wv2 D2.wait)) [(hb3,.cells (bv L2) 37 (0,0))] [] rfl rfl Tryz.func8 rfl rfl kr (fun w1 h hA1 hd1 => fOpenNo m x2 D2 t0 fr0 w1 hw2.g hmx2 ⟨by omega,by omega⟩ hA1 hd1 (fun e he => h.ro e (by rw [List.mem_singleton.1 he]; exact mH)) (apart (Fl := [(hb3,Obj.cells (bv L2) 37 (0,0))]) (A := dO D2 m x2) (T := []) h (fun e he =>  (by rw [List.mem_singleton.1 he]; exact mH))) (hw2.open0 h0s) hw2.n hw2.d hop)) ?_
     rintro y5 hmy5
     refine Lp 5 [] (some [12,18]) n0 trivial ?_
     refine CfgL.done rfl ?_
     refine Rg [12,18,87] [] n0 trivial ?_
     refine Cfg.condT rfl (b := true) kr rfl ?_
     refine Cfg.reg rfl [8] [dZ,dZ,dZ,(1,false,none),(1,false,none)] (Γ' := [(8,[],.bool true)]) (nd := (fun _ => [((.bool true : Value) = .bool true),((.bool true : Value) = .bool true)])) (fun _ => kr) ⟨rfl,rfl,trivial⟩ ?_
     refine Cfg.ret rfl (rs := [.tmp 8]) rfl [.bool true] ⟨kr,trivial⟩ (fun w1 hp => ?_)
     exact ⟨by simp [resOf],hp.ext⟩
end Go.Proofs.YtfgdepggdiibdaaGreatDoor
namespace Go.Proofs.YtfgdepggdiibdaaGreatDoor
open K
set_option linter.unusedVariables false
open Go.ChangeShapes Go.WideShapes
theorem list4 {cs : List Value} (h : cs.length = 4) : cs = (cs.drop 0).take 1 ++ (cs.drop 1).take 1 ++ (cs.drop 2).take 1 ++ (cs.drop 3).take 1 := by
 match cs,h with
 | [a,b,c,d],_ => rfl
theorem fact_open {H : Type} {enc : TypeId × Value → H} {w : World} {base : Nat} {held : Bool} (cs : List Value) (fuel : Nat) (y : DataW H × List MemPlace) (hl : cs.length = 4) (h : DataW.trod enc Tryz.prog w base (fun _ => true) held fuel 34 cs = some y) :
  ∃ a : FA,True ∧ cs = acL a := by
 obtain ⟨xs,m,_,_,_,hlen,hf⟩ := DataW.trod_struct Tryz.underlying34 h
 have c1 : Tryz.prog.cellsOf 3 = 1 := by kernel_rfl
 have c2 : Tryz.prog.cellsOf 9 = 1 := by kernel_rfl
 match xs,hlen with
 | [y0,y1,y2,y3],_ =>
  have h0 : DataW.trod enc Tryz.prog w base (fun _ => true) held m 3 ((cs.drop 0).take 1) = some y0 := by have q := hf 0 ⟨ "Kind",3,0,false,"","",0⟩ rfl; simp only [c1] at q; exact q
  have h1 : DataW.trod enc Tryz.prog w base (fun _ => true) held m 9 ((cs.drop 1).take 1) = some y1 := by have q := hf 1 ⟨ "Name",9,1,false,"","",8⟩ rfl; simp only [c2] at q; exact q
  have h2 : DataW.trod enc Tryz.prog w base (fun _ => true) held m 9 ((cs.drop 2).take 1) = some y2 := by have q := hf 2 ⟨ "To",9,2,false,"","",24⟩ rfl; simp only [c2] at q; exact q
  have h3 : DataW.trod enc Tryz.prog w base (fun _ => true) held m 9 ((cs.drop 3).take 1) = some y3 := by have q := hf 3 ⟨ "Data",9,3,false,"","",40⟩ rfl; simp only [c2] at q; exact q
  obtain ⟨k,hk,_,_⟩ := DataW.trod_int Tryz.underlying3 h0
  obtain ⟨s1,hs1,_,_⟩ := DataW.trod_string Tryz.underlying9 h1
  obtain ⟨s2,hs2,_,_⟩ := DataW.trod_string Tryz.underlying9 h2
  obtain ⟨s3,hs3,_,_⟩ := DataW.trod_string Tryz.underlying9 h3
  refine ⟨⟨k,s1,s2,s3⟩,trivial,?_⟩
  have h9 := list4 hl
  rw [hk,hs1,hs2,hs3] at h9
  exact h9
end Go.Proofs.YtfgdepggdiibdaaGreatDoor
