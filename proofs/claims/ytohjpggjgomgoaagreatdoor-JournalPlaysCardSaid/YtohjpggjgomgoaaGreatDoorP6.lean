/- Texts on which the proof of this claim stands: DkC, Jp2, DkD, DkE, DkF, Jp3, Jp4, Jp5, Jn5, K25, ShaK, RunAwk, Jn7. -/
import Derived.Test.YtohjpggjgomgoaaGreatDoorP5
import Derived.Test.YtohjpggjgomgoaaGreatDoorP2
import Derived.Test.YtohjpggjgomgoaaGreatDoorP4
import Derived.Test.YtohjpggjgomgoaaGreatDoorP3
import Derived.Test.YtohjpggjgomgoaaGreatDoorP1
import Derived.Test.YtohjpggjgomgoaaGreatDoorChecked
namespace Go.Proofs.YtohjpggjgomgoaaGreatDoor
open K
set_option linter.unusedVariables false
structure AK where
 d : Int
 q : Int
 b : UInt8
 la : Option Addr
 cap : Nat
 kept : List Bool
 Rl : List (Nat × Obj)
def ac (a : AK) : List Value := [.int .i64 a.d,.int .i64 a.q,.int .u8 (a.b.toNat : Int),.slice a.la a.kept.length a.cap]
def blkK (b : UInt8) (k : Nat) : List UInt8 := (List.range 512).map fun i => if i < k then b + UInt8.ofNat i else 0
theorem blkK_len (b : UInt8) (k : Nat) : (blkK b k).length = 512 := by simp [blkK]
theorem blkK_zero (b : UInt8) : blkK b 0 = List.replicate 512 0 := by
 unfold blkK
 rw [show (fun i : Nat => if i < 0 then b + UInt8.ofNat i else 0) = fun _ => (0 : UInt8) from funext fun i => if_neg (Nat.not_lt_zero i)]
 rw [List.map_const',List.length_range]
theorem blkK_set {b : UInt8} {k : Nat} (h : k < 512) : (blkK b k).set k (b + UInt8.ofNat k) = blkK b (k + 1) := by
 refine ext_getD (d := 0) (by rw [List.length_set,blkK_len,blkK_len]) (fun i hi => ?_)
 rw [List.length_set,blkK_len] at hi
 rw [getD_set _ _ _ _ (by rw [blkK_len]; exact h)]
 unfold blkK
 rw [getD_mapr _ _ _ hi,getD_mapr _ _ _ hi]
 by_cases h1 : i = k
 ·subst h1; rw [if_pos rfl,if_pos om]
 ·rw [if_neg h1]
  by_cases h2 : i < k
  ·rw [if_pos h2,if_pos om]
  ·rw [if_neg h2,if_neg om]
theorem u8_sum (b : UInt8) (k : Nat) (h : k < 512) : UInt8.ofNat ((((b.toNat : Int) + ((k : Int) % 256)) % 256)).toNat = b + UInt8.ofNat k := by
 apply UInt8.toNat_inj.1
 rw [UInt8.toNat_add,UInt8.toNat_ofNat',UInt8.toNat_ofNat']
 have := b.toNat_lt
 omega
def doF (a : AK) (D : DK) : DK :=
 if a.d.tmod 5 = 1 ∨ a.d.tmod 5 = -1 then (barF D).2 else if a.d.tmod 5 = 2 ∨ a.d.tmod 5 = -2 then D
 else if a.d.tmod 5 = 3 ∨ a.d.tmod 5 = -3 then { D with fuse := if -1 > a.q then -1 else a.q } else if a.d.tmod 5 = 4 ∨ a.d.tmod 5 = -4 then crashF a.kept D
 else (writeF D a.q (blkK a.b 512)).2
theorem DG.fuse {D : DK} (h : DG D) {q : Int} (hq : q ≤ 9223372036854775807) : DG { D with fuse := if -1 > q then -1 else q } :=
 ⟨h.w,h.ww,h.k,h.n,h.nd,by show -1 ≤ (if -1 > q then -1 else q) ∧ (if -1 > q then -1 else q) ≤ _; split <;> omega⟩
theorem DG.act {D : DK} (h : DG D) {a : AK} (hq : a.q ≤ 9223372036854775807) : DG (doF a D) := by
 unfold doF
 split
 ·exact h.bar
 ·split
  ·exact h
  ·split
   ·exact h.fuse hq
   ·split
    ·exact h.crash _
    ·exact h.write _ (blkK_len _ _)
theorem doF_steps (a : AK) (D : DK) : D.steps ≤ (doF a D).steps ∧ (doF a D).steps ≤ D.steps + 1 := by
 unfold doF
 split
 ·exact barF_steps D
 ·split
  ·exact ⟨by omega,by omega⟩
  ·split
   ·exact ⟨by simp only; omega,by simp only; omega⟩
   ·split
    ·exact ⟨by show D.steps ≤ D.steps; omega,by show D.steps ≤ D.steps + 1; omega⟩
    ·exact writeF_steps _ _ _
theorem dFuseH (m : DM) (x : MX) (D : DK) (q : Int) (w : World) (hA : Has w (dO D m x)) (hd : ((dO D m x).map (·.1)).Nodup) :
  Calls Tryz.prog 58 #[.pointer (some ⟨m.d,0,none⟩),.int .i64 q] w fun e w' => e = .returned (.tuple #[]) ∧ ∃ R1,HP w ((dO D m x).map (·.1)) R1 (dO { D with fuse := if -1 > q then -1 else q } m x) w' := by
 refine (dFuse m D q w (hA (m.d,_) (List.mem_cons_self ..))).mono ?_
 rintro e w' ⟨rfl,hx,hb⟩
 exact ⟨rfl,[],(HP.ofL hA hd (fun e he => by cases he) (fun e he => by cases he)).mut 0 rfl hx hb⟩
theorem perm_mid (L A B : List (Nat × Obj)) : (L ++ (A ++ (B ++ []))).Perm ((L ++ B) ++ (A ++ [])) := by
 rw [List.append_nil,List.append_nil,List.append_assoc]
 exact List.Perm.append_left _ List.perm_append_comm
theorem mem_has {w0 w : World} {M : List Nat} {R O L : List (Nat × Obj)} (h : HP w0 M R O w) (hL : L.Sublist O) : Has w L := fun e he => h.own e (hL.subset he)
theorem apart {w0 w : World} {M : List Nat} {R Fl A T L : List (Nat × Obj)} (h : HP w0 M R (Fl ++ (A ++ T)) w) (hL : ∀ e ∈ L,e ∈ R) : ∀ e ∈ L,e.1 ∉ A.map (·.1) := fun e he hm => by
 obtain ⟨e2,h2,h3⟩ := List.mem_map.1 hm
 exact h.away (List.mem_append_right _ (List.mem_append_left _ h2)) (hL e he) h3
set_option maxRecDepth 100000 in
theorem dLight (a : AK) (w : World) :
  Calls Tryz.prog 49 #[.agg (ac a).toArray] w fun e w' => e = .returned (.bool (decide ((a.kept.length : Int) ≤ 500))) ∧ Ext [] w w' := by
 refine enter (vs := [.agg (ac a).toArray]) [] [] [] Tryz.func49 rfl kr (HP.start w) ?_
 refine Cfg.begL rfl ?_
 refine Le (Eff.box (v := .agg (ac a).toArray) rfl kr) ?_
 rintro b1 ⟨hb1,nb1⟩
 refine Lp 1 [] (some [1]) n0 trivial ?_
 refine CfgL.done rfl ?_
 refine Rg [2] [dZ,(0,false,some (.slice a.la a.kept.length a.cap))] (fun S => [(∀ w1,S w1 → w1.cell? ⟨b1,3,none⟩ = some (.slice a.la a.kept.length a.cap))]) ⟨(fun w1 h => h.ocell 0 rfl rfl),trivial⟩ ?_
 refine Cfg.ret rfl (rs := [.tmp 2]) rfl [.bool (decide ((a.kept.length : Int) ≤ (500 : Int)))] ⟨kr,trivial⟩ (fun w1 hp => ?_)
 exact ⟨rfl,hp.ext⟩
set_option maxRecDepth 100000 in
theorem dDo (m : DM) (r : RM) (x : MX) (D : DK) (a : AK) (w : World) (hg : DG D) (hmo : MapOk x.1 x.2 (wv2 D.wait)) (hst : 0 ≤ D.steps ∧ D.steps ≤ 4611686018427387904) (hq : a.q ≤ 9223372036854775807) (hI : InS a.Rl a.la a.kept.length (fun j => .bool (a.kept.getD j false))) (hl : a.kept.length ≤ maxLen) (hR : Has w a.Rl) (hA : Has w (dO D m x ++ rO (toR D) r)) (hd : ((dO D m x ++ rO (toR D) r).map (·.1)).Nodup) (hnr : ∀ e ∈ a.Rl,e.1 ∉ (dO D m x ++ rO (toR D) r).map (·.1)) :
  Calls Tryz.prog 17 #[.pointer (some ⟨m.d,0,none⟩),.pointer (some ⟨r.r,0,none⟩),.agg (ac a).toArray] w fun e w' => ∃ x2 : MX,MapOk x2.1 x2.2 (wv2 (doF a D).wait) ∧ e = .returned (.bool true) ∧ ∃ R1,HP w ((dO D m x ++ rO (toR D) r).map (·.1)) R1 (dO (doF a D) m x2 ++ rO (toR (doF a D)) r) w' := by
 refine enter (vs := [.pointer (some ⟨m.d,0,none⟩),.pointer (some ⟨r.r,0,none⟩),.agg (ac a).toArray]) ((dO D m x ++ rO (toR D) r).map (·.1)) a.Rl ([] ++ (dO D m x ++ (rO (toR D) r ++ []))) Tryz.func17 rfl kr (by rw [List.append_nil]; exact HP.ofL hA hd hR hnr) ?_
 refine Cfg.begL rfl ?_
 refine Le (Eff.box (v := .agg (ac a).toArray) rfl kr) ?_
 rintro bx ⟨hbx,nbx⟩
 refine Lp 1 [] (some [0,1,5]) n0 trivial ?_
 refine CfgL.done rfl ?_
 refine Cfg.begL rfl ?_
 refine Lp 2 [dZ,(0,false,some (.int .i64 a.d))] (some [0,1,5,14]) (fun S => [(∀ w1,S w1 → w1.cell? ⟨bx,0,none⟩ = some (.int .i64 a.d))]) ⟨(fun w1 h => h.ocell 0 rfl rfl),trivial⟩ ?_
 refine Le (Eff.remI (k := .i64) (a := a.d) (b := 5) rfl kr kr (by decide)) ?_
 rintro ⟨⟩ -
 refine CfgL.done rfl ?_
 refine Cg (Γ' := [(15,[],.int .i64 (a.d.tmod 5)),(5,[],.pointer (some ⟨bx,0,none⟩)),(0,[],.pointer (some ⟨m.d,0,none⟩)),(1,[],.pointer (some ⟨r.r,0,none⟩))]) ?_
 refine Rg [0,1,5,15,38] [] n0 trivial ?_
 refine Cfg.cond rfl (b := ((a.d.tmod 5) == (1 : Int))) kr (fun c1r => ?_) (fun c1r => ?_)
 ·have c1 := (beq_iff_eq.1 c1r)
  refine Cfg.condT rfl (b := ((a.d.tmod 5) == (1 : Int))) kr c1r ?_
  refine Cfg.begL rfl ?_
  refine Lp 1 [] (some [1,41]) n0 trivial ?_
  refine Le (Eff.callH (vs := [.pointer (some ⟨m.d,0,none⟩)]) (fun _ : MX => .int .i64 ((barF D).1)) (dO D m x) (fun y => dO ((barF D).2) m y) (fun y => MapOk y.1 y.2 (wv2 ((barF D).2).wait)) [(bx,.cells ((ac a).toArray) 60 (0,0))] (rO (toR D) r ++ []) rfl rfl Tryz.func56 rfl rfl kr (fun w1 h hA hd => dBarrier m x D w1 hg hmo hA hd hst)) ?_
  rintro x1 hmo_x1
  refine Lp 1 [] (some [42,43]) n0 trivial ?_
  refine Le (Eff.callH (vs := [.pointer (some ⟨r.r,0,none⟩)]) (fun _ : Unit => .int .i64 ((barF D).1)) (rO (toR D) r) (fun _ => rO (toR ((barF D).2)) r) (fun _ => True) ([(bx,.cells ((ac a).toArray) 60 (0,0))] ++ (dO ((barF D).2) m x1)) [] rfl rfl Tryz.func57 rfl rfl kr (fun w1 h hA hd => (by have h9 := rBarrier r (toR D) w1 (toR_ok hg) hA hd hst; rw [toR_bar hg] at h9; exact h9.mono fun e w2 hx => ⟨(),trivial,hx⟩))) ?_
  rintro ⟨⟩ -
  refine Lp 2 [] (some [6]) n0 trivial ?_
  refine CfgL.done rfl ?_
  refine Cfg.ret rfl (rs := [.tmp 6]) rfl [.bool (((barF D).1) == ((barF D).1))] ⟨kr,trivial⟩ (fun w1 hp => ?_)
  have H1 : a.d.tmod 5 = 1 ∨ a.d.tmod 5 = -1 := by omega
  have hx : doF a D = (barF D).2 := by unfold doF; rw [if_pos H1]
  rw [hx]
  have h8 : HP w ((dO D m x ++ rO (toR D) r).map (·.1)) a.Rl ([(bx,Obj.cells ((ac a).toArray) 60 (0,0))] ++ (dO ((barF D).2) m x1 ++ (rO (toR ((barF D).2)) r ++ []))) w1 := hp
  rw [List.append_nil] at h8
  exact ⟨x1,hmo_x1,by simp [resOf],_,h8.sub (List.sublist_append_right _ _)⟩
 ·have c1 := (beq_eq_false_iff_ne.1 c1r)
  refine Rg [0,1,5,15,38] [] n0 trivial ?_
  refine Cfg.cond rfl (b := ((a.d.tmod 5) == ((-1) : Int))) kr (fun c3r => ?_) (fun c3r => ?_)
  ·have c3 := (beq_iff_eq.1 c3r)
   refine Cfg.begL rfl ?_
   refine Lp 1 [] (some [1,41]) n0 trivial ?_
   refine Le (Eff.callH (vs := [.pointer (some ⟨m.d,0,none⟩)]) (fun _ : MX => .int .i64 ((barF D).1)) (dO D m x) (fun y => dO ((barF D).2) m y) (fun y => MapOk y.1 y.2 (wv2 ((barF D).2).wait)) [(bx,.cells ((ac a).toArray) 60 (0,0))] (rO (toR D) r ++ []) rfl rfl Tryz.func56 rfl rfl kr (fun w1 h hA hd => dBarrier m x D w1 hg hmo hA hd hst)) ?_
   rintro x2 hmo_x2
   refine Lp 1 [] (some [42,43]) n0 trivial ?_
   refine Le (Eff.callH (vs := [.pointer (some ⟨r.r,0,none⟩)]) (fun _ : Unit => .int .i64 ((barF D).1)) (rO (toR D) r) (fun _ => rO (toR ((barF D).2)) r) (fun _ => True) ([(bx,.cells ((ac a).toArray) 60 (0,0))] ++ (dO ((barF D).2) m x2)) [] rfl rfl Tryz.func57 rfl rfl kr (fun w1 h hA hd => (by have h9 := rBarrier r (toR D) w1 (toR_ok hg) hA hd hst; rw [toR_bar hg] at h9; exact h9.mono fun e w2 hx => ⟨(),trivial,hx⟩))) ?_
   rintro ⟨⟩ -
   refine CfgL.pure 2 [] (some [6]) (Γ' := [(6,[],.bool (((barF D).1) == ((barF D).1)))]) (nd := (fun _ => [])) kr (fun _ => kr) trivial ?_
   refine CfgL.done rfl ?_
   refine Cfg.ret rfl (rs := [.tmp 6]) rfl [.bool (((barF D).1) == ((barF D).1))] ⟨kr,trivial⟩ (fun w1 hp => ?_)
   have H1 : a.d.tmod 5 = 1 ∨ a.d.tmod 5 = -1 := by omega
   have hx : doF a D = (barF D).2 := by unfold doF; rw [if_pos H1]
   rw [hx]
   have h8 : HP w ((dO D m x ++ rO (toR D) r).map (·.1)) a.Rl ([(bx,Obj.cells ((ac a).toArray) 60 (0,0))] ++ (dO ((barF D).2) m x2 ++ (rO (toR ((barF D).2)) r ++ []))) w1 := hp
   rw [List.append_nil] at h8
   exact ⟨x2,hmo_x2,by simp [resOf],_,h8.sub (List.sublist_append_right _ _)⟩
  ·have c3 := (beq_eq_false_iff_ne.1 c3r)
   refine Rg [0,1,5,15,46] [] n0 trivial ?_
   refine Cfg.cond rfl (b := ((a.d.tmod 5) == (2 : Int))) kr (fun c4r => ?_) (fun c4r => ?_)
   ·have c4 := (beq_iff_eq.1 c4r)
    refine Cfg.condT rfl (b := ((a.d.tmod 5) == (2 : Int))) kr c4r ?_
    refine Cfg.begL rfl ?_
    refine Lp 3 [dZ,dZ,(0,false,some (.int .i64 a.q))] (some [1,5,50,52]) (fun S => [(∀ w1,S w1 → w1.cell? ⟨bx,1,none⟩ = some (.int .i64 a.q))]) ⟨(fun w1 h => h.ocell 0 rfl rfl),trivial⟩ ?_
    refine Le (Eff.callA (vs := [.pointer (some ⟨m.d,0,none⟩),.int .i64 a.q]) (.tuple #[.agg (bv (readF D a.q)),.int .i64 (fltF D a.q)]) rfl Tryz.func50 rfl rfl kr (fun w1 h => dRead m x D a.q w1 hg hmo (mem_has h (List.Sublist.trans (List.sublist_append_left (dO D m x) _) (List.sublist_append_right [(bx,Obj.cells ((ac a).toArray) 60 (0,0))] _))))) ?_
    rintro ⟨⟩ -
    refine Lp 3 [] (some [1,5,54,55]) n0 trivial ?_
    refine Le (Eff.alloc (z := (.agg (bv (List.replicate 512 0)))) rfl kr) ?_
    rintro b2 ⟨hb2,nb2⟩
    refine Le (Eff.storeN (b := b2) (off := 0) (vs := (bv (readF D a.q))) (n := 512) rfl kr kr kr ((bv_size _).trans (readF_len hg _)) (all_bv _) 0 (cs := (bv (List.replicate 512 0))) (e := 25) kr (by rw [zsz512]; omega)) ?_
    rintro ⟨⟩ -
    refine CfgL.setO (congrArg (fun (xq : Array Value) => (([(b2,.cells xq 25 (0,0)),(bx,.cells ((ac a).toArray) 60 (0,0))] ++ (dO D m x ++ (rO (toR D) r ++ []))) : List (Nat × Obj))) (show _ = (bv (readF D a.q)) from spl_all (((bv_size _).trans (readF_len hg _)).trans zsz512.symm))) ?_
    refine Lp 1 [] (some [1,5,7,8]) n0 trivial ?_
    refine CfgL.done rfl ?_
    refine Cfg.begL rfl ?_
    refine Lp 3 [dZ,dZ,(0,false,some (.int .i64 a.q))] (some [7,8,57,59]) (fun S => [(∀ w1,S w1 → w1.cell? ⟨bx,1,none⟩ = some (.int .i64 a.q))]) ⟨(fun w1 h => h.ocell 1 rfl rfl),trivial⟩ ?_
    refine Le (Eff.callA (vs := [.pointer (some ⟨r.r,0,none⟩),.int .i64 a.q]) (.tuple #[.agg (bv (readF D a.q)),.int .i64 (fltF D a.q)]) rfl Tryz.func24 rfl rfl kr (fun w1 h => (by have h9 := rRead r (toR D) a.q w1 (toR_ok hg) (mem_has h (List.Sublist.trans (List.Sublist.trans (List.sublist_append_left (rO (toR D) r) _) (List.sublist_append_right (dO D m x) _)) (List.sublist_append_right [(b2,Obj.cells (bv (readF D a.q)) 25 (0,0)),(bx,Obj.cells ((ac a).toArray) 60 (0,0))] _))); rw [toR_readE,toR_readB] at h9; exact h9))) ?_
    rintro ⟨⟩ -
    refine Lp 3 [] (some [7,8,61,62]) n0 trivial ?_
    refine Le (Eff.alloc (z := (.agg (bv (List.replicate 512 0)))) rfl kr) ?_
    rintro b3 ⟨hb3,nb3⟩
    refine Le (Eff.storeN (b := b3) (off := 0) (vs := (bv (readF D a.q))) (n := 512) rfl kr kr kr ((bv_size _).trans (readF_len hg _)) (all_bv _) 0 (cs := (bv (List.replicate 512 0))) (e := 25) kr (by rw [zsz512]; omega)) ?_
    rintro ⟨⟩ -
    refine CfgL.setO (congrArg (fun (xq : Array Value) => (([(b3,.cells xq 25 (0,0)),(b2,.cells (bv (readF D a.q)) 25 (0,0)),(bx,.cells ((ac a).toArray) 60 (0,0))] ++ (dO D m x ++ (rO (toR D) r ++ []))) : List (Nat × Obj))) (show _ = (bv (readF D a.q)) from spl_all (((bv_size _).trans (readF_len hg _)).trans zsz512.symm))) ?_
    refine Lp 1 [] (some [7,8,9,10]) n0 trivial ?_
    refine CfgL.done rfl ?_
    refine Cfg.reg rfl [6] [(0,false,some (.agg (bv (readF D a.q)))),(0,false,some (.agg (bv (readF D a.q)))),(0,false,some (.bool ((readF D a.q) == (readF D a.q))))] (Γ' := [(6,[],.bool (((readF D a.q) == (readF D a.q)) && ((fltF D a.q) == (fltF D a.q))))]) (nd := (fun S => [(∀ w1,S w1 → (loadVar 25 ⟨b2,0,none⟩).run Tryz.prog w1 = .ok (.agg (bv (readF D a.q))) w1),(∀ w1,S w1 → (loadVar 25 ⟨b3,0,none⟩).run Tryz.prog w1 = .ok (.agg (bv (readF D a.q))) w1),(∀ w1,S w1 → (Op.equal 25 (.agg (bv (readF D a.q))) (.agg (bv (readF D a.q)))).run Tryz.prog w1 = .ok ((readF D a.q) == (readF D a.q)) w1)])) (fun _ => kr) ⟨(fun w1 h => h.oload 1 rfl Tryz.underlying25 rfl (n := 512) kr ((bv_size _).trans (readF_len hg _))),(fun w1 h => h.oload 0 rfl Tryz.underlying25 rfl (n := 512) kr ((bv_size _).trans (readF_len hg _))),(fun _ _ => equal_bv Tryz.underlying25 Tryz.underlying5 kr (readF_len hg _) (readF_len hg _)),trivial⟩ ?_
    refine Cfg.ret rfl (rs := [.tmp 6]) rfl [.bool (((readF D a.q) == (readF D a.q)) && ((fltF D a.q) == (fltF D a.q)))] ⟨kr,trivial⟩ (fun w1 hp => ?_)
    have H1 : ¬ (a.d.tmod 5 = 1 ∨ a.d.tmod 5 = -1) := by omega
    have H2 : a.d.tmod 5 = 2 ∨ a.d.tmod 5 = -2 := by omega
    have hx : doF a D = D := by unfold doF; rw [if_neg H1,if_pos H2]
    rw [hx]
    have h8 : HP w ((dO D m x ++ rO (toR D) r).map (·.1)) a.Rl ([(b3,Obj.cells (bv (readF D a.q)) 25 (0,0)),(b2,Obj.cells (bv (readF D a.q)) 25 (0,0)),(bx,Obj.cells ((ac a).toArray) 60 (0,0))] ++ (dO D m x ++ (rO (toR D) r ++ []))) w1 := hp
    rw [List.append_nil] at h8
    exact ⟨x,hmo,by simp [resOf],_,h8.sub (List.sublist_append_right _ _)⟩
   ·have c4 := (beq_eq_false_iff_ne.1 c4r)
    refine Rg [0,1,5,15,46] [] n0 trivial ?_
    refine Cfg.cond rfl (b := ((a.d.tmod 5) == ((-2) : Int))) kr (fun c6r => ?_) (fun c6r => ?_)
    ·have c6 := (beq_iff_eq.1 c6r)
     refine Cfg.begL rfl ?_
     refine Lp 3 [dZ,dZ,(0,false,some (.int .i64 a.q))] (some [1,5,50,52]) (fun S => [(∀ w1,S w1 → w1.cell? ⟨bx,1,none⟩ = some (.int .i64 a.q))]) ⟨(fun w1 h => h.ocell 0 rfl rfl),trivial⟩ ?_
     refine Le (Eff.callA (vs := [.pointer (some ⟨m.d,0,none⟩),.int .i64 a.q]) (.tuple #[.agg (bv (readF D a.q)),.int .i64 (fltF D a.q)]) rfl Tryz.func50 rfl rfl kr (fun w1 h => dRead m x D a.q w1 hg hmo (mem_has h (List.Sublist.trans (List.sublist_append_left (dO D m x) _) (List.sublist_append_right [(bx,Obj.cells ((ac a).toArray) 60 (0,0))] _))))) ?_
     rintro ⟨⟩ -
     refine Lp 3 [] (some [1,5,54,55]) n0 trivial ?_
     refine Le (Eff.alloc (z := (.agg (bv (List.replicate 512 0)))) rfl kr) ?_
     rintro b4 ⟨hb4,nb4⟩
     refine Le (Eff.storeN (b := b4) (off := 0) (vs := (bv (readF D a.q))) (n := 512) rfl kr kr kr ((bv_size _).trans (readF_len hg _)) (all_bv _) 0 (cs := (bv (List.replicate 512 0))) (e := 25) kr (by rw [zsz512]; omega)) ?_
     rintro ⟨⟩ -
     refine CfgL.setO (congrArg (fun (xq : Array Value) => (([(b4,.cells xq 25 (0,0)),(bx,.cells ((ac a).toArray) 60 (0,0))] ++ (dO D m x ++ (rO (toR D) r ++ []))) : List (Nat × Obj))) (show _ = (bv (readF D a.q)) from spl_all (((bv_size _).trans (readF_len hg _)).trans zsz512.symm))) ?_
     refine Lp 1 [] (some [1,5,7,8]) n0 trivial ?_
     refine CfgL.done rfl ?_
     refine Cfg.begL rfl ?_
     refine Lp 3 [dZ,dZ,(0,false,some (.int .i64 a.q))] (some [7,8,57,59]) (fun S => [(∀ w1,S w1 → w1.cell? ⟨bx,1,none⟩ = some (.int .i64 a.q))]) ⟨(fun w1 h => h.ocell 1 rfl rfl),trivial⟩ ?_
     refine Le (Eff.callA (vs := [.pointer (some ⟨r.r,0,none⟩),.int .i64 a.q]) (.tuple #[.agg (bv (readF D a.q)),.int .i64 (fltF D a.q)]) rfl Tryz.func24 rfl rfl kr (fun w1 h => (by have h9 := rRead r (toR D) a.q w1 (toR_ok hg) (mem_has h (List.Sublist.trans (List.Sublist.trans (List.sublist_append_left (rO (toR D) r) _) (List.sublist_append_right (dO D m x) _)) (List.sublist_append_right [(b4,Obj.cells (bv (readF D a.q)) 25 (0,0)),(bx,Obj.cells ((ac a).toArray) 60 (0,0))] _))); rw [toR_readE,toR_readB] at h9; exact h9))) ?_
     rintro ⟨⟩ -
     refine Lp 3 [] (some [7,8,61,62]) n0 trivial ?_
     refine Le (Eff.alloc (z := (.agg (bv (List.replicate 512 0)))) rfl kr) ?_
     rintro b5 ⟨hb5,nb5⟩
     refine Le (Eff.storeN (b := b5) (off := 0) (vs := (bv (readF D a.q))) (n := 512) rfl kr kr kr ((bv_size _).trans (readF_len hg _)) (all_bv _) 0 (cs := (bv (List.replicate 512 0))) (e := 25) kr (by rw [zsz512]; omega)) ?_
     rintro ⟨⟩ -
     refine CfgL.setO (congrArg (fun (xq : Array Value) => (([(b5,.cells xq 25 (0,0)),(b4,.cells (bv (readF D a.q)) 25 (0,0)),(bx,.cells ((ac a).toArray) 60 (0,0))] ++ (dO D m x ++ (rO (toR D) r ++ []))) : List (Nat × Obj))) (show _ = (bv (readF D a.q)) from spl_all (((bv_size _).trans (readF_len hg _)).trans zsz512.symm))) ?_
     refine Lp 1 [] (some [7,8,9,10]) n0 trivial ?_
     refine CfgL.done rfl ?_
     refine Cfg.reg rfl [6] [(0,false,some (.agg (bv (readF D a.q)))),(0,false,some (.agg (bv (readF D a.q)))),(0,false,some (.bool ((readF D a.q) == (readF D a.q))))] (Γ' := [(6,[],.bool (((readF D a.q) == (readF D a.q)) && ((fltF D a.q) == (fltF D a.q))))]) (nd := (fun S => [(∀ w1,S w1 → (loadVar 25 ⟨b4,0,none⟩).run Tryz.prog w1 = .ok (.agg (bv (readF D a.q))) w1),(∀ w1,S w1 → (loadVar 25 ⟨b5,0,none⟩).run Tryz.prog w1 = .ok (.agg (bv (readF D a.q))) w1),(∀ w1,S w1 → (Op.equal 25 (.agg (bv (readF D a.q))) (.agg (bv (readF D a.q)))).run Tryz.prog w1 = .ok ((readF D a.q) == (readF D a.q)) w1)])) (fun _ => kr) ⟨(fun w1 h => h.oload 1 rfl Tryz.underlying25 rfl (n := 512) kr ((bv_size _).trans (readF_len hg _))),(fun w1 h => h.oload 0 rfl Tryz.underlying25 rfl (n := 512) kr ((bv_size _).trans (readF_len hg _))),(fun _ _ => equal_bv Tryz.underlying25 Tryz.underlying5 kr (readF_len hg _) (readF_len hg _)),trivial⟩ ?_
     refine Cfg.ret rfl (rs := [.tmp 6]) rfl [.bool (((readF D a.q) == (readF D a.q)) && ((fltF D a.q) == (fltF D a.q)))] ⟨kr,trivial⟩ (fun w1 hp => ?_)
     have H1 : ¬ (a.d.tmod 5 = 1 ∨ a.d.tmod 5 = -1) := by omega
     have H2 : a.d.tmod 5 = 2 ∨ a.d.tmod 5 = -2 := by omega
     have hx : doF a D = D := by unfold doF; rw [if_neg H1,if_pos H2]
     rw [hx]
     have h8 : HP w ((dO D m x ++ rO (toR D) r).map (·.1)) a.Rl ([(b5,Obj.cells (bv (readF D a.q)) 25 (0,0)),(b4,Obj.cells (bv (readF D a.q)) 25 (0,0)),(bx,Obj.cells ((ac a).toArray) 60 (0,0))] ++ (dO D m x ++ (rO (toR D) r ++ []))) w1 := hp
     rw [List.append_nil] at h8
     exact ⟨x,hmo,by simp [resOf],_,h8.sub (List.sublist_append_right _ _)⟩
    ·have c6 := (beq_eq_false_iff_ne.1 c6r)
     refine Rg [0,1,5,15,71] [] n0 trivial ?_
     refine Cfg.cond rfl (b := ((a.d.tmod 5) == (3 : Int))) kr (fun c7r => ?_) (fun c7r => ?_)
     ·have c7 := (beq_iff_eq.1 c7r)
      refine Cfg.condT rfl (b := ((a.d.tmod 5) == (3 : Int))) kr c7r ?_
      refine Cfg.begL rfl ?_
      refine Lp 3 [dZ,dZ,(0,false,some (.int .i64 a.q))] (some [1,5,74,76]) (fun S => [(∀ w1,S w1 → w1.cell? ⟨bx,1,none⟩ = some (.int .i64 a.q))]) ⟨(fun w1 h => h.ocell 0 rfl rfl),trivial⟩ ?_
      refine Le (Eff.callH (vs := [.pointer (some ⟨m.d,0,none⟩),.int .i64 a.q]) (fun _ : MX => .tuple #[]) (dO D m x) (fun y => dO ({ D with fuse := if -1 > a.q then -1 else a.q }) m y) (fun y => MapOk y.1 y.2 (wv2 ({ D with fuse := if -1 > a.q then -1 else a.q }).wait)) [(bx,.cells ((ac a).toArray) 60 (0,0))] (rO (toR D) r ++ []) rfl rfl Tryz.func58 rfl rfl kr (fun w1 h hA hd => (dFuseH m x D a.q w1 hA hd).mono fun e w2 hx => ⟨x,hmo,hx⟩)) ?_
      rintro x3 hmo_x3
      refine CfgL.done rfl ?_
      refine Cg (Γ' := [(5,[],.pointer (some ⟨bx,0,none⟩)),(1,[],.pointer (some ⟨r.r,0,none⟩))]) ?_
      refine Cfg.setO (O' := [(bx,Obj.cells ((ac a).toArray) 60 (0,0))] ++ (dO ({ D with fuse := if -1 > a.q then -1 else a.q }) m x3 ++ (rO (toR D) r ++ []))) rfl ?_
      refine Cfg.permO (O' := ([(bx,.cells ((ac a).toArray) 60 (0,0)),(r.r,.cells #[.slice (some ⟨r.sb,0,none⟩) (toR D).shown.length (toR D).shown.length,.slice (some ⟨r.lb,0,none⟩) (toR D).last.length (toR D).last.length,.slice (some ⟨r.wb,0,none⟩) (toR D).waits.length (toR D).waits.length,.int .i64 ((toR D).done),.int .i64 ((toR D).fuse),.bool (toR D).down] 72 (0,0)),(r.sb,.cells ((rows (toR D).shown).toArray) 25 (0,0)),(r.lb,.cells ((rows (toR D).last).toArray) 25 (0,0)),(r.wb,.cells ((rb (toR D).waits).toArray) 4 (0,0))] ++ (dO ({ D with fuse := if -1 > a.q then -1 else a.q }) m x3 ++ []))) (perm_mid [(bx,Obj.cells ((ac a).toArray) 60 (0,0))] (dO ({ D with fuse := if -1 > a.q then -1 else a.q }) m x3) (rO (toR D) r)) ?_
      refine Cfg.begL rfl ?_
      refine Lp 3 [dZ,dZ,(0,false,some (.int .i64 a.q))] (some [78,80]) (fun S => [(∀ w1,S w1 → w1.cell? ⟨bx,1,none⟩ = some (.int .i64 a.q))]) ⟨(fun w1 h => h.ocell 0 rfl rfl),trivial⟩ ?_
      refine Le (Eff.maxI (k := .i64) (a := a.q) (b := -1) rfl kr kr) ?_
      rintro ⟨⟩ -
      refine Lp 2 [] (some [81,83]) n0 trivial ?_
      refine Le (Eff.store1 (b := r.r) (off := 4) (v := .int .i64 (if -1 > a.q then -1 else a.q)) rfl kr kr rfl kr 1 (cs := #[.slice (some ⟨r.sb,0,none⟩) (toR D).shown.length (toR D).shown.length,.slice (some ⟨r.lb,0,none⟩) (toR D).last.length (toR D).last.length,.slice (some ⟨r.wb,0,none⟩) (toR D).waits.length (toR D).waits.length,.int .i64 ((toR D).done),.int .i64 ((toR D).fuse),.bool (toR D).down]) (e := 72) kr (by simp)) ?_
      rintro ⟨⟩ -
      refine CfgL.done rfl ?_
      refine Cg (Γ' := []) ?_
      refine Rg [6] [] n0 trivial ?_
      refine Cfg.ret rfl (rs := [.tmp 6]) rfl [.bool true] ⟨kr,trivial⟩ (fun w1 hp => ?_)
      have H1 : ¬ (a.d.tmod 5 = 1 ∨ a.d.tmod 5 = -1) := by omega
      have H2 : ¬ (a.d.tmod 5 = 2 ∨ a.d.tmod 5 = -2) := by omega
      have H3 : a.d.tmod 5 = 3 ∨ a.d.tmod 5 = -3 := by omega
      have hx : doF a D = { D with fuse := if -1 > a.q then -1 else a.q } := by unfold doF; rw [if_neg H1,if_neg H2,if_pos H3]
      rw [hx]
      have h8 : HP w ((dO D m x ++ rO (toR D) r).map (·.1)) a.Rl ([(bx,Obj.cells ((ac a).toArray) 60 (0,0))] ++ (dO ({ D with fuse := if -1 > a.q then -1 else a.q }) m x3 ++ (rO (toR ({ D with fuse := if -1 > a.q then -1 else a.q })) r ++ []))) w1 := hp.perm (perm_mid [(bx,Obj.cells ((ac a).toArray) 60 (0,0))] (dO ({ D with fuse := if -1 > a.q then -1 else a.q }) m x3) (rO (toR ({ D with fuse := if -1 > a.q then -1 else a.q })) r)).symm
      rw [List.append_nil] at h8
      exact ⟨x3,hmo_x3,by simp [resOf],_,h8.sub (List.sublist_append_right _ _)⟩
     ·have c7 := (beq_eq_false_iff_ne.1 c7r)
      refine Rg [0,1,5,15,71] [] n0 trivial ?_
      refine Cfg.cond rfl (b := ((a.d.tmod 5) == ((-3) : Int))) kr (fun c9r => ?_) (fun c9r => ?_)
      ·have c9 := (beq_iff_eq.1 c9r)
       refine Cfg.begL rfl ?_
       refine Lp 3 [dZ,dZ,(0,false,some (.int .i64 a.q))] (some [1,5,74,76]) (fun S => [(∀ w1,S w1 → w1.cell? ⟨bx,1,none⟩ = some (.int .i64 a.q))]) ⟨(fun w1 h => h.ocell 0 rfl rfl),trivial⟩ ?_
       refine Le (Eff.callH (vs := [.pointer (some ⟨m.d,0,none⟩),.int .i64 a.q]) (fun _ : MX => .tuple #[]) (dO D m x) (fun y => dO ({ D with fuse := if -1 > a.q then -1 else a.q }) m y) (fun y => MapOk y.1 y.2 (wv2 ({ D with fuse := if -1 > a.q then -1 else a.q }).wait)) [(bx,.cells ((ac a).toArray) 60 (0,0))] (rO (toR D) r ++ []) rfl rfl Tryz.func58 rfl rfl kr (fun w1 h hA hd => (dFuseH m x D a.q w1 hA hd).mono fun e w2 hx => ⟨x,hmo,hx⟩)) ?_
       rintro x4 hmo_x4
       refine CfgL.done rfl ?_
       refine Cg (Γ' := [(5,[],.pointer (some ⟨bx,0,none⟩)),(1,[],.pointer (some ⟨r.r,0,none⟩))]) ?_
       refine Cfg.setO (O' := [(bx,Obj.cells ((ac a).toArray) 60 (0,0))] ++ (dO ({ D with fuse := if -1 > a.q then -1 else a.q }) m x4 ++ (rO (toR D) r ++ []))) rfl ?_
       refine Cfg.permO (O' := ([(bx,.cells ((ac a).toArray) 60 (0,0)),(r.r,.cells #[.slice (some ⟨r.sb,0,none⟩) (toR D).shown.length (toR D).shown.length,.slice (some ⟨r.lb,0,none⟩) (toR D).last.length (toR D).last.length,.slice (some ⟨r.wb,0,none⟩) (toR D).waits.length (toR D).waits.length,.int .i64 ((toR D).done),.int .i64 ((toR D).fuse),.bool (toR D).down] 72 (0,0)),(r.sb,.cells ((rows (toR D).shown).toArray) 25 (0,0)),(r.lb,.cells ((rows (toR D).last).toArray) 25 (0,0)),(r.wb,.cells ((rb (toR D).waits).toArray) 4 (0,0))] ++ (dO ({ D with fuse := if -1 > a.q then -1 else a.q }) m x4 ++ []))) (perm_mid [(bx,Obj.cells ((ac a).toArray) 60 (0,0))] (dO ({ D with fuse := if -1 > a.q then -1 else a.q }) m x4) (rO (toR D) r)) ?_
       refine Cfg.begL rfl ?_
       refine Lp 3 [dZ,dZ,(0,false,some (.int .i64 a.q))] (some [78,80]) (fun S => [(∀ w1,S w1 → w1.cell? ⟨bx,1,none⟩ = some (.int .i64 a.q))]) ⟨(fun w1 h => h.ocell 0 rfl rfl),trivial⟩ ?_
       refine Le (Eff.maxI (k := .i64) (a := a.q) (b := -1) rfl kr kr) ?_
       rintro ⟨⟩ -
       refine Lp 2 [] (some [81,83]) n0 trivial ?_
       refine Le (Eff.store1 (b := r.r) (off := 4) (v := .int .i64 (if -1 > a.q then -1 else a.q)) rfl kr kr rfl kr 1 (cs := #[.slice (some ⟨r.sb,0,none⟩) (toR D).shown.length (toR D).shown.length,.slice (some ⟨r.lb,0,none⟩) (toR D).last.length (toR D).last.length,.slice (some ⟨r.wb,0,none⟩) (toR D).waits.length (toR D).waits.length,.int .i64 ((toR D).done),.int .i64 ((toR D).fuse),.bool (toR D).down]) (e := 72) kr (by simp)) ?_
       rintro ⟨⟩ -
       refine CfgL.done rfl ?_
       refine Cg (Γ' := []) ?_
       refine Rg [6] [] n0 trivial ?_
       refine Cfg.ret rfl (rs := [.tmp 6]) rfl [.bool true] ⟨kr,trivial⟩ (fun w1 hp => ?_)
       have H1 : ¬ (a.d.tmod 5 = 1 ∨ a.d.tmod 5 = -1) := by omega
       have H2 : ¬ (a.d.tmod 5 = 2 ∨ a.d.tmod 5 = -2) := by omega
       have H3 : a.d.tmod 5 = 3 ∨ a.d.tmod 5 = -3 := by omega
       have hx : doF a D = { D with fuse := if -1 > a.q then -1 else a.q } := by unfold doF; rw [if_neg H1,if_neg H2,if_pos H3]
       rw [hx]
       have h8 : HP w ((dO D m x ++ rO (toR D) r).map (·.1)) a.Rl ([(bx,Obj.cells ((ac a).toArray) 60 (0,0))] ++ (dO ({ D with fuse := if -1 > a.q then -1 else a.q }) m x4 ++ (rO (toR ({ D with fuse := if -1 > a.q then -1 else a.q })) r ++ []))) w1 := hp.perm (perm_mid [(bx,Obj.cells ((ac a).toArray) 60 (0,0))] (dO ({ D with fuse := if -1 > a.q then -1 else a.q }) m x4) (rO (toR ({ D with fuse := if -1 > a.q then -1 else a.q })) r)).symm
       rw [List.append_nil] at h8
       exact ⟨x4,hmo_x4,by simp [resOf],_,h8.sub (List.sublist_append_right _ _)⟩
      ·have c9 := (beq_eq_false_iff_ne.1 c9r)
       refine Rg [0,1,5,15,84] [] n0 trivial ?_
       refine Cfg.cond rfl (b := ((a.d.tmod 5) == (4 : Int))) kr (fun c10r => ?_) (fun c10r => ?_)
       ·have c10 := (beq_iff_eq.1 c10r)
        refine Cfg.condT rfl (b := ((a.d.tmod 5) == (4 : Int))) kr c10r ?_
        refine Cfg.begL rfl ?_
        refine Lp 3 [dZ,dZ,(0,false,some (.slice a.la a.kept.length a.cap))] (some [1,5,87,89]) (fun S => [(∀ w1,S w1 → w1.cell? ⟨bx,3,none⟩ = some (.slice a.la a.kept.length a.cap))]) ⟨(fun w1 h => h.ocell 0 rfl rfl),trivial⟩ ?_
        refine Le (Eff.callH (vs := [.pointer (some ⟨m.d,0,none⟩),.slice a.la a.kept.length a.cap]) (fun _ : MX => .tuple #[]) (dO D m x) (fun y => dO (crashF a.kept D) m y) (fun y => MapOk y.1 y.2 (wv2 (crashF a.kept D).wait)) [(bx,.cells ((ac a).toArray) 60 (0,0))] (rO (toR D) r ++ []) rfl rfl Tryz.func59 rfl rfl kr (fun w1 h hA hd => dCrash m x D a.la a.cap a.kept a.Rl w1 hg hmo hA hd hI hl (h.hasR (fun e he => he)) (apart (Fl := [(bx,Obj.cells ((ac a).toArray) 60 (0,0))]) (A := dO D m x) (T := (rO (toR D) r ++ [])) h (fun e he => he)))) ?_
        rintro x5 hmo_x5
        refine CfgL.done rfl ?_
        refine Cg (Γ' := [(5,[],.pointer (some ⟨bx,0,none⟩)),(1,[],.pointer (some ⟨r.r,0,none⟩))]) ?_
        refine Cfg.begL rfl ?_
        refine Lp 3 [dZ,dZ,(0,false,some (.slice a.la a.kept.length a.cap))] (some [91,93]) (fun S => [(∀ w1,S w1 → w1.cell? ⟨bx,3,none⟩ = some (.slice a.la a.kept.length a.cap))]) ⟨(fun w1 h => h.ocell 0 rfl rfl),trivial⟩ ?_
        refine Le (Eff.callH (vs := [.pointer (some ⟨r.r,0,none⟩),.slice a.la a.kept.length a.cap]) (fun _ : Unit => .tuple #[]) (rO (toR D) r) (fun _ => rO (toR (crashF a.kept D)) r) (fun _ => True) ([(bx,.cells ((ac a).toArray) 60 (0,0))] ++ (dO (crashF a.kept D) m x5)) [] rfl rfl Tryz.func60 rfl rfl kr (fun w1 h hA hd => (by have h9 := rCrash r (toR D) a.la a.cap a.kept a.Rl w1 (toR_ok hg) hA hd hI hl (h.hasR (fun e he => he)) (apart (Fl := ([(bx,Obj.cells ((ac a).toArray) 60 (0,0))] ++ (dO (crashF a.kept D) m x5))) (A := rO (toR D) r) (T := []) h (fun e he => he)); rw [toR_crash hg] at h9; exact h9.mono fun e w2 hx => ⟨(),trivial,hx⟩))) ?_
        rintro ⟨⟩ -
        refine CfgL.done rfl ?_
        refine Cg (Γ' := []) ?_
        refine Rg [6] [] n0 trivial ?_
        refine Cfg.ret rfl (rs := [.tmp 6]) rfl [.bool true] ⟨kr,trivial⟩ (fun w1 hp => ?_)
        have H1 : ¬ (a.d.tmod 5 = 1 ∨ a.d.tmod 5 = -1) := by omega
        have H2 : ¬ (a.d.tmod 5 = 2 ∨ a.d.tmod 5 = -2) := by omega
        have H3 : ¬ (a.d.tmod 5 = 3 ∨ a.d.tmod 5 = -3) := by omega
        have H4 : a.d.tmod 5 = 4 ∨ a.d.tmod 5 = -4 := by omega
        have hx : doF a D = (crashF a.kept D) := by unfold doF; rw [if_neg H1,if_neg H2,if_neg H3,if_pos H4]
        rw [hx]
        have h8 : HP w ((dO D m x ++ rO (toR D) r).map (·.1)) a.Rl ([(bx,Obj.cells ((ac a).toArray) 60 (0,0))] ++ (dO (crashF a.kept D) m x5 ++ (rO (toR (crashF a.kept D)) r ++ []))) w1 := hp
        rw [List.append_nil] at h8
        exact ⟨x5,hmo_x5,by simp [resOf],_,h8.sub (List.sublist_append_right _ _)⟩
       ·have c10 := (beq_eq_false_iff_ne.1 c10r)
        refine Rg [0,1,5,84] [] n0 trivial ?_
        refine Cfg.cond rfl (b := ((a.d.tmod 5) == ((-4) : Int))) kr (fun c12r => ?_) (fun c12r => ?_)
        ·have c12 := (beq_iff_eq.1 c12r)
         refine Cfg.begL rfl ?_
         refine Lp 3 [dZ,dZ,(0,false,some (.slice a.la a.kept.length a.cap))] (some [1,5,87,89]) (fun S => [(∀ w1,S w1 → w1.cell? ⟨bx,3,none⟩ = some (.slice a.la a.kept.length a.cap))]) ⟨(fun w1 h => h.ocell 0 rfl rfl),trivial⟩ ?_
         refine Le (Eff.callH (vs := [.pointer (some ⟨m.d,0,none⟩),.slice a.la a.kept.length a.cap]) (fun _ : MX => .tuple #[]) (dO D m x) (fun y => dO (crashF a.kept D) m y) (fun y => MapOk y.1 y.2 (wv2 (crashF a.kept D).wait)) [(bx,.cells ((ac a).toArray) 60 (0,0))] (rO (toR D) r ++ []) rfl rfl Tryz.func59 rfl rfl kr (fun w1 h hA hd => dCrash m x D a.la a.cap a.kept a.Rl w1 hg hmo hA hd hI hl (h.hasR (fun e he => he)) (apart (Fl := [(bx,Obj.cells ((ac a).toArray) 60 (0,0))]) (A := dO D m x) (T := (rO (toR D) r ++ [])) h (fun e he => he)))) ?_
         rintro x6 hmo_x6
         refine CfgL.done rfl ?_
         refine Cg (Γ' := [(5,[],.pointer (some ⟨bx,0,none⟩)),(1,[],.pointer (some ⟨r.r,0,none⟩))]) ?_
         refine Cfg.begL rfl ?_
         refine Lp 3 [dZ,dZ,(0,false,some (.slice a.la a.kept.length a.cap))] (some [91,93]) (fun S => [(∀ w1,S w1 → w1.cell? ⟨bx,3,none⟩ = some (.slice a.la a.kept.length a.cap))]) ⟨(fun w1 h => h.ocell 0 rfl rfl),trivial⟩ ?_
         refine Le (Eff.callH (vs := [.pointer (some ⟨r.r,0,none⟩),.slice a.la a.kept.length a.cap]) (fun _ : Unit => .tuple #[]) (rO (toR D) r) (fun _ => rO (toR (crashF a.kept D)) r) (fun _ => True) ([(bx,.cells ((ac a).toArray) 60 (0,0))] ++ (dO (crashF a.kept D) m x6)) [] rfl rfl Tryz.func60 rfl rfl kr (fun w1 h hA hd => (by have h9 := rCrash r (toR D) a.la a.cap a.kept a.Rl w1 (toR_ok hg) hA hd hI hl (h.hasR (fun e he => he)) (apart (Fl := ([(bx,Obj.cells ((ac a).toArray) 60 (0,0))] ++ (dO (crashF a.kept D) m x6))) (A := rO (toR D) r) (T := []) h (fun e he => he)); rw [toR_crash hg] at h9; exact h9.mono fun e w2 hx => ⟨(),trivial,hx⟩))) ?_
         rintro ⟨⟩ -
         refine CfgL.done rfl ?_
         refine Cg (Γ' := []) ?_
         refine Rg [6] [] n0 trivial ?_
         refine Cfg.ret rfl (rs := [.tmp 6]) rfl [.bool true] ⟨kr,trivial⟩ (fun w1 hp => ?_)
         have H1 : ¬ (a.d.tmod 5 = 1 ∨ a.d.tmod 5 = -1) := by omega
         have H2 : ¬ (a.d.tmod 5 = 2 ∨ a.d.tmod 5 = -2) := by omega
         have H3 : ¬ (a.d.tmod 5 = 3 ∨ a.d.tmod 5 = -3) := by omega
         have H4 : a.d.tmod 5 = 4 ∨ a.d.tmod 5 = -4 := by omega
         have hx : doF a D = (crashF a.kept D) := by unfold doF; rw [if_neg H1,if_neg H2,if_neg H3,if_pos H4]
         rw [hx]
         have h8 : HP w ((dO D m x ++ rO (toR D) r).map (·.1)) a.Rl ([(bx,Obj.cells ((ac a).toArray) 60 (0,0))] ++ (dO (crashF a.kept D) m x6 ++ (rO (toR (crashF a.kept D)) r ++ []))) w1 := hp
         rw [List.append_nil] at h8
         exact ⟨x6,hmo_x6,by simp [resOf],_,h8.sub (List.sublist_append_right _ _)⟩
        ·have c12 := (beq_eq_false_iff_ne.1 c12r)
         refine Cfg.begL rfl ?_
         refine Le (Eff.alloc (z := (.agg (bv (List.replicate 512 0)))) rfl kr) ?_
         rintro b6 ⟨hb6,nb6⟩
         refine CfgL.done rfl ?_
         refine Cg (Γ' := [(11,[],.pointer (some ⟨b6,0,none⟩)),(5,[],.pointer (some ⟨bx,0,none⟩)),(0,[],.pointer (some ⟨m.d,0,none⟩)),(1,[],.pointer (some ⟨r.r,0,none⟩))]) ?_
         refine Rg [0,1,5,11,16] [] n0 trivial ?_
         refine Cfg.setO (congrArg (fun (xq : Array Value) => (([(b6,.cells xq 25 (0,0)),(bx,.cells ((ac a).toArray) 60 (0,0))] ++ (dO D m x ++ (rO (toR D) r ++ []))) : List (Nat × Obj))) (show _ = (bv (blkK a.b 0)) from by show bv (List.replicate 512 0) = _; rw [blkK_zero])) ?_
         refine Cfg.loop rfl (ι := Nat) (fun (k : Nat) => [(16,[],.int .i64 (k : Int)),(11,[],.pointer (some ⟨b6,0,none⟩)),(5,[],.pointer (some ⟨bx,0,none⟩)),(0,[],.pointer (some ⟨m.d,0,none⟩)),(1,[],.pointer (some ⟨r.r,0,none⟩))]) (fun (k : Nat) => ([(b6,.cells (bv (blkK a.b k)) 25 (0,0)),(bx,.cells ((ac a).toArray) 60 (0,0))] ++ (dO D m x ++ (rO (toR D) r ++ [])))) (fun (k : Nat) => (k ≤ 512)) (fun (k : Nat) => 512 - k) 0 ?_ (Conv.mk kr) (.cons_cons _ (.cons_cons _ (List.Sublist.refl _))) ?_
         ·exact Nat.zero_le _
         ·rintro k hk
          refine Rg [0,1,5,11,16,17] [] n0 trivial ?_
          refine Cfg.cond rfl (b := (decide ((k : Int) < (512 : Int)))) kr (fun c13r => ?_) (fun c13r => ?_)
          ·have c13 := (of_decide_eq_true c13r)
           refine Rg [0,1,5,11,12,16] [] n0 trivial ?_
           refine Cfg.begL rfl ?_
           refine Lp 7 [dZ,dZ,(0,false,some (.int .u8 (a.b.toNat : Int)))] (some [0,1,5,11,16,24,25]) (fun S => [(∀ w1,S w1 → w1.cell? ⟨bx,2,none⟩ = some (.int .u8 (a.b.toNat : Int))),(0 ≤ (k : Int) ∧ (k : Int) < (512 : Int))]) ⟨(fun w1 h => h.ocell 1 rfl rfl),om,trivial⟩ ?_
           refine Le (Eff.store1 (b := b6) (off := k) (v := .int .u8 (((a.b.toNat : Int) + ((k : Int) % 256)) % 256)) rfl kr kr rfl kr 0 (cs := (bv (blkK a.b k))) (e := 25) kr (by rw [bv_size,blkK_len]; omega)) ?_
           rintro ⟨⟩ -
           refine CfgL.done rfl ?_
           refine Cg (Γ' := [(16,[],.int .i64 (k : Int)),(11,[],.pointer (some ⟨b6,0,none⟩)),(5,[],.pointer (some ⟨bx,0,none⟩)),(0,[],.pointer (some ⟨m.d,0,none⟩)),(1,[],.pointer (some ⟨r.r,0,none⟩))]) ?_
           refine Rg [0,1,5,11,16] [] (fun _ => [((-9223372036854775808 : Int) ≤ ((k : Int) + 1) ∧ ((k : Int) + 1) ≤ 9223372036854775807)]) ⟨om,trivial⟩ ?_
           refine Cfg.setO (congrArg (fun (xq : Array Value) => (([(b6,.cells xq 25 (0,0)),(bx,.cells ((ac a).toArray) 60 (0,0))] ++ (dO D m x ++ (rO (toR D) r ++ []))) : List (Nat × Obj))) (show _ = (bv (blkK a.b (k + 1))) from by rw [bv_set om om,u8_sum _ _ om,blkK_set om])) ?_
           refine Cfg.again rfl (k + 1) (by show k + 1 ≤ 512; omega) (by show 512 - (k + 1) < 512 - k; omega) (Conv.mk kr) (.cons_cons _ (.cons_cons _ (List.Sublist.refl _)))
          ·have c13 := (of_decide_eq_false c13r)
           refine Cfg.begA rfl kr [(b6,.cells (bv (blkK a.b k)) 25 (0,0)),(bx,.cells ((ac a).toArray) 60 (0,0))] ?_
           refine Ap [0,1,2,3,5,6,7,8] [dZ,dZ,(0,false,some (.int .i64 a.q)),(0,false,some (.agg (bv (blkK a.b k)))),dZ,dZ,(0,false,some (.int .i64 a.q)),(0,false,some (.agg (bv (blkK a.b k))))] (some [27,29,30,32,34,35]) #[true,true,true,true,false,true,true,true,true,false,false,false] (.cons_cons _ (.cons_cons _ (List.nil_sublist _))) 4 (fun S => [(∀ w1,S w1 → w1.cell? ⟨bx,1,none⟩ = some (.int .i64 a.q)),(∀ w1,S w1 → (loadVar 25 ⟨b6,0,none⟩).run Tryz.prog w1 = .ok (.agg (bv (blkK a.b k))) w1),(∀ w1,S w1 → w1.cell? ⟨bx,1,none⟩ = some (.int .i64 a.q)),(∀ w1,S w1 → (loadVar 25 ⟨b6,0,none⟩).run Tryz.prog w1 = .ok (.agg (bv (blkK a.b k))) w1)]) ⟨(fun w1 h => h.ocell 1 rfl rfl),(fun w1 h => h.oload 0 rfl Tryz.underlying25 rfl (n := 512) kr ((bv_size _).trans (blkK_len _ _))),(fun w1 h => h.ocell 1 rfl rfl),(fun w1 h => h.oload 0 rfl Tryz.underlying25 rfl (n := 512) kr ((bv_size _).trans (blkK_len _ _))),trivial⟩ ?_
           refine Ae 4 rfl 3  (Eff.callH (vs := [.pointer (some ⟨m.d,0,none⟩),.int .i64 a.q,.agg (bv (blkK a.b k))]) (fun _ : MX => .int .i64 ((writeF D a.q (blkK a.b k)).1)) (dO D m x) (fun y => dO ((writeF D a.q (blkK a.b k)).2) m y) (fun y => MapOk y.1 y.2 (wv2 ((writeF D a.q (blkK a.b k)).2).wait)) [(b6,.cells (bv (blkK a.b k)) 25 (0,0)),(bx,.cells ((ac a).toArray) 60 (0,0))] (rO (toR D) r ++ []) rfl rfl Tryz.func61 rfl rfl kr (fun w1 h hA hd => dWrite m x D a.q (blkK a.b k) w1 hg hmo hA hd (blkK_len _ _) hst)) (fun _ _ => (.cons_cons _ (.cons_cons _ (List.nil_sublist _)))) ?_
           rintro x7 hmo_x7
           refine Ae 9 rfl 2  (Eff.callH (vs := [.pointer (some ⟨r.r,0,none⟩),.int .i64 a.q,.agg (bv (blkK a.b k))]) (fun _ : Unit => .int .i64 ((writeF D a.q (blkK a.b k)).1)) (rO (toR D) r) (fun _ => rO (toR ((writeF D a.q (blkK a.b k)).2)) r) (fun _ => True) ([(b6,.cells (bv (blkK a.b k)) 25 (0,0)),(bx,.cells ((ac a).toArray) 60 (0,0))] ++ (dO ((writeF D a.q (blkK a.b k)).2) m x7)) [] rfl rfl Tryz.func62 rfl rfl kr (fun w1 h hA hd => (by have h9 := rWrite r (toR D) a.q (blkK a.b k) w1 (toR_ok hg) hA hd (blkK_len _ _) hst; rw [toR_write hg] at h9; exact h9.mono fun e w2 hx => ⟨(),trivial,hx⟩))) (fun _ _ => (.cons_cons _ (.cons_cons _ (List.nil_sublist _)))) ?_
           rintro ⟨⟩ -
           refine Ap [10,11] [] (some [6]) #[true,true,true,true,true,true,true,true,true,true,true,true] (.cons_cons _ (.cons_cons _ (List.nil_sublist _))) 0 n0 trivial ?_
           refine CfgA.done kr ?_
           refine Cfg.ret rfl (rs := [.tmp 6]) rfl [.bool (((writeF D a.q (blkK a.b k)).1) == ((writeF D a.q (blkK a.b k)).1))] ⟨kr,trivial⟩ (fun w1 hp => ?_)
           have H1 : ¬ (a.d.tmod 5 = 1 ∨ a.d.tmod 5 = -1) := by omega
           have H2 : ¬ (a.d.tmod 5 = 2 ∨ a.d.tmod 5 = -2) := by omega
           have H3 : ¬ (a.d.tmod 5 = 3 ∨ a.d.tmod 5 = -3) := by omega
           have H4 : ¬ (a.d.tmod 5 = 4 ∨ a.d.tmod 5 = -4) := by omega
           obtain rfl : k = 512 := by omega
           have hx : doF a D = (writeF D a.q (blkK a.b 512)).2 := by unfold doF; rw [if_neg H1,if_neg H2,if_neg H3,if_neg H4]
           rw [hx]
           have h8 : HP w ((dO D m x ++ rO (toR D) r).map (·.1)) a.Rl ([(b6,Obj.cells (bv (blkK a.b 512)) 25 (0,0)),(bx,Obj.cells ((ac a).toArray) 60 (0,0))] ++ (dO ((writeF D a.q (blkK a.b 512)).2) m x7 ++ (rO (toR ((writeF D a.q (blkK a.b 512)).2)) r ++ []))) w1 := hp
           rw [List.append_nil] at h8
           exact ⟨x7,hmo_x7,by simp [resOf],_,h8.sub (List.sublist_append_right _ _)⟩
end Go.Proofs.YtohjpggjgomgoaaGreatDoor
namespace Go.Proofs.YtohjpggjgomgoaaGreatDoor
open K
set_option linter.unusedVariables false
theorem drop_getD {l : List Wr} {i : Nat} (h : i < l.length) : l.drop i = l.getD i wz :: l.drop (i + 1) := by
 rw [List.drop_eq_getElem_cons h,List.getD_eq_getElem?_getD,List.getElem?_eq_getElem h]; rfl
theorem layF_stop {E : DK} {l : List Wr} {i : Nat} (h : i < l.length) (he : (writeF E (l.getD i wz).1 (l.getD i wz).2).1 ≠ 0) : layF E (l.drop i) = writeF E (l.getD i wz).1 (l.getD i wz).2 := by
 rw [drop_getD h,layF,if_pos he]
theorem layF_go {E : DK} {l : List Wr} {i : Nat} (h : i < l.length) (he : (writeF E (l.getD i wz).1 (l.getD i wz).2).1 = 0) : layF E (l.drop i) = layF (writeF E (l.getD i wz).1 (l.getD i wz).2).2 (l.drop (i + 1)) := by
 rw [drop_getD h,layF,if_neg (fun e => e he)]
set_option maxRecDepth 100000 in
theorem jLost (jb : Nat) (why : Int) (num : Nat) (m : DM) (w : World) (hR : Has w [(jb,Obj.cells #[.int .i64 why,.pointer (some ⟨m.d,0,none⟩),.int .u64 (num : Int)] 121 (0,0))]) :
  Calls Tryz.prog 63 #[.pointer (some ⟨jb,0,none⟩)] w fun e w' => e = .returned (.bool (why != (0 : Int))) ∧ Ext [] w w' := by
 refine enter (vs := [.pointer (some ⟨jb,0,none⟩)]) [] [(jb,.cells #[.int .i64 why,.pointer (some ⟨m.d,0,none⟩),.int .u64 (num : Int)] 121 (0,0))] [] Tryz.func63 rfl kr (HP.ofHas hR) ?_
 refine Rg [0] [] n0 trivial ?_
 refine Rg [2] [dZ,dZ,dZ,(0,false,some (.int .i64 why))] (fun S => [(∀ w1,S w1 → w1.cell? ⟨jb,0,none⟩ = some (.int .i64 why))]) ⟨(fun w1 h => h.rcell 0 rfl rfl),trivial⟩ ?_
 refine Cfg.ret rfl (rs := [.tmp 2]) rfl [.bool (why != (0 : Int))] ⟨kr,trivial⟩ (fun w1 hp => ?_)
 exact ⟨rfl,hp.ext⟩
set_option maxRecDepth 100000 in
theorem jNumber (jb : Nat) (why : Int) (num : Nat) (m : DM) (x : MX) (D : DK) (w : World) (hR : Has w ((jb,Obj.cells #[.int .i64 why,.pointer (some ⟨m.d,0,none⟩),.int .u64 (num : Int)] 121 (0,0)) :: dO D m x)) :
  Calls Tryz.prog 20 #[.pointer (some ⟨jb,0,none⟩)] w fun e w' => e = .returned (.int .u64 (num : Int)) ∧ Ext [] w w' := by
 refine enter (vs := [.pointer (some ⟨jb,0,none⟩)]) [] ((jb,Obj.cells #[.int .i64 why,.pointer (some ⟨m.d,0,none⟩),.int .u64 (num : Int)] 121 (0,0)) :: dO D m x) [] Tryz.func20 rfl kr (HP.ofHas hR) ?_
 refine Rg [0] [] n0 trivial ?_
 refine Rg [0,4] [] n0 trivial ?_
 refine Cfg.condF rfl (b := false) kr rfl ?_
 refine Rg [2] [dZ,dZ,dZ,(0,false,some (.int .u64 (num : Int)))] (fun S => [(∀ w1,S w1 → w1.cell? ⟨jb,2,none⟩ = some (.int .u64 (num : Int)))]) ⟨(fun w1 h => h.rcell 0 rfl rfl),trivial⟩ ?_
 refine Cfg.ret rfl (rs := [.tmp 2]) rfl [.int .u64 (num : Int)] ⟨kr,trivial⟩ (fun w1 hp => ?_)
 exact ⟨rfl,hp.ext⟩
set_option maxRecDepth 100000 in
theorem jErr (jb : Nat) (why : Int) (num : Nat) (m : DM) (x : MX) (D : DK) (w : World) (hR : Has w ((jb,Obj.cells #[.int .i64 why,.pointer (some ⟨m.d,0,none⟩),.int .u64 (num : Int)] 121 (0,0)) :: dO D m x)) :
  Calls Tryz.prog 21 #[.pointer (some ⟨jb,0,none⟩)] w fun e w' => e = .returned (.int .i64 why) ∧ Ext [] w w' := by
 refine enter (vs := [.pointer (some ⟨jb,0,none⟩)]) [] ((jb,Obj.cells #[.int .i64 why,.pointer (some ⟨m.d,0,none⟩),.int .u64 (num : Int)] 121 (0,0)) :: dO D m x) [] Tryz.func21 rfl kr (HP.ofHas hR) ?_
 refine Rg [0] [] n0 trivial ?_
 refine Rg [0,4] [] n0 trivial ?_
 refine Cfg.condF rfl (b := false) kr rfl ?_
 refine Rg [2] [dZ,dZ,dZ,dZ,(0,false,some (.int .i64 why))] (fun S => [(∀ w1,S w1 → w1.cell? ⟨jb,0,none⟩ = some (.int .i64 why))]) ⟨(fun w1 h => h.rcell 0 rfl rfl),trivial⟩ ?_
 refine Cfg.ret rfl (rs := [.tmp 2]) rfl [.int .i64 why] ⟨kr,trivial⟩ (fun w1 hp => ?_)
 exact ⟨rfl,hp.ext⟩
set_option maxRecDepth 100000 in
theorem jSectors (jb : Nat) (why : Int) (num : Nat) (m : DM) (x : MX) (D : DK) (w : World) (hR : Has w ((jb,Obj.cells #[.int .i64 why,.pointer (some ⟨m.d,0,none⟩),.int .u64 (num : Int)] 121 (0,0)) :: dO D m x)) :
  Calls Tryz.prog 22 #[.pointer (some ⟨jb,0,none⟩)] w fun e w' => e = .returned (.int .i64 (D.last.length : Int)) ∧ Ext [] w w' := by
 refine enter (vs := [.pointer (some ⟨jb,0,none⟩)]) [] ((jb,Obj.cells #[.int .i64 why,.pointer (some ⟨m.d,0,none⟩),.int .u64 (num : Int)] 121 (0,0)) :: dO D m x) [] Tryz.func22 rfl kr (HP.ofHas hR) ?_
 refine Rg [0] [] n0 trivial ?_
 refine Rg [0,4] [] n0 trivial ?_
 refine Cfg.condF rfl (b := false) kr rfl ?_
 refine Cfg.begL rfl ?_
 refine Lp 4 [dZ,dZ,dZ,(0,false,some (.pointer (some ⟨m.d,0,none⟩)))] (some [8]) (fun S => [(∀ w1,S w1 → w1.cell? ⟨jb,1,none⟩ = some (.pointer (some ⟨m.d,0,none⟩)))]) ⟨(fun w1 h => h.rcell 0 rfl rfl),trivial⟩ ?_
 refine Le (Eff.callA (vs := [.pointer (some ⟨m.d,0,none⟩)]) (.int .i64 (D.last.length : Int)) rfl Tryz.func51 rfl rfl kr (fun w1 h => dSectors m x D w1 (h.hasR (fun e he => List.mem_cons_of_mem _ he)))) ?_
 rintro ⟨⟩ -
 refine Lp 1 [] (some [2]) n0 trivial ?_
 refine CfgL.done rfl ?_
 refine Cfg.ret rfl (rs := [.tmp 2]) rfl [.int .i64 (D.last.length : Int)] ⟨kr,trivial⟩ (fun w1 hp => ?_)
 exact ⟨rfl,hp.ext⟩
set_option maxRecDepth 100000 in
theorem jRead (jb : Nat) (why : Int) (num : Nat) (m : DM) (x : MX) (D : DK) (q : Int) (w : World) (hg : DG D) (hmo : MapOk x.1 x.2 (wv2 D.wait)) (hR : Has w ((jb,Obj.cells #[.int .i64 why,.pointer (some ⟨m.d,0,none⟩),.int .u64 (num : Int)] 121 (0,0)) :: dO D m x)) :
  Calls Tryz.prog 23 #[.pointer (some ⟨jb,0,none⟩),.int .i64 q] w fun e w' => e = .returned (.tuple #[.agg (bv (if why ≠ 0 then zb else readF D q)),.int .i64 (if why ≠ 0 then why else fltF D q)]) ∧ Ext [] w w' := by
 refine enter (vs := [.pointer (some ⟨jb,0,none⟩),.int .i64 q]) [] ((jb,Obj.cells #[.int .i64 why,.pointer (some ⟨m.d,0,none⟩),.int .u64 (num : Int)] 121 (0,0)) :: dO D m x) [] Tryz.func23 rfl kr (HP.ofHas hR) ?_
 refine Cfg.begL rfl ?_
 refine Le (Eff.alloc (z := (.agg (bv (List.replicate 512 0)))) rfl kr) ?_
 rintro rs ⟨hrs,nrs⟩
 refine Lp 1 [] (some [0,1,4]) n0 trivial ?_
 refine CfgL.done rfl ?_
 refine Rg [0,1,4,7] [] n0 trivial ?_
 refine Cfg.condF rfl (b := false) kr rfl ?_
 refine Cfg.begL rfl ?_
 refine Lp 3 [] (some [0,1,4,11]) n0 trivial ?_
 refine Le (Eff.callA (vs := [.pointer (some ⟨jb,0,none⟩)]) (.bool (why != (0 : Int))) rfl Tryz.func63 rfl rfl kr (fun w1 h => jLost jb why num m w1 (h.hasR (fun e he => by rw [List.mem_singleton.1 he]; exact List.mem_cons_self ..)))) ?_
 rintro ⟨⟩ -
 refine CfgL.done rfl ?_
 refine Cg (Γ' := [(12,[],.bool (why != (0 : Int))),(4,[],.pointer (some ⟨rs,0,none⟩)),(0,[],.pointer (some ⟨jb,0,none⟩)),(1,[],.int .i64 q)]) ?_
 refine Cfg.cond rfl (b := (why != (0 : Int))) kr (fun c2r => ?_) (fun c2r => ?_)
 ·have c2 := (bne_iff_ne.1 c2r)
  refine Cfg.begA rfl kr [] ?_
  refine Ap [0,1,2,3,4,5] [(0,false,some (.agg (bv (List.replicate 512 0)))),dZ,dZ,dZ,dZ,(0,false,some (.int .i64 why))] (some [4,13,18]) #[true,true,true,true,true,true,false,false] (.cons _ .slnil) 2 (fun S => [(∀ w1,S w1 → (Instr.build 25 #[]).run Tryz.prog w1 = .ok (.agg (bv (List.replicate 512 0))) w1),(∀ w1,S w1 → w1.cell? ⟨jb,0,none⟩ = some (.int .i64 why))]) ⟨(fun _ _ => kr),(fun w1 h => h.rcell 0 rfl rfl),trivial⟩ ?_
  refine Ae 6 rfl 1  (Eff.storeN (b := rs) (off := 0) (vs := (bv (List.replicate 512 0))) (n := 512) rfl kr kr kr ((bv_size _).trans (List.length_replicate)) (all_bv _) 0 (cs := (bv (List.replicate 512 0))) (e := 25) kr (by rw [zsz512]; omega)) (fun _ _ => List.nil_sublist _) ?_
  rintro ⟨⟩ -
  refine CfgA.setO (congrArg (fun (xq : Array Value) => ([(rs,.cells xq 25 (0,0))] : List (Nat × Obj))) (show _ = (bv (List.replicate 512 0)) from spl_all (((bv_size _).trans (List.length_replicate)).trans zsz512.symm))) ?_
  refine Ap [7] [] (some [4,5]) #[true,true,true,true,true,true,true,true] (.cons _ .slnil) 0 n0 trivial ?_
  refine CfgA.done kr ?_
  refine Cfg.ret rfl (rs := [.cell 4 25,.tmp 5]) rfl [.agg (bv (List.replicate 512 0)),.int .i64 why] ⟨⟨_,by kernel_rfl,(fun w1 h => h.oload 0 rfl Tryz.underlying25 rfl (n := 512) kr ((bv_size _).trans (List.length_replicate)))⟩,by kernel_rfl,trivial⟩ (fun w1 hp => ?_)
  exact ⟨by rw [if_pos c2,if_pos c2]; rfl,hp.ext⟩
 ·have c2 := (bne_eq_false_iff_eq.1 c2r)
  refine Cfg.begL rfl ?_
  refine Lp 5 [dZ,dZ,dZ,(0,false,some (.pointer (some ⟨m.d,0,none⟩)))] (some [4,22,23]) (fun S => [(∀ w1,S w1 → w1.cell? ⟨jb,1,none⟩ = some (.pointer (some ⟨m.d,0,none⟩)))]) ⟨(fun w1 h => h.rcell 0 rfl rfl),trivial⟩ ?_
  refine Le (Eff.callA (vs := [.pointer (some ⟨m.d,0,none⟩),.int .i64 q]) (.tuple #[.agg (bv (readF D q)),.int .i64 (fltF D q)]) rfl Tryz.func50 rfl rfl kr (fun w1 h => dRead m x D q w1 hg hmo (h.hasR (fun e he => List.mem_cons_of_mem _ he)))) ?_
  rintro ⟨⟩ -
  refine Lp 2 [] (some [4,25,26]) n0 trivial ?_
  refine Le (Eff.storeN (b := rs) (off := 0) (vs := (bv (readF D q))) (n := 512) rfl kr kr kr ((bv_size _).trans (readF_len hg _)) (all_bv _) 0 (cs := (bv (List.replicate 512 0))) (e := 25) kr (by rw [zsz512]; omega)) ?_
  rintro ⟨⟩ -
  refine CfgL.setO (congrArg (fun (xq : Array Value) => ([(rs,.cells xq 25 (0,0))] : List (Nat × Obj))) (show _ = (bv (readF D q)) from spl_all (((bv_size _).trans (readF_len hg _)).trans zsz512.symm))) ?_
  refine Lp 1 [] (some [4,5]) n0 trivial ?_
  refine CfgL.done rfl ?_
  refine Cfg.ret rfl (rs := [.cell 4 25,.tmp 5]) rfl [.agg (bv (readF D q)),.int .i64 (fltF D q)] ⟨⟨_,by kernel_rfl,(fun w1 h => h.oload 0 rfl Tryz.underlying25 rfl (n := 512) kr ((bv_size _).trans (readF_len hg _)))⟩,by kernel_rfl,trivial⟩ (fun w1 hp => ?_)
  exact ⟨by rw [if_neg (fun h => h c2),if_neg (fun h => h c2)]; rfl,hp.ext⟩
set_option maxRecDepth 100000 in
set_option maxHeartbeats 2000000 in
theorem jLay (jb : Nat) (why : Int) (num : Nat) (m : DM) (x : MX) (D : DK) (la : Option Addr) (cap : Nat) (l : List Wr) (Rl : List (Nat × Obj)) (w : World) (hg : DG D) (hA : Has w (dO D m x)) (hd : ((dO D m x).map (·.1)).Nodup) (hI : InW Rl la l) (hW : WW l) (hl : l.length ≤ 100000) (hs : 0 ≤ D.steps ∧ D.steps ≤ 4611686018427000000) (hmo : MapOk x.1 x.2 (wv2 D.wait)) (hR : Has w ((jb,Obj.cells #[.int .i64 why,.pointer (some ⟨m.d,0,none⟩),.int .u64 (num : Int)] 121 (0,0)) :: Rl)) (hnr : ∀ e ∈ (jb,Obj.cells #[.int .i64 why,.pointer (some ⟨m.d,0,none⟩),.int .u64 (num : Int)] 121 (0,0)) :: Rl,e.1 ∉ (dO D m x).map (·.1)) :
  Calls Tryz.prog 54 #[.pointer (some ⟨jb,0,none⟩),.slice la l.length cap] w fun e w' => ∃ x2 : MX,MapOk x2.1 x2.2 (wv2 (layF D l).2.wait) ∧ e = .returned (.int .i64 (layF D l).1) ∧ ∃ R1,HP w ((dO D m x).map (·.1)) R1 (dO (layF D l).2 m x2) w' := by
 refine enter (vs := [.pointer (some ⟨jb,0,none⟩),.slice la l.length cap]) ((dO D m x).map (·.1)) ((jb,Obj.cells #[.int .i64 why,.pointer (some ⟨m.d,0,none⟩),.int .u64 (num : Int)] 121 (0,0)) :: Rl) ([] ++ (dO D m x ++ [])) Tryz.func54 rfl kr (by rw [List.append_nil]; exact HP.ofL hA hd hR hnr) ?_
 refine Rg [0,1] [] n0 trivial ?_
 refine Rg [0,8,9,10] [] n0 trivial ?_
 refine Cfg.loop rfl (ι := Nat × DK × MX) (fun (xz : Nat × DK × MX) => match xz with | (i,E,y) => [(10,[],.int .i64 (i : Int)),(9,[],.int .i64 (l.length : Int)),(8,[],.slice la l.length cap),(0,[],.pointer (some ⟨jb,0,none⟩))]) (fun (xz : Nat × DK × MX) => match xz with | (i,E,y) => ([] ++ (dO E m y ++ []))) (fun (xz : Nat × DK × MX) => match xz with | (i,E,y) => (i ≤ l.length) ∧ (DG E) ∧ (MapOk y.1 y.2 (wv2 E.wait)) ∧ (D.steps ≤ E.steps ∧ E.steps ≤ D.steps + (i : Int)) ∧ (layF E (l.drop i) = layF D l)) (fun (xz : Nat × DK × MX) => match xz with | (i,E,y) => l.length - i) (0,D,x) ?_ (Conv.mk kr) (List.Sublist.refl _) ?_
 ·exact ⟨Nat.zero_le _,hg,hmo,⟨by omega,by omega⟩,by rw [List.drop_zero]⟩
 ·rintro ⟨i,E,y⟩ ⟨hi,hgE,hmo_y,hsE,hlE⟩
  have hst : 0 ≤ E.steps ∧ E.steps ≤ 4611686018427387904 := by omega
  refine Rg [0,8,9,10,11] [] n0 trivial ?_
  refine Cfg.cond rfl (b := (decide ((i : Int) < (l.length : Int)))) kr (fun c1r => ?_) (fun c1r => ?_)
  ·have c1 := (of_decide_eq_true c1r)
   obtain ⟨sb,off,cs,te,fre,rfl,hmem,hcs⟩ := hI om
   refine Conv.cfg (Γ' := [(11,[],.bool (decide ((i : Int) < (l.length : Int)))),(10,[],.int .i64 (i : Int)),(9,[],.int .i64 (l.length : Int)),(8,[],.slice (some ⟨sb,off,none⟩) l.length cap),(0,[],.pointer (some ⟨jb,0,none⟩))]) (Conv.mk kr) ?_
   refine Cfg.begL rfl ?_
   refine Lp 2 [dZ,(0,false,some (.agg (jc (l.getD i wz)).toArray))] (some [0,8,9,10,13]) (fun S => [(0 ≤ (i : Int) ∧ (i : Int) < (l.length : Int)),(∀ w1,S w1 → (loadVar 79 ⟨sb,(addO off (i * 513)),none⟩).run Tryz.prog w1 = .ok (.agg (jc (l.getD i wz)).toArray) w1)]) ⟨om,(fun w1 h => load_list Tryz.underlying79 rfl kr (jc_len (hW.at i)) (fun j v hj => by rw [addO_eq]; exact (cell_cells (h.ro _ (List.mem_cons_of_mem _ hmem))).trans (wr_cell hW hcs om hj))),trivial⟩ ?_
   refine Le (Eff.alloc (z := (.agg (jc wz).toArray)) rfl kr) ?_
   rintro wb ⟨hwb,nwb⟩
   refine Le (Eff.storeN (b := wb) (off := 0) (vs := (jc (l.getD i wz)).toArray) (n := 513) rfl kr kr kr (by rw [List.size_toArray,jc_len (hW.at i)]) (jc_all _) 0 (cs := (jc wz).toArray) (e := 79) kr (by show 0 + 513 ≤ (jc wz).toArray.size; rw [List.size_toArray,jc_len zb_len]; decide)) ?_
   rintro ⟨⟩ -
   refine CfgL.setO (congrArg (fun (xq : Array Value) => (([(wb,.cells xq 79 (0,0))] ++ (dO E m y ++ [])) : List (Nat × Obj))) (show _ = ((jc (l.getD i wz)).toArray) from spl_all (by rw [List.size_toArray,List.size_toArray,jc_len (hW.at i)]; exact (jc_len zb_len).symm))) ?_
   refine CfgL.done rfl ?_
   refine Cg (Γ' := [(6,[],.pointer (some ⟨wb,0,none⟩)),(10,[],.int .i64 (i : Int)),(9,[],.int .i64 (l.length : Int)),(8,[],.slice (some ⟨sb,off,none⟩) l.length cap),(0,[],.pointer (some ⟨jb,0,none⟩))]) ?_
   refine Cfg.begA rfl kr [(wb,.cells ((jc (l.getD i wz)).toArray) 79 (0,0))] ?_
   refine Ap [0,1,2,3,4,5,6,7] [dZ,dZ,dZ,(0,false,some (.pointer (some ⟨m.d,0,none⟩))),dZ,(0,false,some (.int .i64 ((l.getD i wz).1))),dZ,(0,false,some (.agg (bv (l.getD i wz).2)))] (some [0,8,9,10,17,19,21]) #[true,true,true,true,true,true,true,true,false,false] (.cons_cons _ (List.nil_sublist _)) 2 (fun S => [(∀ w1,S w1 → w1.cell? ⟨jb,1,none⟩ = some (.pointer (some ⟨m.d,0,none⟩))),(∀ w1,S w1 → w1.cell? ⟨wb,0,none⟩ = some (.int .i64 ((l.getD i wz).1))),(∀ w1,S w1 → (loadVar 25 ⟨wb,1,none⟩).run Tryz.prog w1 = .ok (.agg (bv (l.getD i wz).2)) w1)]) ⟨(fun w1 h => h.rcell 0 rfl rfl),(fun w1 h => h.ocell 0 rfl rfl),(fun w1 h => load_bytes Tryz.underlying25 rfl kr (hW.at i) (fun j hj => by rw [cell_cells (h.own (wb,_) (List.mem_of_getElem? (i := 0) rfl)),List.getElem?_toArray]; exact jc_byte (hW.at i) hj)),trivial⟩ ?_
   refine Ae 8 rfl 1  (Eff.callH (vs := [.pointer (some ⟨m.d,0,none⟩),.int .i64 ((l.getD i wz).1),.agg (bv (l.getD i wz).2)]) (fun _ : MX => .int .i64 ((writeF E ((l.getD i wz).1) ((l.getD i wz).2)).1)) (dO E m y) (fun y => dO ((writeF E ((l.getD i wz).1) ((l.getD i wz).2)).2) m y) (fun y => MapOk y.1 y.2 (wv2 ((writeF E ((l.getD i wz).1) ((l.getD i wz).2)).2).wait)) [(wb,.cells ((jc (l.getD i wz)).toArray) 79 (0,0))] [] rfl rfl Tryz.func61 rfl rfl kr (fun w1 h hA hd => dWrite m y E ((l.getD i wz).1) ((l.getD i wz).2) w1 hgE hmo_y hA hd (hW.at i) hst)) (fun _ _ => (.cons_cons _ (List.nil_sublist _))) ?_
   rintro x1 hmo_x1
   refine Ap [9] [] (some [0,7,8,9,10]) #[true,true,true,true,true,true,true,true,true,true] (.cons_cons _ (List.nil_sublist _)) 0 n0 trivial ?_
   refine CfgA.done kr ?_
   refine Rg [0,7,8,9,10,24] [] n0 trivial ?_
   refine Cfg.cond rfl (b := (((writeF E ((l.getD i wz).1) ((l.getD i wz).2)).1) != (0 : Int))) kr (fun c2r => ?_) (fun c2r => ?_)
   ·have c2 := (bne_iff_ne.1 c2r)
    refine Rg [4] [] n0 trivial ?_
    refine Cfg.ret rfl (rs := [.tmp 4]) rfl [.int .i64 ((writeF E ((l.getD i wz).1) ((l.getD i wz).2)).1)] ⟨kr,trivial⟩ (fun w1 hp => ?_)
    have hx : layF D l = writeF E (l.getD i wz).1 (l.getD i wz).2 := by rw [← hlE]; exact layF_stop om om
    rw [hx]
    have h9 := hp.sub (List.sublist_append_right _ _)
    rw [List.append_nil] at h9
    exact ⟨x1,hmo_x1,rfl,_,h9⟩
   ·have c2 := (bne_eq_false_iff_eq.1 c2r)
    refine Rg [0,8,9,10] [] (fun _ => [((-9223372036854775808 : Int) ≤ ((i : Int) + 1) ∧ ((i : Int) + 1) ≤ 9223372036854775807)]) ⟨om,trivial⟩ ?_
    have hws := writeF_steps E (l.getD i wz).1 (l.getD i wz).2
    have hgo := layF_go (E := E) (l := l) (i := i) om om
    refine Cfg.again rfl (i + 1,(writeF E (l.getD i wz).1 (l.getD i wz).2).2,x1) ⟨by omega,hgE.write _ (hW.at i),hmo_x1,by omega,hgo ▸ hlE⟩ (by show l.length - (i + 1) < l.length - i; omega) (Conv.mk kr) (.cons _ (List.Sublist.refl _))
  ·have c1 := (of_decide_eq_false c1r)
   refine Cfg.begL rfl ?_
   refine Lp 4 [dZ,dZ,dZ,(0,false,some (.pointer (some ⟨m.d,0,none⟩)))] (some [30]) (fun S => [(∀ w1,S w1 → w1.cell? ⟨jb,1,none⟩ = some (.pointer (some ⟨m.d,0,none⟩)))]) ⟨(fun w1 h => h.rcell 0 rfl rfl),trivial⟩ ?_
   refine Le (Eff.callH (vs := [.pointer (some ⟨m.d,0,none⟩)]) (fun _ : MX => .int .i64 ((barF E).1)) (dO E m y) (fun y => dO ((barF E).2) m y) (fun y => MapOk y.1 y.2 (wv2 ((barF E).2).wait)) [] [] rfl rfl Tryz.func56 rfl rfl kr (fun w1 h hA hd => dBarrier m y E w1 hgE hmo_y hA hd hst)) ?_
   rintro x2 hmo_x2
   refine Lp 1 [] (some [4]) n0 trivial ?_
   refine CfgL.done rfl ?_
   refine Cfg.ret rfl (rs := [.tmp 4]) rfl [.int .i64 ((barF E).1)] ⟨kr,trivial⟩ (fun w1 hp => ?_)
   have hx : layF D l = barF E := by rw [← hlE,List.drop_eq_nil_of_le om]; rfl
   rw [hx]
   have h9 := hp.sub (List.sublist_append_right _ _)
   rw [List.append_nil] at h9
   exact ⟨x2,hmo_x2,rfl,_,h9⟩
set_option maxRecDepth 100000 in
set_option maxHeartbeats 2000000 in
theorem rLay (r : RM) (D : DK) (la : Option Addr) (cap : Nat) (l : List Wr) (Rl : List (Nat × Obj)) (w : World) (hg : DG D) (hA : Has w (rO (toR D) r)) (hd : ((rO (toR D) r).map (·.1)).Nodup) (hI : InW Rl la l) (hW : WW l) (hl : l.length ≤ 100000) (hs : 0 ≤ D.steps ∧ D.steps ≤ 4611686018427000000) (hR : Has w Rl) (hnr : ∀ e ∈ Rl,e.1 ∉ (rO (toR D) r).map (·.1)) :
  Calls Tryz.prog 55 #[.pointer (some ⟨r.r,0,none⟩),.slice la l.length cap] w fun e w' => e = .returned (.int .i64 (layF D l).1) ∧ ∃ R1,HP w ((rO (toR D) r).map (·.1)) R1 (rO (toR (layF D l).2) r) w' := by
 refine enter (vs := [.pointer (some ⟨r.r,0,none⟩),.slice la l.length cap]) ((rO (toR D) r).map (·.1)) Rl ([] ++ (rO (toR D) r ++ [])) Tryz.func55 rfl kr (by rw [List.append_nil]; exact HP.ofL hA hd hR hnr) ?_
 refine Rg [0,1] [] n0 trivial ?_
 refine Rg [0,8,9,10] [] n0 trivial ?_
 refine Cfg.loop rfl (ι := Nat × DK) (fun (xz : Nat × DK) => match xz with | (i,E) => [(10,[],.int .i64 (i : Int)),(9,[],.int .i64 (l.length : Int)),(8,[],.slice la l.length cap),(0,[],.pointer (some ⟨r.r,0,none⟩))]) (fun (xz : Nat × DK) => match xz with | (i,E) => ([] ++ (rO (toR E) r ++ []))) (fun (xz : Nat × DK) => match xz with | (i,E) => (i ≤ l.length) ∧ (DG E) ∧ (D.steps ≤ E.steps ∧ E.steps ≤ D.steps + (i : Int)) ∧ (layF E (l.drop i) = layF D l)) (fun (xz : Nat × DK) => match xz with | (i,E) => l.length - i) (0,D) ?_ (Conv.mk kr) (List.Sublist.refl _) ?_
 ·exact ⟨Nat.zero_le _,hg,⟨by omega,by omega⟩,by rw [List.drop_zero]⟩
 ·rintro ⟨i,E⟩ ⟨hi,hgE,hsE,hlE⟩
  have hst : 0 ≤ E.steps ∧ E.steps ≤ 4611686018427387904 := by omega
  refine Rg [0,8,9,10,11] [] n0 trivial ?_
  refine Cfg.cond rfl (b := (decide ((i : Int) < (l.length : Int)))) kr (fun c1r => ?_) (fun c1r => ?_)
  ·have c1 := (of_decide_eq_true c1r)
   obtain ⟨sb,off,cs,te,fre,rfl,hmem,hcs⟩ := hI om
   refine Conv.cfg (Γ' := [(11,[],.bool (decide ((i : Int) < (l.length : Int)))),(10,[],.int .i64 (i : Int)),(9,[],.int .i64 (l.length : Int)),(8,[],.slice (some ⟨sb,off,none⟩) l.length cap),(0,[],.pointer (some ⟨r.r,0,none⟩))]) (Conv.mk kr) ?_
   refine Cfg.begL rfl ?_
   refine Lp 2 [dZ,(0,false,some (.agg (jc (l.getD i wz)).toArray))] (some [0,8,9,10,13]) (fun S => [(0 ≤ (i : Int) ∧ (i : Int) < (l.length : Int)),(∀ w1,S w1 → (loadVar 36 ⟨sb,(addO off (i * 513)),none⟩).run Tryz.prog w1 = .ok (.agg (jc (l.getD i wz)).toArray) w1)]) ⟨om,(fun w1 h => load_list Tryz.underlying36 rfl kr (jc_len (hW.at i)) (fun j v hj => by rw [addO_eq]; exact (cell_cells (h.ro _ hmem)).trans (wr_cell hW hcs om hj))),trivial⟩ ?_
   refine Le (Eff.alloc (z := (.agg (jc wz).toArray)) rfl kr) ?_
   rintro wb ⟨hwb,nwb⟩
   refine Le (Eff.storeN (b := wb) (off := 0) (vs := (jc (l.getD i wz)).toArray) (n := 513) rfl kr kr kr (by rw [List.size_toArray,jc_len (hW.at i)]) (jc_all _) 0 (cs := (jc wz).toArray) (e := 36) kr (by show 0 + 513 ≤ (jc wz).toArray.size; rw [List.size_toArray,jc_len zb_len]; decide)) ?_
   rintro ⟨⟩ -
   refine CfgL.setO (congrArg (fun (xq : Array Value) => (([(wb,.cells xq 36 (0,0))] ++ (rO (toR E) r ++ [])) : List (Nat × Obj))) (show _ = ((jc (l.getD i wz)).toArray) from spl_all (by rw [List.size_toArray,List.size_toArray,jc_len (hW.at i)]; exact (jc_len zb_len).symm))) ?_
   refine CfgL.done rfl ?_
   refine Cg (Γ' := [(6,[],.pointer (some ⟨wb,0,none⟩)),(10,[],.int .i64 (i : Int)),(9,[],.int .i64 (l.length : Int)),(8,[],.slice (some ⟨sb,off,none⟩) l.length cap),(0,[],.pointer (some ⟨r.r,0,none⟩))]) ?_
   refine Cfg.begL rfl ?_
   refine Lp 5 [dZ,dZ,(0,false,some (.int .i64 ((l.getD i wz).1))),dZ,(0,false,some (.agg (bv (l.getD i wz).2)))] (some [0,8,9,10,14,16,18]) (fun S => [(∀ w1,S w1 → w1.cell? ⟨wb,0,none⟩ = some (.int .i64 ((l.getD i wz).1))),(∀ w1,S w1 → (loadVar 25 ⟨wb,1,none⟩).run Tryz.prog w1 = .ok (.agg (bv (l.getD i wz).2)) w1)]) ⟨(fun w1 h => h.ocell 0 rfl rfl),(fun w1 h => load_bytes Tryz.underlying25 rfl kr (hW.at i) (fun j hj => by rw [cell_cells (h.own (wb,_) (List.mem_of_getElem? (i := 0) rfl)),List.getElem?_toArray]; exact jc_byte (hW.at i) hj)),trivial⟩ ?_
   refine Le (Eff.callH (vs := [.pointer (some ⟨r.r,0,none⟩),.int .i64 ((l.getD i wz).1),.agg (bv (l.getD i wz).2)]) (fun _ : Unit => .int .i64 ((writeF E ((l.getD i wz).1) ((l.getD i wz).2)).1)) (rO (toR E) r) (fun _ => rO (toR ((writeF E ((l.getD i wz).1) ((l.getD i wz).2)).2)) r) (fun _ => True) [(wb,.cells ((jc (l.getD i wz)).toArray) 36 (0,0))] [] rfl rfl Tryz.func62 rfl rfl kr (fun w1 h hA hd => (by have h9 := rWrite r (toR E) ((l.getD i wz).1) ((l.getD i wz).2) w1 (toR_ok hgE) hA hd (hW.at i) hst; rw [toR_write hgE] at h9; exact h9.mono fun e w2 hx => ⟨(),trivial,hx⟩))) ?_
   rintro ⟨⟩ -
   refine Lp 1 [] (some [0,7,8,9,10]) n0 trivial ?_
   refine CfgL.done rfl ?_
   refine Rg [0,7,8,9,10,21] [] n0 trivial ?_
   refine Cfg.cond rfl (b := (((writeF E ((l.getD i wz).1) ((l.getD i wz).2)).1) != (0 : Int))) kr (fun c2r => ?_) (fun c2r => ?_)
   ·have c2 := (bne_iff_ne.1 c2r)
    refine Rg [4] [] n0 trivial ?_
    refine Cfg.ret rfl (rs := [.tmp 4]) rfl [.int .i64 ((writeF E ((l.getD i wz).1) ((l.getD i wz).2)).1)] ⟨kr,trivial⟩ (fun w1 hp => ?_)
    have hx : layF D l = writeF E (l.getD i wz).1 (l.getD i wz).2 := by rw [← hlE]; exact layF_stop om om
    rw [hx]
    have h9 := hp.sub (List.sublist_append_right _ _)
    rw [List.append_nil] at h9
    exact ⟨rfl,_,h9⟩
   ·have c2 := (bne_eq_false_iff_eq.1 c2r)
    refine Rg [0,8,9,10] [] (fun _ => [((-9223372036854775808 : Int) ≤ ((i : Int) + 1) ∧ ((i : Int) + 1) ≤ 9223372036854775807)]) ⟨om,trivial⟩ ?_
    have hws := writeF_steps E (l.getD i wz).1 (l.getD i wz).2
    have hgo := layF_go (E := E) (l := l) (i := i) om om
    refine Cfg.again rfl (i + 1,(writeF E (l.getD i wz).1 (l.getD i wz).2).2) ⟨by omega,hgE.write _ (hW.at i),by omega,hgo ▸ hlE⟩ (by show l.length - (i + 1) < l.length - i; omega) (Conv.mk kr) (.cons _ (List.Sublist.refl _))
  ·have c1 := (of_decide_eq_false c1r)
   refine Cfg.begL rfl ?_
   refine Lp 1 [] (some [24]) n0 trivial ?_
   refine Le (Eff.callH (vs := [.pointer (some ⟨r.r,0,none⟩)]) (fun _ : Unit => .int .i64 ((barF E).1)) (rO (toR E) r) (fun _ => rO (toR ((barF E).2)) r) (fun _ => True) [] [] rfl rfl Tryz.func57 rfl rfl kr (fun w1 h hA hd => (by have h9 := rBarrier r (toR E) w1 (toR_ok hgE) hA hd hst; rw [toR_bar hgE] at h9; exact h9.mono fun e w2 hx => ⟨(),trivial,hx⟩))) ?_
   rintro ⟨⟩ -
   refine Lp 1 [] (some [4]) n0 trivial ?_
   refine CfgL.done rfl ?_
   refine Cfg.ret rfl (rs := [.tmp 4]) rfl [.int .i64 ((barF E).1)] ⟨kr,trivial⟩ (fun w1 hp => ?_)
   have hx : layF D l = barF E := by rw [← hlE,List.drop_eq_nil_of_le om]; rfl
   rw [hx]
   have h9 := hp.sub (List.sublist_append_right _ _)
   rw [List.append_nil] at h9
   exact ⟨rfl,_,h9⟩
end Go.Proofs.YtohjpggjgomgoaaGreatDoor
namespace Go.Proofs.YtohjpggjgomgoaaGreatDoor
open K
set_option linter.unusedVariables false
theorem lasts_in {D : DK} {i : Nat} (h : i < D.last.length) : lastsF D (i : Int) = D.last.getD i zb := by
 unfold lastsF; rw [if_pos om,Int.toNat_natCast]
theorem enc_get (xs : List Int) : ∀ j,j < xs.length → (xs.map Go.encZ)[j]? = some (Value.int .i64 (xs.getD j 0)) := fun j hj => by
 rw [List.getElem?_map,List.getD_eq_getElem?_getD,List.getElem?_eq_getElem hj]; rfl
theorem own_encs {o : K.Own} {W : Wt} (h : OwnOk o 1 W.length ((keysW W).map Go.encZ)) : InS (o.o 3 ((keysW W).map Go.encZ)) o.a (keysW W).length (fun j => .int .i64 ((keysW W).getD j 0)) := by
 have h1 := own_ins (e := 3) (f := fun j => .int .i64 ((keysW W).getD j 0)) h (fun j hj => enc_get _ j (by rw [keysW_len]; exact hj))
 rw [keysW_len]; exact h1
set_option maxRecDepth 100000 in
theorem eqInts (la lb : Option Addr) (ca cb : Nat) (xs : List Int) (Rl : List (Nat × Obj)) (w : World) (hIa : InS Rl la xs.length (fun j => .int .i64 (xs.getD j 0))) (hIb : InS Rl lb xs.length (fun j => .int .i64 (xs.getD j 0))) (hR : Has w Rl) (hn : xs.length ≤ 9223372036854775807) :
  Calls Tryz.prog 69 #[.slice la xs.length ca,.slice lb xs.length cb] w fun e w' => e = .returned (.bool true) ∧ Ext [] w w' := by
 refine enter (vs := [.slice la xs.length ca,.slice lb xs.length cb]) [] Rl [] Tryz.func69 rfl kr (HP.ofHas hR) ?_
 refine Rg [0,1] [] n0 trivial ?_
 refine Rg [0,1,10] [] n0 trivial ?_
 refine Cfg.condF rfl (b := ((xs.length : Int) != (xs.length : Int))) kr (bne_self_eq_false _) ?_
 refine Rg [0,1,12,13] [] n0 trivial ?_
 refine Cfg.loop rfl (ι := Nat) (fun (i : Nat) => [(13,[],.int .i64 (i : Int)),(12,[],.int .i64 (xs.length : Int)),(0,[],.slice la xs.length ca),(1,[],.slice lb xs.length cb)]) (fun (i : Nat) => []) (fun (i : Nat) => (i ≤ xs.length)) (fun (i : Nat) => xs.length - i) 0 ?_ (Conv.mk kr) .slnil ?_
 ·exact Nat.zero_le _
 ·rintro i hi
  refine Rg [0,1,12,13,14] [] n0 trivial ?_
  refine Cfg.cond rfl (b := (decide ((i : Int) < (xs.length : Int)))) kr (fun c2r => ?_) (fun c2r => ?_)
  ·have c2 := (of_decide_eq_true c2r)
   refine Rg [0,1,5,12,13] [] n0 trivial ?_
   obtain ⟨sa,offa,csa,tea,frea,rfl,hma,hca⟩ := hIa om
   obtain ⟨sb,offb,csb,teb,freb,rfl,hmb,hcb⟩ := hIb om
   refine Conv.cfg (Γ' := [(5,[],.int .i64 (i : Int)),(13,[],.int .i64 (i : Int)),(12,[],.int .i64 (xs.length : Int)),(0,[],.slice (some ⟨sa,offa,none⟩) xs.length ca),(1,[],.slice (some ⟨sb,offb,none⟩) xs.length cb)]) (Conv.mk kr) ?_
   refine Cfg.regD rfl kr [0,1,12,13,24] [dZ,dZ,dZ,(0,false,some (.int .i64 (xs.getD i 0))),dZ,dZ,dZ,(0,false,some (.int .i64 (xs.getD i 0)))] (Γ' := [(24,[],.bool ((xs.getD i 0) != (xs.getD i 0))),(13,[],.int .i64 (i : Int)),(12,[],.int .i64 (xs.length : Int)),(0,[],.slice (some ⟨sa,offa,none⟩) xs.length ca),(1,[],.slice (some ⟨sb,offb,none⟩) xs.length cb)]) (nd := (fun S => [(0 ≤ (i : Int) ∧ (i : Int) < (xs.length : Int)),(∀ w1,S w1 → w1.cell? ⟨sa,(addO offa i),none⟩ = some (.int .i64 (xs.getD i 0))),(0 ≤ (i : Int) ∧ (i : Int) < (xs.length : Int)),(∀ w1,S w1 → w1.cell? ⟨sb,(addO offb i),none⟩ = some (.int .i64 (xs.getD i 0)))])) kr kr (fun _ => kr) ⟨om,(fun w1 h => by rw [addO_eq]; exact (cell_cells (h.ro _ hma)).trans (hca i om)),om,(fun w1 h => by rw [addO_eq]; exact (cell_cells (h.ro _ hmb)).trans (hcb i om)),trivial⟩ ?_
   refine Cfg.condF rfl (b := ((xs.getD i 0) != (xs.getD i 0))) kr (bne_self_eq_false _) ?_
   refine Rg [0,1,12,13] [] (fun _ => [((-9223372036854775808 : Int) ≤ ((i : Int) + 1) ∧ ((i : Int) + 1) ≤ 9223372036854775807)]) ⟨om,trivial⟩ ?_
   refine Cfg.again rfl (i + 1) (show i + 1 ≤ xs.length by omega) om (Conv.mk kr) .slnil
  ·have c2 := (of_decide_eq_false c2r)
   refine Rg [4] [] n0 trivial ?_
   refine Cfg.ret rfl (rs := [.tmp 4]) rfl [.bool true] ⟨kr,trivial⟩ (fun w1 hp => ?_)
   exact ⟨rfl,hp.ext⟩
set_option maxRecDepth 100000 in
theorem dSame (m : DM) (r : RM) (x : MX) (D : DK) (w : World) (hg : DG D) (hmo : MapOk x.1 x.2 (wv2 D.wait)) (hR : Has w (dO D m x ++ rO (toR D) r)) :
  Calls Tryz.prog 25 #[.pointer (some ⟨m.d,0,none⟩),.pointer (some ⟨r.r,0,none⟩)] w fun e w' => e = .returned (.bool true) ∧ Ext [] w w' := by
 have hn := hg.n
 have hwn := hg.wn
 refine enter (vs := [.pointer (some ⟨m.d,0,none⟩),.pointer (some ⟨r.r,0,none⟩)]) [] [(m.d,.cells #[.int .i64 D.fuse,.int .i64 D.steps,.bool D.down,.slice (some ⟨m.lb,0,none⟩) D.last.length D.last.length,.map (some m.mb)] 117 (0,0)),(m.lb,.cells ((rows D.last).toArray) 25 (0,0)),(m.mb,.map x.1 x.2),(r.r,.cells #[.slice (some ⟨r.sb,0,none⟩) (toR D).shown.length (toR D).shown.length,.slice (some ⟨r.lb,0,none⟩) D.last.length D.last.length,.slice (some ⟨r.wb,0,none⟩) (toR D).waits.length (toR D).waits.length,.int .i64 D.steps,.int .i64 D.fuse,.bool D.down] 72 (0,0)),(r.sb,.cells ((rows (toR D).shown).toArray) 25 (0,0)),(r.lb,.cells ((rows D.last).toArray) 25 (0,0)),(r.wb,.cells ((rb (toR D).waits).toArray) 4 (0,0))] [] Tryz.func25 rfl kr (HP.ofHas hR) ?_
 refine Rg [0,1] [] n0 trivial ?_
 refine Rg [0,1,14,15] [dZ,dZ,dZ,(0,false,some (.slice (some ⟨r.lb,0,none⟩) D.last.length D.last.length))] (fun S => [(∀ w1,S w1 → w1.cell? ⟨r.r,1,none⟩ = some (.slice (some ⟨r.lb,0,none⟩) D.last.length D.last.length))]) ⟨(fun w1 h => h.rcell 3 rfl rfl),trivial⟩ ?_
 refine Cfg.loop rfl (ι := Nat) (fun (i : Nat) => [(15,[],.int .i64 (i : Int)),(14,[],.int .i64 (D.last.length : Int)),(0,[],.pointer (some ⟨m.d,0,none⟩)),(1,[],.pointer (some ⟨r.r,0,none⟩))]) (fun (i : Nat) => []) (fun (i : Nat) => (i ≤ D.last.length)) (fun (i : Nat) => D.last.length - i) 0 ?_ (Conv.mk kr) .slnil ?_
 ·exact Nat.zero_le _
 ·rintro i hi
  refine Rg [0,1,14,15,16] [] n0 trivial ?_
  refine Cfg.cond rfl (b := (decide ((i : Int) < (D.last.length : Int)))) kr (fun c1r => ?_) (fun c1r => ?_)
  ·have c1 := (of_decide_eq_true c1r)
   refine Rg [0,1,5,14,15] [] n0 trivial ?_
   refine Cfg.begL rfl ?_
   refine Lp 2 [] none n0 trivial ?_
   refine Le (Eff.callA (vs := [.pointer (some ⟨m.d,0,none⟩),.int .i64 (i : Int)]) (.tuple #[.agg (bv (readF D (i : Int))),.int .i64 (fltF D (i : Int))]) rfl Tryz.func50 rfl rfl kr (fun w1 h => dRead m x D (i : Int) w1 hg hmo (h.hasR (fun e he => List.mem_append_left (rO (toR D) r) he)))) ?_
   rintro ⟨⟩ -
   refine Lp 3 [] (some [0,1,5,14,15,22,23]) n0 trivial ?_
   refine Le (Eff.alloc (z := (.agg (bv (List.replicate 512 0)))) rfl kr) ?_
   rintro b1 ⟨hb1,nb1⟩
   refine Le (Eff.storeN (b := b1) (off := 0) (vs := (bv (readF D (i : Int)))) (n := 512) rfl kr kr kr ((bv_size _).trans (readF_len hg _)) (all_bv _) 0 (cs := (bv (List.replicate 512 0))) (e := 25) kr (by rw [zsz512]; omega)) ?_
   rintro ⟨⟩ -
   refine CfgL.setO (congrArg (fun (xq : Array Value) => ([(b1,.cells xq 25 (0,0))] : List (Nat × Obj))) (show _ = (bv (readF D (i : Int))) from spl_all (((bv_size _).trans (readF_len hg _)).trans zsz512.symm))) ?_
   refine Lp 1 [] (some [0,1,5,6,7,14,15]) n0 trivial ?_
   refine CfgL.done rfl ?_
   refine Cfg.begL rfl ?_
   refine CfgL.pure 2 [] none (Γ' := [(26,[],.int .i64 (i : Int)),(25,[],.pointer (some ⟨r.r,0,none⟩)),(7,[],.int .i64 (fltF D (i : Int))),(6,[],.pointer (some ⟨b1,0,none⟩)),(5,[],.int .i64 (i : Int)),(15,[],.int .i64 (i : Int)),(14,[],.int .i64 (D.last.length : Int)),(0,[],.pointer (some ⟨m.d,0,none⟩)),(1,[],.pointer (some ⟨r.r,0,none⟩))]) (nd := (fun _ => [])) kr (fun _ => kr) trivial ?_
   refine Le (Eff.callA (vs := [.pointer (some ⟨r.r,0,none⟩),.int .i64 (i : Int)]) (.tuple #[.agg (bv (readF D (i : Int))),.int .i64 (fltF D (i : Int))]) rfl Tryz.func24 rfl rfl kr (fun w1 h => (by have h9 := rRead r (toR D) (i : Int) w1 (toR_ok hg) (h.hasR (fun e he => List.mem_append_right (dO D m x) he)); rw [toR_readE,toR_readB] at h9; exact h9))) ?_
   rintro ⟨⟩ -
   refine Lp 3 [] (some [0,1,5,6,7,14,15,28,29]) n0 trivial ?_
   refine Le (Eff.alloc (z := (.agg (bv (List.replicate 512 0)))) rfl kr) ?_
   rintro b2 ⟨hb2,nb2⟩
   refine Le (Eff.storeN (b := b2) (off := 0) (vs := (bv (readF D (i : Int)))) (n := 512) rfl kr kr kr ((bv_size _).trans (readF_len hg _)) (all_bv _) 0 (cs := (bv (List.replicate 512 0))) (e := 25) kr (by rw [zsz512]; omega)) ?_
   rintro ⟨⟩ -
   refine CfgL.setO (congrArg (fun (xq : Array Value) => ([(b2,.cells xq 25 (0,0)),(b1,.cells (bv (readF D (i : Int))) 25 (0,0))] : List (Nat × Obj))) (show _ = (bv (readF D (i : Int))) from spl_all (((bv_size _).trans (readF_len hg _)).trans zsz512.symm))) ?_
   refine Lp 1 [] (some [0,1,5,6,7,8,9,14,15]) n0 trivial ?_
   refine CfgL.done rfl ?_
   refine Cfg.begA rfl kr [(b2,.cells (bv (readF D (i : Int))) 25 (0,0)),(b1,.cells (bv (readF D (i : Int))) 25 (0,0))] ?_
   refine Ap [0,1,3,4,5,6,7,8,9] [dZ,dZ,dZ,dZ,dZ,(0,false,some (.slice (some ⟨r.lb,0,none⟩) D.last.length D.last.length)),dZ,dZ,(0,false,some (.agg (bv (D.last.getD i zb))))] (some [0,1,6,7,8,9,14,15,30,31,39]) #[true,true,false,true,true,true,true,true,true,true,false,false,false,false,false,false,false,false,false,false,false] (.cons_cons _ (.cons_cons _ .slnil)) 12 (fun S => [(∀ w1,S w1 → w1.cell? ⟨r.r,1,none⟩ = some (.slice (some ⟨r.lb,0,none⟩) D.last.length D.last.length)),(0 ≤ (i : Int) ∧ (i : Int) < (D.last.length : Int)),(∀ w1,S w1 → (loadVar 25 ⟨r.lb,(i * 512),none⟩).run Tryz.prog w1 = .ok (.agg (bv (D.last.getD i zb))) w1)]) ⟨(fun w1 h => h.rcell 3 rfl rfl),om,(fun w1 h => load_bytes Tryz.underlying25 rfl kr (hg.w.at' _) (fun j hj => sect_cell (n := 0) hg.w (h.ro _ (List.mem_of_getElem? (i := 5) rfl)) rfl (by first | omega | (rw [List.length_set]; omega)) j hj)),trivial⟩ ?_
   refine Ae 2 rfl 11  (Eff.callA (vs := [.pointer (some ⟨m.d,0,none⟩),.int .i64 (i : Int)]) (.agg (bv (D.last.getD i zb))) rfl Tryz.func29 rfl rfl kr (fun w1 h => (by have h9 := dLasts m x D (i : Int) w1 hg hmo (h.hasR (fun e he => List.mem_append_left (rO (toR D) r) he)); rw [lasts_in om] at h9; exact h9))) (fun _ _ => (.cons_cons _ (.cons_cons _ .slnil))) ?_
   rintro ⟨⟩ -
   refine Ap [10,11,12,13,14,15,16,17,18,19,20] [(0,false,some (.bool true)),dZ,(1,false,some (.agg (bv (readF D (i : Int))))),(1,false,some (.agg (bv (readF D (i : Int))))),(1,false,some (.bool true)),dZ,dZ,(1,false,none),(1,false,none),(1,false,none)] (some [0,1,14,15,50]) #[true,true,true,true,true,true,true,true,true,true,true,true,true,true,true,true,true,true,true,true,true] (.cons_cons _ (.cons_cons _ .slnil)) 0 (fun S => [(∀ w1,S w1 → (Op.equal 25 (.agg (bv (D.last.getD i zb))) (.agg (bv (D.last.getD i zb)))).run Tryz.prog w1 = .ok true w1),((.bool false : Value) = .bool false),(∀ w1,S w1 → (loadVar 25 ⟨b1,0,none⟩).run Tryz.prog w1 = .ok (.agg (bv (readF D (i : Int)))) w1),((.bool false : Value) = .bool false),(∀ w1,S w1 → (loadVar 25 ⟨b2,0,none⟩).run Tryz.prog w1 = .ok (.agg (bv (readF D (i : Int)))) w1),((.bool false : Value) = .bool false),(∀ w1,S w1 → (Op.equal 25 (.agg (bv (readF D (i : Int)))) (.agg (bv (readF D (i : Int))))).run Tryz.prog w1 = .ok true w1),((.bool false : Value) = .bool false),((.bool false : Value) = .bool false),((.bool false : Value) = .bool false)]) ⟨(fun _ _ => (equal_bv Tryz.underlying25 Tryz.underlying5 kr (hg.w.at' _) (hg.w.at' _)).trans (by rw [beq_self_eq_true])),rfl,(fun w1 h => h.oload 1 rfl Tryz.underlying25 rfl (n := 512) kr ((bv_size _).trans (readF_len hg _))),rfl,(fun w1 h => h.oload 0 rfl Tryz.underlying25 rfl (n := 512) kr ((bv_size _).trans (readF_len hg _))),rfl,(fun _ _ => (equal_bv Tryz.underlying25 Tryz.underlying5 kr (readF_len hg _) (readF_len hg _)).trans (by rw [beq_self_eq_true])),rfl,rfl,rfl,trivial⟩ ?_
   refine CfgA.done kr ?_
   refine Cfg.condF rfl (b := ((fltF D (i : Int)) != (fltF D (i : Int)))) kr (bne_self_eq_false _) ?_
   refine Rg [0,1,14,15] [] (fun _ => [((-9223372036854775808 : Int) ≤ ((i : Int) + 1) ∧ ((i : Int) + 1) ≤ 9223372036854775807)]) ⟨om,trivial⟩ ?_
   refine Cfg.again rfl (i + 1) (show i + 1 ≤ D.last.length by omega) om (Conv.mk kr) (.cons _ (.cons _ .slnil))
  ·have c1 := (of_decide_eq_false c1r)
   refine Cfg.begA rfl kr [] ?_
   refine Ap [0,2,3,4,5,6] [dZ,dZ,dZ,dZ,(0,false,some (.slice (some ⟨r.lb,0,none⟩) D.last.length D.last.length))] (some [0,1,52,58]) #[true,false,true,true,true,true,true,false,false,false,false,false,false,false,false,false,false,false,false,false,false,false,false,false,false,false,false,false,false,false,false,false,false,false] .slnil 28 (fun S => [(∀ w1,S w1 → w1.cell? ⟨r.r,1,none⟩ = some (.slice (some ⟨r.lb,0,none⟩) D.last.length D.last.length))]) ⟨(fun w1 h => h.rcell 3 rfl rfl),trivial⟩ ?_
   refine Ae 1 rfl 27  (Eff.callA (vs := [.pointer (some ⟨m.d,0,none⟩)]) (.int .i64 (D.last.length : Int)) rfl Tryz.func51 rfl rfl kr (fun w1 h => dSectors m x D w1 (h.hasR (fun e he => List.mem_append_left (rO (toR D) r) he)))) (fun _ _ => List.nil_sublist _) ?_
   rintro ⟨⟩ -
   refine Ap [7,8] [] (some [0,1,60]) #[true,true,true,true,true,true,true,true,true,false,false,false,false,false,false,false,false,false,false,false,false,false,false,false,false,false,false,false,false,false,false,false,false,false] .slnil 25 n0 trivial ?_
   refine CfgA.known 60 (b := ((D.last.length : Int) == (D.last.length : Int))) kr true (beq_self_eq_true _) ?_
   refine CfgA.pure [9,11,12,13,14] [(1,false,none),(1,false,none),(1,false,none),(1,false,none),(1,false,some (.bool D.down))] (some [0,1,60,61,66]) (l' := #[true,true,true,true,true,true,true,true,true,true,false,true,true,true,true,false,false,false,false,false,false,false,false,false,false,false,false,false,false,false,false,false,false,false]) kr kr .slnil 20 rfl (Γ' := [(66,[],.bool D.down),(61,[],.pointer (some ⟨m.d,0,none⟩)),(60,[],.bool true),(0,[],.pointer (some ⟨m.d,0,none⟩)),(1,[],.pointer (some ⟨r.r,0,none⟩))]) (nd := (fun S => [((.bool true : Value) = .bool true),((.bool true : Value) = .bool true),((.bool true : Value) = .bool true),((.bool true : Value) = .bool true),((.bool true : Value) = .bool true),(∀ w1,S w1 → w1.cell? ⟨r.r,5,none⟩ = some (.bool D.down))])) (fun _ => kr) ⟨rfl,rfl,rfl,rfl,rfl,(fun w1 h => h.rcell 3 rfl rfl),trivial⟩ ?_
   refine Ae 10 rfl 19  (Eff.callA (vs := [.pointer (some ⟨m.d,0,none⟩)]) (.bool D.down) rfl Tryz.func68 rfl rfl kr (fun w1 h => dDown m x D w1 (h.hasR (fun e he => List.mem_append_left (rO (toR D) r) he)))) (fun _ _ => List.nil_sublist _) ?_
   rintro ⟨⟩ -
   refine Ap [15,16,17] [(1,false,none)] (some [0,1,69]) #[true,true,true,true,true,true,true,true,true,true,true,true,true,true,true,true,true,true,false,false,false,false,false,false,false,false,false,false,false,false,false,false,false,false] .slnil 16 (fun _ => [((.bool true : Value) = .bool true)]) ⟨rfl,trivial⟩ ?_
   refine CfgA.known 69 (b := (D.down == D.down)) kr true (beq_self_eq_true _) ?_
   refine Ap [18,20,21,22,23] [(1,false,none),(1,false,none),(1,false,none),(1,false,none),(1,false,some (.int .i64 D.steps))] (some [0,1,69,70,75]) #[true,true,true,true,true,true,true,true,true,true,true,true,true,true,true,true,true,true,true,false,true,true,true,true,false,false,false,false,false,false,false,false,false,false] .slnil 11 (fun S => [((.bool true : Value) = .bool true),((.bool true : Value) = .bool true),((.bool true : Value) = .bool true),((.bool true : Value) = .bool true),((.bool true : Value) = .bool true),(∀ w1,S w1 → w1.cell? ⟨r.r,3,none⟩ = some (.int .i64 D.steps))]) ⟨rfl,rfl,rfl,rfl,rfl,(fun w1 h => h.rcell 3 rfl rfl),trivial⟩ ?_
   refine Ae 19 rfl 10  (Eff.callA (vs := [.pointer (some ⟨m.d,0,none⟩)]) (.int .i64 D.steps) rfl Tryz.func28 rfl rfl kr (fun w1 h => dSteps m x D w1 (h.hasR (fun e he => List.mem_append_left (rO (toR D) r) he)))) (fun _ _ => List.nil_sublist _) ?_
   rintro ⟨⟩ -
   refine Ap [24,25,26] [(1,false,none)] (some [0,1,78]) #[true,true,true,true,true,true,true,true,true,true,true,true,true,true,true,true,true,true,true,true,true,true,true,true,true,true,true,false,false,false,false,false,false,false] .slnil 7 (fun _ => [((.bool true : Value) = .bool true)]) ⟨rfl,trivial⟩ ?_
   refine CfgA.known 78 (b := (D.steps == D.steps)) kr true (beq_self_eq_true _) ?_
   refine Ap [27,29] [(1,false,none),(1,false,none)] (some [78,79,81]) #[true,true,true,true,true,true,true,true,true,true,true,true,true,true,true,true,true,true,true,true,true,true,true,true,true,true,true,true,false,true,false,false,false,false] .slnil 5 (fun _ => [((.bool true : Value) = .bool true),((.bool true : Value) = .bool true)]) ⟨rfl,rfl,trivial⟩ ?_
   refine Ae 28 rfl 4  (Eff.callOF (vs := [.pointer (some ⟨m.d,0,none⟩)]) 3 1 D.wait.length ((keysW D.wait).map Go.encZ) [] [] rfl rfl Tryz.func70 rfl rfl kr (fun w1 h => dWaits m x D w1 hg hmo (h.hasR (fun e he => List.mem_append_left (rO (toR D) r) he)))) (fun _ _ => List.nil_sublist _) ?_
   rintro o1 ko1
   refine Ae 30 rfl 3  (Eff.callOF (vs := [.pointer (some ⟨r.r,0,none⟩)]) 3 1 D.wait.length ((keysW D.wait).map Go.encZ) [] ([] ++ (Own.o 3 ((keysW D.wait).map Go.encZ) o1 ++ [])) rfl rfl Tryz.func71 rfl rfl kr (fun w1 h => (by have h9 := rList r (toR D) w1 (toR_ok hg) (h.hasR (fun e he => List.mem_append_right (dO D m x) he)); rw [toR_list hg,keysW_len] at h9; exact h9))) (fun _ _ => List.nil_sublist _) ?_
   rintro o2 ko2
   refine Ae 31 rfl 2  (Eff.callA (vs := [.slice (Own.a o1) D.wait.length (Own.c o1),.slice (Own.a o2) D.wait.length (Own.c o2)]) (.bool true) rfl Tryz.func69 rfl rfl kr (fun w1 h => (by have h9 := eqInts (Own.a o1) (Own.a o2) (Own.c o1) (Own.c o2) (keysW D.wait) (Own.o 3 ((keysW D.wait).map Go.encZ) o1 ++ Own.o 3 ((keysW D.wait).map Go.encZ) o2) w1 ((own_encs ko1).mono (fun e he => List.mem_append_left _ he)) ((own_encs ko2).mono (fun e he => List.mem_append_right _ he)) (h.has (fun e he => by rcases List.mem_append.1 he with he | he; exact (show e ∈ ([] ++ (Own.o 3 ((keysW D.wait).map Go.encZ) o2 ++ (Own.o 3 ((keysW D.wait).map Go.encZ) o1 ++ []))) from List.mem_append_right [] (List.mem_append_right (Own.o 3 ((keysW D.wait).map Go.encZ) o2) (List.mem_append_left _ he))); exact (show e ∈ ([] ++ (Own.o 3 ((keysW D.wait).map Go.encZ) o2 ++ (Own.o 3 ((keysW D.wait).map Go.encZ) o1 ++ []))) from List.mem_append_right [] (List.mem_append_left _ he)))) (by rw [keysW_len]; omega); rw [keysW_len] at h9; exact h9))) (fun _ _ => List.nil_sublist _) ?_
   rintro ⟨⟩ -
   refine Ap [32,33] [] (some [4]) #[true,true,true,true,true,true,true,true,true,true,true,true,true,true,true,true,true,true,true,true,true,true,true,true,true,true,true,true,true,true,true,true,true,true] (List.nil_sublist _) 0 n0 trivial ?_
   refine CfgA.done kr ?_
   refine Cfg.ret rfl (rs := [.tmp 4]) rfl [.bool true] ⟨kr,trivial⟩ (fun w1 hp => ?_)
   exact ⟨by simp [resOf],hp.ext⟩
end Go.Proofs.YtohjpggjgomgoaaGreatDoor
namespace Go.Proofs.YtohjpggjgomgoaaGreatDoor
open K
set_option linter.unusedVariables false
def bk1 (b : UInt8) : List UInt8 := b :: List.replicate 511 0
theorem bk1_len (b : UInt8) : (bk1 b).length = 512 := by rw [bk1,List.length_cons,List.length_replicate]
def aDk (s : Int) (l : List (List UInt8)) (W : Wt) : DK := { fuse := -1,steps := s,down := false,last := l,wait := W }
theorem keys1 (q : Int) (b : List UInt8) : keysW [(q,b)] = [q] := by unfold keysW srt wv2; simp
theorem keys0 : keysW [] = [] := by unfold keysW srt wv2; simp
theorem aw_write (s : Int) (l : List (List UInt8)) (b : List UInt8) (h : 64 ≤ l.length) : writeF (aDk s l []) 5 b = (0,aDk (s + 1) l [(5,b)]) := by
 have h0 : fltF (aDk s l []) 5 = 0 := by
  unfold fltF
  rw [if_neg (by show ¬ (false = true); decide),if_pos]
  show (0 : Int) ≤ 5 ∧ (5 : Int) < (l.length : Int)
  omega
 have h1 : spF (aDk s l []) = (true,aDk (s + 1) l []) := rfl
 unfold writeF
 rw [if_neg (by rw [h0]; decide),h1]; rfl
theorem aw_crash (s : Int) (l : List (List UInt8)) (b : List UInt8) : crashF [] (aDk s l [(5,b)]) = aDk s l [] := by
 unfold crashF settleF
 show ({ fuse := -1,steps := s,down := false,last := setl _ _ 0 (keysW [(5,b)]) l,wait := [] } : DK) = _
 rw [keys1]; rfl
theorem aw_crash0 (s : Int) (l : List (List UInt8)) : crashF [] (aDk s l []) = aDk s l [] := by
 unfold crashF settleF
 show ({ fuse := -1,steps := s,down := false,last := setl _ _ 0 (keysW []) l,wait := [] } : DK) = _
 rw [keys0]; rfl
theorem aw_bar (s : Int) (l : List (List UInt8)) (b : List UInt8) : barF (aDk s l [(5,b)]) = (0,aDk (s + 1) (l.set 5 b) []) := by
 have h1 : spF (aDk s l [(5,b)]) = (true,aDk (s + 1) l [(5,b)]) := rfl
 unfold barF
 rw [h1]
 show ((0 : Int),({ fuse := -1,steps := s + 1,down := false,last := setl _ _ 0 (keysW [(5,b)]) l,wait := [] } : DK)) = _
 rw [keys1]; rfl
theorem aw_read (s : Int) (l : List (List UInt8)) (W : Wt) (h : 64 ≤ l.length) : readF (aDk s l W) 5 = shown (aDk s l W) 5 ∧ fltF (aDk s l W) 5 = 0 := by
 have h0 : fltF (aDk s l W) 5 = 0 := by
  unfold fltF
  rw [if_neg (by show ¬ (false = true); decide),if_pos]
  show (0 : Int) ≤ 5 ∧ (5 : Int) < (l.length : Int)
  omega
 exact ⟨if_pos h0,h0⟩
def l64 : List (List UInt8) := List.replicate 64 zb
theorem l64_len : l64.length = 64 := List.length_replicate
theorem aG0 : DG (aDk 0 l64 []) := DG.new (n := 64) (by decide)
theorem aG1 : DG (aDk 1 l64 [(5,bk1 1)]) := by have h := aG0.write 5 (bk1_len 1); rw [aw_write _ _ _ (by rw [l64_len]; decide)] at h; exact h
theorem aG2 : DG (aDk 1 l64 []) := by have h := aG1.crash []; rw [aw_crash] at h; exact h
theorem aG3 : DG (aDk 2 l64 [(5,bk1 2)]) := by have h := aG2.write 5 (bk1_len 2); rw [aw_write _ _ _ (by rw [l64_len]; decide)] at h; exact h
theorem aG4 : DG (aDk 3 (l64.set 5 (bk1 2)) []) := by have h := aG3.bar; rw [aw_bar] at h; exact h
theorem aR1 : readF (aDk 1 l64 [(5,bk1 1)]) 5 = bk1 1 := (aw_read _ _ _ (by rw [l64_len]; decide)).1
theorem aR2 : readF (aDk 1 l64 []) 5 = zb := (aw_read _ _ _ (by rw [l64_len]; decide)).1
theorem aF1 : fltF (aDk 1 l64 [(5,bk1 1)]) 5 = 0 := (aw_read _ _ _ (by rw [l64_len]; decide)).2
theorem aF2 : fltF (aDk 1 l64 []) 5 = 0 := (aw_read _ _ _ (by rw [l64_len]; decide)).2
theorem aL4 : lastsF (aDk 3 (l64.set 5 (bk1 2)) []) 5 = bk1 2 := by
 unfold lastsF
 rw [if_pos (by show (0 : Int) ≤ 5 ∧ (5 : Int) < ((l64.set 5 (bk1 2)).length : Int); rw [List.length_set,l64_len]; decide)]; rfl
set_option maxRecDepth 100000 in
theorem dAwake (w : World) :
  Calls Tryz.prog 73 #[] w fun e w' => e = .returned (.bool true) ∧ Ext [] w w' := by
 refine enter (vs := []) [] [] [] Tryz.func73 rfl kr (HP.start w) ?_
 refine Rg [] [] n0 trivial ?_
 refine Cfg.begL rfl ?_
 refine Le (Eff.callH (vs := [.int .i64 64]) (fun y : DM × MX => .tuple #[.pointer (some ⟨y.1.d,0,none⟩),.int .i64 0]) [] (fun y => dO (aDk 0 l64 []) y.1 y.2) (fun y => MapOk y.2.1 y.2.2 []) [] [] rfl rfl Tryz.func13 rfl rfl kr (fun w1 h _ _ => dNew 64 w1 om)) ?_
 rintro ⟨m,x⟩ hmo
 refine Lp 5 [] (some [1,2]) n0 trivial ?_
 refine CfgL.done rfl ?_
 refine Rg [1,19] [dZ,dZ,dZ,(1,false,none),(1,false,none)] (fun _ => [((.bool false : Value) = .bool false),((.bool false : Value) = .bool false)]) ⟨rfl,rfl,trivial⟩ ?_
 refine Cfg.condF rfl (b := false) kr rfl ?_
 refine Cfg.begL rfl ?_
 refine Lp 2 [dZ,(0,false,some (.agg (bv (bk1 1))))] (some [1,20,21]) (fun S => [(∀ w1,S w1 → (Instr.build 25 #[(0,.int .u8 1)]).run Tryz.prog w1 = .ok (.agg (bv (bk1 1))) w1)]) ⟨(fun _ _ => kr),trivial⟩ ?_
 refine Le (Eff.callH (vs := [.pointer (some ⟨m.d,0,none⟩),.int .i64 5,.agg (bv (bk1 1))]) (fun _ : MX => .int .i64 0) (dO (aDk 0 l64 []) m x) (fun y => dO (aDk 1 l64 [(5,bk1 1)]) m y) (fun y => MapOk y.1 y.2 (wv2 (aDk 1 l64 [(5,bk1 1)]).wait)) [] [] rfl rfl Tryz.func61 rfl rfl kr (fun w1 h hA hd => (by have h9 := dWrite m x (aDk 0 l64 []) 5 (bk1 1) w1 aG0 hmo hA hd (bk1_len _) (by decide); rw [aw_write _ _ _ (by rw [l64_len]; decide)] at h9; exact h9))) ?_
 rintro x1 hmo_x1
 refine Lp 1 [] (some [1,3]) n0 trivial ?_
 refine CfgL.done rfl ?_
 refine Cfg.begL rfl ?_
 refine Lp 1 [] none n0 trivial ?_
 refine Le (Eff.callA (vs := [.pointer (some ⟨m.d,0,none⟩),.int .i64 5]) (.tuple #[.agg (bv (bk1 1)),.int .i64 0]) rfl Tryz.func50 rfl rfl kr (fun w1 h => (by have h9 := dRead m x1 (aDk 1 l64 [(5,bk1 1)]) 5 w1 aG1 hmo_x1 (mem_has h (List.Sublist.trans (List.sublist_append_left (dO (aDk 1 l64 [(5,bk1 1)]) m x1) _) (List.sublist_append_right [] _))); rw [aR1,aF1] at h9; exact h9))) ?_
 rintro ⟨⟩ -
 refine Lp 3 [] (some [1,3,26,27]) n0 trivial ?_
 refine Le (Eff.alloc (z := (.agg (bv (List.replicate 512 0)))) rfl kr) ?_
 rintro b1 ⟨hb1,nb1⟩
 refine Le (Eff.storeN (b := b1) (off := 0) (vs := (bv (bk1 1))) (n := 512) rfl kr kr kr ((bv_size _).trans (bk1_len _)) (all_bv _) 0 (cs := (bv (List.replicate 512 0))) (e := 25) kr (by rw [zsz512]; omega)) ?_
 rintro ⟨⟩ -
 refine CfgL.setO (congrArg (fun (xq : Array Value) => (([(b1,.cells xq 25 (0,0))] ++ (dO (aDk 1 l64 [(5,bk1 1)]) m x1 ++ [])) : List (Nat × Obj))) (show _ = (bv (bk1 1)) from spl_all (((bv_size _).trans (bk1_len _)).trans zsz512.symm))) ?_
 refine CfgL.pure 1 [] (some [1,3,4,5]) (Γ' := [(5,[],.int .i64 0),(4,[],.pointer (some ⟨b1,0,none⟩)),(3,[],.int .i64 0),(1,[],.pointer (some ⟨m.d,0,none⟩))]) (nd := (fun _ => [])) kr (fun _ => kr) trivial ?_
 refine CfgL.done rfl ?_
 refine Cfg.begL rfl ?_
 refine Lp 1 [] none n0 trivial ?_
 refine Le (Eff.callH (vs := [.pointer (some ⟨m.d,0,none⟩),.slice none 0 0]) (fun _ : MX => .tuple #[]) (dO (aDk 1 l64 [(5,bk1 1)]) m x1) (fun y => dO (aDk 1 l64 []) m y) (fun y => MapOk y.1 y.2 (wv2 (aDk 1 l64 []).wait)) [(b1,.cells (bv (bk1 1)) 25 (0,0))] [] rfl rfl Tryz.func59 rfl rfl kr (fun w1 h hA hd => (by have h9 := dCrash m x1 (aDk 1 l64 [(5,bk1 1)]) none 0 [] [] w1 aG1 hmo_x1 hA hd (fun h => absurd h (by simp)) (Nat.zero_le _) (fun e he => by cases he) (fun e he => by cases he); rw [aw_crash] at h9; exact h9))) ?_
 rintro x2 hmo_x2
 refine CfgL.done rfl ?_
 refine Cg (Γ' := [(5,[],.int .i64 0),(4,[],.pointer (some ⟨b1,0,none⟩)),(3,[],.int .i64 0),(1,[],.pointer (some ⟨m.d,0,none⟩))]) ?_
 refine Cfg.begL rfl ?_
 refine Lp 1 [] none n0 trivial ?_
 refine Le (Eff.callA (vs := [.pointer (some ⟨m.d,0,none⟩),.int .i64 5]) (.tuple #[.agg (bv zb),.int .i64 0]) rfl Tryz.func50 rfl rfl kr (fun w1 h => (by have h9 := dRead m x2 (aDk 1 l64 []) 5 w1 aG2 hmo_x2 (mem_has h (List.Sublist.trans (List.sublist_append_left (dO (aDk 1 l64 []) m x2) _) (List.sublist_append_right [(b1,Obj.cells (bv (bk1 1)) 25 (0,0))] _))); rw [aR2,aF2] at h9; exact h9))) ?_
 rintro ⟨⟩ -
 refine Lp 3 [] (some [1,3,4,5,33,34]) n0 trivial ?_
 refine Le (Eff.alloc (z := (.agg (bv (List.replicate 512 0)))) rfl kr) ?_
 rintro b2 ⟨hb2,nb2⟩
 refine Le (Eff.storeN (b := b2) (off := 0) (vs := (bv zb)) (n := 512) rfl kr kr kr ((bv_size _).trans zb_len) (all_bv _) 0 (cs := (bv (List.replicate 512 0))) (e := 25) kr (by rw [zsz512]; omega)) ?_
 rintro ⟨⟩ -
 refine CfgL.setO (congrArg (fun (xq : Array Value) => (([(b2,.cells xq 25 (0,0)),(b1,.cells (bv (bk1 1)) 25 (0,0))] ++ (dO (aDk 1 l64 []) m x2 ++ [])) : List (Nat × Obj))) (show _ = (bv zb) from spl_all (((bv_size _).trans zb_len).trans zsz512.symm))) ?_
 refine Lp 1 [] (some [1,3,4,5,6,7]) n0 trivial ?_
 refine CfgL.done rfl ?_
 refine Cfg.begL rfl ?_
 refine Lp 2 [dZ,(0,false,some (.agg (bv (bk1 2))))] none (fun S => [(∀ w1,S w1 → (Instr.build 25 #[(0,.int .u8 2)]).run Tryz.prog w1 = .ok (.agg (bv (bk1 2))) w1)]) ⟨(fun _ _ => kr),trivial⟩ ?_
 refine Le (Eff.callH (vs := [.pointer (some ⟨m.d,0,none⟩),.int .i64 5,.agg (bv (bk1 2))]) (fun _ : MX => .int .i64 0) (dO (aDk 1 l64 []) m x2) (fun y => dO (aDk 2 l64 [(5,bk1 2)]) m y) (fun y => MapOk y.1 y.2 (wv2 (aDk 2 l64 [(5,bk1 2)]).wait)) [(b2,.cells (bv zb) 25 (0,0)),(b1,.cells (bv (bk1 1)) 25 (0,0))] [] rfl rfl Tryz.func61 rfl rfl kr (fun w1 h hA hd => (by have h9 := dWrite m x2 (aDk 1 l64 []) 5 (bk1 2) w1 aG2 hmo_x2 hA hd (bk1_len _) (by decide); rw [aw_write _ _ _ (by rw [l64_len]; decide)] at h9; exact h9))) ?_
 rintro x3 hmo_x3
 refine Lp 1 [] (some [1,3,4,5,6,7,37,38]) n0 trivial ?_
 refine Le (Eff.callH (vs := [.pointer (some ⟨m.d,0,none⟩)]) (fun _ : MX => .int .i64 0) (dO (aDk 2 l64 [(5,bk1 2)]) m x3) (fun y => dO (aDk 3 (l64.set 5 (bk1 2)) []) m y) (fun y => MapOk y.1 y.2 (wv2 (aDk 3 (l64.set 5 (bk1 2)) []).wait)) [(b2,.cells (bv zb) 25 (0,0)),(b1,.cells (bv (bk1 1)) 25 (0,0))] [] rfl rfl Tryz.func56 rfl rfl kr (fun w1 h hA hd => (by have h9 := dBarrier m x3 (aDk 2 l64 [(5,bk1 2)]) w1 aG3 hmo_x3 hA hd (by decide); rw [aw_bar] at h9; exact h9))) ?_
 rintro x4 hmo_x4
 refine Lp 2 [] (some [1,3,4,5,6,7,8,9]) n0 trivial ?_
 refine CfgL.done rfl ?_
 refine Cfg.begL rfl ?_
 refine Lp 1 [] none n0 trivial ?_
 refine Le (Eff.callH (vs := [.pointer (some ⟨m.d,0,none⟩),.slice none 0 0]) (fun _ : MX => .tuple #[]) (dO (aDk 3 (l64.set 5 (bk1 2)) []) m x4) (fun y => dO (aDk 3 (l64.set 5 (bk1 2)) []) m y) (fun y => MapOk y.1 y.2 (wv2 (aDk 3 (l64.set 5 (bk1 2)) []).wait)) [(b2,.cells (bv zb) 25 (0,0)),(b1,.cells (bv (bk1 1)) 25 (0,0))] [] rfl rfl Tryz.func59 rfl rfl kr (fun w1 h hA hd => (by have h9 := dCrash m x4 (aDk 3 (l64.set 5 (bk1 2)) []) none 0 [] [] w1 aG4 hmo_x4 hA hd (fun h => absurd h (by simp)) (Nat.zero_le _) (fun e he => by cases he) (fun e he => by cases he); rw [aw_crash0] at h9; exact h9))) ?_
 rintro x5 hmo_x5
 refine CfgL.done rfl ?_
 refine Cg (Γ' := [(9,[],.int .i64 0),(8,[],.int .i64 0),(7,[],.int .i64 0),(6,[],.pointer (some ⟨b2,0,none⟩)),(5,[],.int .i64 0),(4,[],.pointer (some ⟨b1,0,none⟩)),(3,[],.int .i64 0),(1,[],.pointer (some ⟨m.d,0,none⟩))]) ?_
 refine Cfg.begL rfl ?_
 refine Lp 30 [dZ,dZ,dZ,(1,false,none),(1,false,none),dZ,dZ,(1,false,none),(1,false,some (.int .u8 1)),(1,false,none),dZ,dZ,(1,false,none),(1,false,none),dZ,dZ,(1,false,none),(1,false,some (.int .u8 0)),(1,false,none),dZ,dZ,(1,false,none),(1,false,none),dZ,dZ,(1,false,none),(1,false,none),dZ,dZ,(1,false,none)] (some [70,71]) (fun S => [((.bool true : Value) = .bool true),((.bool true : Value) = .bool true),((.bool true : Value) = .bool true),(0 ≤ (0 : Int) ∧ (0 : Int) < (512 : Int)),((.bool true : Value) = .bool true),(∀ w1,S w1 → w1.cell? ⟨b1,0,none⟩ = some (.int .u8 1)),((.bool true : Value) = .bool true),((.bool true : Value) = .bool true),((.bool true : Value) = .bool true),((.bool true : Value) = .bool true),(0 ≤ (0 : Int) ∧ (0 : Int) < (512 : Int)),((.bool true : Value) = .bool true),(∀ w1,S w1 → w1.cell? ⟨b2,0,none⟩ = some (.int .u8 0)),((.bool true : Value) = .bool true),((.bool true : Value) = .bool true),((.bool true : Value) = .bool true),((.bool true : Value) = .bool true),((.bool true : Value) = .bool true),((.bool true : Value) = .bool true)]) ⟨rfl,rfl,rfl,om,rfl,(fun w1 h => h.ocell 1 rfl kr),rfl,rfl,rfl,rfl,om,rfl,(fun w1 h => h.ocell 0 rfl kr),rfl,rfl,rfl,rfl,rfl,rfl,trivial⟩ ?_
 refine Le (Eff.callA (vs := [.pointer (some ⟨m.d,0,none⟩),.int .i64 5]) (.agg (bv (bk1 2))) rfl Tryz.func29 rfl rfl kr (fun w1 h => (by have h9 := dLasts m x5 (aDk 3 (l64.set 5 (bk1 2)) []) 5 w1 aG4 hmo_x5 (mem_has h (List.Sublist.trans (List.sublist_append_left (dO (aDk 3 (l64.set 5 (bk1 2)) []) m x5) _) (List.sublist_append_right [(b2,Obj.cells (bv zb) 25 (0,0)),(b1,Obj.cells (bv (bk1 1)) 25 (0,0))] _))); rw [aL4] at h9; exact h9))) ?_
 rintro ⟨⟩ -
 refine Lp 4 [(1,false,some (.int .u8 2)),(1,false,none)] (some [0]) (fun _ => [((.bool true : Value) = .bool true),(0 ≤ (0 : Int) ∧ (0 : Int) < (512 : Int)),(((bv (bk1 2)))[0]? = some (.int .u8 2)),((.bool true : Value) = .bool true)]) ⟨rfl,om,kr,rfl,trivial⟩ ?_
 refine CfgL.done rfl ?_
 refine Cfg.ret rfl (rs := [.tmp 0]) rfl [.bool true] ⟨kr,trivial⟩ (fun w1 hp => ?_)
 exact ⟨by simp [resOf],hp.ext⟩
end Go.Proofs.YtohjpggjgomgoaaGreatDoor
namespace Go.Proofs.YtohjpggjgomgoaaGreatDoor
open K
set_option linter.unusedVariables false
def az : AK := ⟨0,0,0,none,0,[],[]⟩
theorem ac_len (a : AK) : (ac a).length = 4 := rfl
structure AKok (w : World) (a : AK) : Prop where
 q : -9223372036854775808 ≤ a.q ∧ a.q ≤ 9223372036854775807
 l : a.kept.length ≤ maxLen
 r : Has w a.Rl
 i : InS a.Rl a.la a.kept.length (fun j => .bool (a.kept.getD j false))
end Go.Proofs.YtohjpggjgomgoaaGreatDoor
namespace Go.Proofs.YtohjpggjgomgoaaGreatDoor
open K
set_option linter.unusedVariables false
theorem ktK : KT (wv Kc) := fun t h => kget h
theorem lay_has {w0 w : World} {M : List Nat} {R Rl L S A : List (Nat × Obj)} {jb : Nat × Obj} (h : HP w0 M R (L ++ (S ++ (A ++ []))) w) (hj : jb ∈ R) (hl : ∀ e ∈ Rl,e ∈ R) : Has w (jb :: ((L ++ S) ++ Rl)) := fun e he => by
 rcases List.mem_cons.1 he with rfl | he
 ·exact h.ro _ hj
 ·rcases List.mem_append.1 he with he | he
  ·refine h.own _ ?_
   rcases List.mem_append.1 he with he | he
   ·exact List.mem_append_left _ he
   ·exact List.mem_append_right _ (List.mem_append_left _ he)
  ·exact h.ro _ (hl e he)
theorem own_apart {w0 w : World} {M : List Nat} {R L S A : List (Nat × Obj)} (h : HP w0 M R (L ++ (S ++ (A ++ []))) w) : ∀ e ∈ L ++ S,e.1 ∉ A.map (·.1) := fun e he hm => by
 obtain ⟨e2,h2,h3⟩ := List.mem_map.1 hm
 have hd := h.dist
 rw [← List.append_assoc,List.map_append] at hd
 have h4 := (List.nodup_append.1 hd).2.2 e.1 (List.mem_map.2 ⟨e,he,rfl⟩) e2.1 (List.mem_map.2 ⟨e2,List.mem_append_left _ h2,rfl⟩)
 exact h4 h3.symm
theorem lay_apart {w0 w : World} {M : List Nat} {R Rl L S A : List (Nat × Obj)} {jb : Nat × Obj} (h : HP w0 M R (L ++ (S ++ (A ++ []))) w) (hj : jb ∈ R) (hl : ∀ e ∈ Rl,e ∈ R) : ∀ e ∈ jb :: ((L ++ S) ++ Rl),e.1 ∉ A.map (·.1) := fun e he hm => by
 rcases List.mem_cons.1 he with rfl | he
 ·obtain ⟨e2,h2,h3⟩ := List.mem_map.1 hm
  exact h.away (List.mem_append_right _ (List.mem_append_right _ (List.mem_append_left _ h2))) hj h3
 ·rcases List.mem_append.1 he with he | he
  ·exact own_apart h e he hm
  ·obtain ⟨e2,h2,h3⟩ := List.mem_map.1 hm
   exact h.away (List.mem_append_right _ (List.mem_append_right _ (List.mem_append_left _ h2))) (hl e he) h3
theorem cpy_jv (l : List Wr) (i : Nat) : jv (cpy l i) ++ jc ((i : Int) + 1,(l.getD i wz).2) = jv (cpy l (i + 1)) := by
 rw [cpy_next,jv_app,jv_one]; rfl
theorem inW_one (b : Nat) (a : Wr) (ha : a.2.length = 512) (t : TypeId) : InW [(b,.cells (jc a).toArray t (0,0))] (some ⟨b,0,none⟩) [a] := by
 intro _
 refine ⟨b,0,_,t,(0,0),rfl,List.mem_singleton.2 rfl,fun j hj => ?_⟩
 rw [List.length_singleton,Nat.one_mul] at hj
 rw [Nat.zero_add,jv_one,List.getElem?_toArray]
 show (jc a)[j]? = some ((jc a).getD j undef)
 rw [List.getD_eq_getElem?_getD,List.getElem?_eq_getElem (by rw [jc_len ha]; exact hj)]; rfl
theorem inW_own1 {o : K.Own} {e : TypeId} {l : List Wr} (hok : OwnOk o 513 l.length (jv l)) : InW (o.o e (jv l)) o.a l := inW_own hok
theorem laysF_stop {E : DK} {ls : List (List Wr)} {k : Nat} (h : k < ls.length) (he : (layF E (ls.getD k [])).1 ≠ 0) : laysF E (ls.drop k) = layF E (ls.getD k []) := by
 rw [List.drop_eq_getElem_cons h,laysF]
 rw [List.getD_eq_getElem?_getD,List.getElem?_eq_getElem h] at he ⊢
 exact if_pos he
theorem laysF_go {E : DK} {ls : List (List Wr)} {k : Nat} (h : k < ls.length) (he : (layF E (ls.getD k [])).1 = 0) : laysF E (ls.drop k) = laysF (layF E (ls.getD k [])).2 (ls.drop (k + 1)) := by
 rw [List.drop_eq_getElem_cons h,laysF]
 rw [List.getD_eq_getElem?_getD,List.getElem?_eq_getElem h] at he ⊢
 exact if_neg (fun e => e he)
theorem W5.atS {ls : List (List Wr)} (h : ∀ l ∈ ls,WW l) (k : Nat) : WW (ls.getD k []) := by
 rw [List.getD_eq_getElem?_getD]
 by_cases hk : k < ls.length
 ·rw [List.getElem?_eq_getElem hk]; exact h _ (List.getElem_mem hk)
 ·rw [List.getElem?_eq_none om]; exact WW.nil
set_option maxRecDepth 100000 in
set_option maxHeartbeats 4000000 in
theorem jTrans (jb : Nat) (why : Int) (num : Nat) (m : DM) (x : MX) (D : DK) (n : Nat) (la : Option Addr) (cap : Nat) (l : List Wr) (Rl : List (Nat × Obj)) (t0 : TypeId) (fr0 : Nat × Nat) (w : World) (hnu : n < 18446744073709551616) (hg : DG D) (hA : Has w (dO D m x)) (hd : ((dO D m x).map (·.1)).Nodup) (hI : InW Rl la l) (hW : WW l) (hl : l.length ≤ 96) (hcl : l.length ≤ cap) (hs : 0 ≤ D.steps ∧ D.steps ≤ 4611686018426000000) (hmo : MapOk x.1 x.2 (wv2 D.wait)) (hR : Has w ((jb,Obj.cells #[.int .i64 why,.pointer (some ⟨m.d,0,none⟩),.int .u64 (num : Int)] 121 (0,0)) :: (0,Obj.cells (wv Kc) t0 fr0) :: Rl)) (hnr : ∀ e ∈ (jb,Obj.cells #[.int .i64 why,.pointer (some ⟨m.d,0,none⟩),.int .u64 (num : Int)] 121 (0,0)) :: (0,Obj.cells (wv Kc) t0 fr0) :: Rl,e.1 ∉ (dO D m x).map (·.1)) :
  Calls Tryz.prog 66 #[.pointer (some ⟨jb,0,none⟩),.int .u64 (n : Int),.slice la l.length cap] w fun e w' => ∃ x2 : MX,MapOk x2.1 x2.2 (wv2 (transF D n l).2.wait) ∧ e = .returned (.int .i64 (transF D n l).1) ∧ ∃ R1,HP w ((dO D m x).map (·.1)) R1 (dO (transF D n l).2 m x2) w' := by
 obtain ⟨st4,hst4⟩ : ∃ s,s = stagesF n l := ⟨_,rfl⟩
 have hsl : st4.length = 4 := by rw [hst4]; rfl
 have hsw : ∀ s ∈ st4,WW s := hst4 ▸ stages_w hW n
 unfold transF
 rw [← hst4]
 refine enter (vs := [.pointer (some ⟨jb,0,none⟩),.int .u64 (n : Int),.slice la l.length cap]) ((dO D m x).map (·.1)) ((jb,Obj.cells #[.int .i64 why,.pointer (some ⟨m.d,0,none⟩),.int .u64 (num : Int)] 121 (0,0)) :: (0,Obj.cells (wv Kc) t0 fr0) :: Rl) ([] ++ (dO D m x ++ [])) Tryz.func66 rfl kr (by rw [List.append_nil]; exact HP.ofL hA hd hR hnr) ?_
 refine Rg [0,1,2] [] n0 trivial ?_
 refine Rg [0,1,2,7] [] n0 trivial ?_
 refine Rg [0,1,2,7,13,14,15] [] n0 trivial ?_
 refine Cfg.loop rfl (ι := Nat × K.Own) (fun (xz : Nat × K.Own) => match xz with | (i,oc) => [(15,[],.int .i64 (i : Int)),(14,[],.int .i64 (l.length : Int)),(13,[],.slice la l.length cap),(7,[],.slice (Own.a oc) i (Own.c oc)),(0,[],.pointer (some ⟨jb,0,none⟩)),(1,[],.int .u64 (n : Int)),(2,[],.slice la l.length cap)]) (fun (xz : Nat × K.Own) => match xz with | (i,oc) => ([] ++ (Own.o 79 (jv (cpy l i)) oc ++ (dO D m x ++ [])))) (fun (xz : Nat × K.Own) => match xz with | (i,oc) => (i ≤ l.length) ∧ (OwnOk oc 513 i (jv (cpy l i)))) (fun (xz : Nat × K.Own) => match xz with | (i,oc) => l.length - i) (0,none) ?_ (Conv.mk kr) (List.Sublist.refl _) ?_
 ·exact ⟨Nat.zero_le _,OwnOk.none _⟩
 ·rintro ⟨i,oc⟩ ⟨hi,hoc⟩
  refine Rg [0,1,2,7,13,14,15,16] [] n0 trivial ?_
  refine Cfg.cond rfl (b := (decide ((i : Int) < (l.length : Int)))) kr (fun c1r => ?_) (fun c1r => ?_)
  ·have c1 := (of_decide_eq_true c1r)
   obtain ⟨sb,off,cs,te,fre,rfl,hmem,hcs⟩ := hI om
   refine Conv.cfg (Γ' := [(16,[],.bool (decide ((i : Int) < (l.length : Int)))),(15,[],.int .i64 (i : Int)),(14,[],.int .i64 (l.length : Int)),(13,[],.slice (some ⟨sb,off,none⟩) l.length cap),(7,[],.slice (Own.a oc) i (Own.c oc)),(0,[],.pointer (some ⟨jb,0,none⟩)),(1,[],.int .u64 (n : Int)),(2,[],.slice (some ⟨sb,off,none⟩) l.length cap)]) (Conv.mk kr) ?_
   refine Cfg.begL rfl ?_
   refine Lp 3 [dZ,dZ,(0,false,some (.agg (jc (l.getD i wz)).toArray))] (some [0,1,2,7,13,14,15,17,19]) (fun S => [(0 ≤ (i : Int) ∧ (i : Int) < (l.length : Int)),(∀ w1,S w1 → (loadVar 79 ⟨sb,(addO off (i * 513)),none⟩).run Tryz.prog w1 = .ok (.agg (jc (l.getD i wz)).toArray) w1)]) ⟨om,(fun w1 h => load_list Tryz.underlying79 rfl kr (jc_len (hW.at i)) (fun j v hj => by rw [addO_eq]; exact (cell_cells (h.ro _ (List.mem_cons_of_mem _ (List.mem_cons_of_mem _ hmem)))).trans (wr_cell hW hcs om hj))),trivial⟩ ?_
   refine Le (Eff.alloc (z := (.agg (jc wz).toArray)) rfl kr) ?_
   rintro wb ⟨hwb,nwb⟩
   refine Lp 1 [] (some [0,1,2,7,8,9,13,14,15,19]) n0 trivial ?_
   refine Le (Eff.storeN (b := wb) (off := 0) (vs := (jc (l.getD i wz)).toArray) (n := 513) rfl kr kr kr (by rw [List.size_toArray,jc_len (hW.at i)]) (jc_all _) 0 (cs := (jc wz).toArray) (e := 79) kr (by show 0 + 513 ≤ (jc wz).toArray.size; rw [List.size_toArray,jc_len zb_len]; decide)) ?_
   rintro ⟨⟩ -
   refine CfgL.setO (congrArg (fun (xq : Array Value) => (([(wb,.cells xq 79 (0,0))] ++ (Own.o 79 (jv (cpy l i)) oc ++ (dO D m x ++ []))) : List (Nat × Obj))) (show _ = ((jc (l.getD i wz)).toArray) from spl_all (by rw [List.size_toArray,List.size_toArray,jc_len (hW.at i)]; exact (jc_len zb_len).symm))) ?_
   refine CfgL.done rfl ?_
   refine Cg (Γ' := [(8,[],.int .i64 (i : Int)),(9,[],.pointer (some ⟨wb,0,none⟩)),(15,[],.int .i64 (i : Int)),(14,[],.int .i64 (l.length : Int)),(13,[],.slice (some ⟨sb,off,none⟩) l.length cap),(7,[],.slice (Own.a oc) i (Own.c oc)),(0,[],.pointer (some ⟨jb,0,none⟩)),(1,[],.int .u64 (n : Int)),(2,[],.slice (some ⟨sb,off,none⟩) l.length cap)]) ?_
   refine Cfg.begL rfl ?_
   refine Lp 6 [dZ,dZ,dZ,dZ,(0,false,some (.agg (bv (l.getD i wz).2))),(0,false,some (.agg (jc (((i : Int) + 1),(l.getD i wz).2)).toArray))] (some [0,1,2,7,13,14,15,20,25]) (fun S => [((-9223372036854775808 : Int) ≤ ((i : Int) + 1) ∧ ((i : Int) + 1) ≤ 9223372036854775807),(∀ w1,S w1 → (loadVar 25 ⟨wb,1,none⟩).run Tryz.prog w1 = .ok (.agg (bv (l.getD i wz).2)) w1),(∀ w1,S w1 → (Instr.build 79 #[(0,.int .i64 ((i : Int) + 1)),(1,.agg (bv (l.getD i wz).2))]).run Tryz.prog w1 = .ok (.agg (jc (((i : Int) + 1),(l.getD i wz).2)).toArray) w1)]) ⟨om,(fun w1 h => load_bytes Tryz.underlying25 rfl kr (hW.at i) (fun j hj => by rw [cell_cells (h.own (wb,_) (List.mem_of_getElem? (i := 0) rfl)),List.getElem?_toArray]; exact jc_byte (hW.at i) hj)),(fun w1 _ => build_wr (((i : Int) + 1)) (hW.at i) w1),trivial⟩ ?_
   refine Le (Eff.buildAgg (vs := (jc (((i : Int) + 1),(l.getD i wz).2)).toArray) (n := 513) rfl kr Tryz.underlying28 kr (z := (.agg (jc wz).toArray)) kr (by rw [List.size_toArray]; exact jc_len (hW.at i)) (by decide) (by decide)) ?_
   rintro kb ⟨hkb,nkb⟩
   refine Le (Eff.appendF rfl 513 520 Tryz.underlying28 kr (z := (.agg (jc wz).toArray)) kr kr oc (xs := (jv (cpy l i))) hoc kr (b2 := kb) (off2 := 0) (m := 1) (c2 := 1) kr (jc ((i : Int) + 1,(l.getD i wz).2)) (jc_len (hW.at i)) (jc_all _) [(kb,.cells ((jc (((i : Int) + 1),(l.getD i wz).2)).toArray) 79 (0,0)),(wb,.cells ((jc (l.getD i wz)).toArray) 79 (0,0))] ([] ++ (dO D m x ++ [])) (by rfl) (fun w1 h j v hj => by rw [Nat.zero_add]; exact h.ocell 0 rfl (by rw [List.getElem?_toArray]; exact hj)) om om) ?_
   rintro o1 ko1
   refine Lp 1 [] (some [0,1,2,7,13,14,15]) n0 trivial ?_
   refine CfgL.done rfl ?_
   refine Rg [0,1,2,7,13,14,15] [] (fun _ => [((-9223372036854775808 : Int) ≤ ((i : Int) + 1) ∧ ((i : Int) + 1) ≤ 9223372036854775807)]) ⟨om,trivial⟩ ?_
   have hrv := cpy_jv l i
   refine Cfg.setO (congrArg (fun (xq : List Value) => (([(kb,.cells ((jc (((i : Int) + 1),(l.getD i wz).2)).toArray) 79 (0,0)),(wb,.cells ((jc (l.getD i wz)).toArray) 79 (0,0))] ++ (Own.o 79 xq o1 ++ (dO D m x ++ []))) : List (Nat × Obj))) (show _ = (jv (cpy l (i + 1))) from hrv)) ?_
   refine Cfg.again rfl (i + 1,o1) ⟨by omega,hrv ▸ ko1⟩ (by show l.length - (i + 1) < l.length - i; omega) (Conv.mk kr) (.cons _ (.cons _ (List.Sublist.refl _)))
  ·have c1 := (of_decide_eq_false c1r)
   obtain rfl : i = l.length := by omega
   refine Conv.cfg (Γ' := [(7,[],.slice (Own.a oc) l.length (Own.c oc)),(0,[],.pointer (some ⟨jb,0,none⟩)),(1,[],.int .u64 (n : Int)),(2,[],.slice la l.length cap)]) (Conv.mk kr) ?_
   refine Cfg.begL rfl ?_
   refine Lp 1 [(0,false,some (.agg (jc ((0 : Int),zb)).toArray))] none (fun S => [(∀ w1,S w1 → (Instr.build 79 #[(0,.int .i64 0)]).run Tryz.prog w1 = .ok (.agg (jc ((0 : Int),zb)).toArray) w1)]) ⟨(fun w1 _ => kr),trivial⟩ ?_
   refine Le (Eff.buildAgg (vs := (jc ((0 : Int),zb)).toArray) (n := 513) rfl kr Tryz.underlying28 kr (z := (.agg (jc wz).toArray)) kr (by rw [List.size_toArray]; exact jc_len zb_len) (by decide) (by decide)) ?_
   rintro sa ⟨hsa,nsa⟩
   refine Lp 3 [] (some [0,2,30,31,32,33]) n0 trivial ?_
   refine Le (Eff.callA (vs := [.int .u64 (n : Int),.slice la l.length cap]) (.agg (bv (headF n l))) rfl Tryz.func7 rfl rfl kr (fun w1 h => jHead n la cap l Rl w1 hnu hI hW (by unfold maxLen; omega) hcl (h.hasR (fun e he => List.mem_cons_of_mem _ he)) ktK)) ?_
   rintro ⟨⟩ -
   refine Lp 1 [(0,false,some (.agg (jc ((0 : Int),(headF n l))).toArray))] (some [0,2,30,31,35]) (fun S => [(∀ w1,S w1 → (Instr.build 79 #[(0,.int .i64 0),(1,.agg (bv (headF n l)))]).run Tryz.prog w1 = .ok (.agg (jc ((0 : Int),(headF n l))).toArray) w1)]) ⟨(fun w1 _ => build_wr ((0 : Int)) (headF_len _ _) w1),trivial⟩ ?_
   refine Le (Eff.buildAgg (vs := (jc ((0 : Int),(headF n l))).toArray) (n := 513) rfl kr Tryz.underlying28 kr (z := (.agg (jc wz).toArray)) kr (by rw [List.size_toArray]; exact jc_len (headF_len _ _)) (by decide) (by decide)) ?_
   rintro sc ⟨hsc,nsc⟩
   refine Lp 1 [] (some [0,30,31,36,37]) n0 trivial ?_
   refine Le (Eff.buildSlice (e := 28) (cells := #[.slice (some ⟨sa,0,none⟩) 1 1,.slice (Own.a oc) l.length (Own.c oc),.slice (some ⟨sc,0,none⟩) 1 1,.slice la l.length cap]) (parts := #[(0,.slice (some ⟨sa,0,none⟩) 1 1),(1,.slice (Own.a oc) l.length (Own.c oc)),(2,.slice (some ⟨sc,0,none⟩) 1 1),(3,.slice la l.length cap)]) rfl kr (fun _ => kr)) ?_
   rintro sr ⟨hsr,nsr⟩
   refine CfgL.pure 2 [] (some [0,38,39,40]) (Γ' := [(40,[],.int .i64 0),(39,[],.int .i64 (4 : Int)),(38,[],.slice (some ⟨sr,0,none⟩) 4 4),(0,[],.pointer (some ⟨jb,0,none⟩))]) (nd := (fun _ => [])) kr (fun _ => kr) trivial ?_
   refine CfgL.done rfl ?_
   have hoc2 : OwnOk oc 513 (cpy l l.length).length (jv (cpy l l.length)) := by rw [cpy_len]; exact hoc
   obtain ⟨rA,hrA⟩ : ∃ f : Nat → Option Addr,f = fun k => if k = 0 then some ⟨sa,0,none⟩ else if k = 1 then Own.a oc else if k = 2 then some ⟨sc,0,none⟩ else la := ⟨_,rfl⟩
   obtain ⟨rC,hrC⟩ : ∃ f : Nat → Nat,f = fun k => if k = 0 then 1 else if k = 1 then Own.c oc else if k = 2 then 1 else cap := ⟨_,rfl⟩
   have hcell : ∀ k,k < 4 → (#[.slice (some ⟨sa,0,none⟩) 1 1,.slice (Own.a oc) l.length (Own.c oc),.slice (some ⟨sc,0,none⟩) 1 1,.slice la l.length cap] : Array Value)[k]? = some (.slice (rA k) (st4.getD k []).length (rC k)) := by intro k hk; rw [hrA,hrC,hst4]; rcases k with _ | _ | _ | _ | k; rfl; exact congrArg (fun n => some (Value.slice (Own.a oc) n (Own.c oc))) (cpy_len l l.length).symm; rfl; rfl; omega
   have hIB : ∀ k,InW (([(sr,Obj.cells #[.slice (some ⟨sa,0,none⟩) 1 1,.slice (Own.a oc) l.length (Own.c oc),.slice (some ⟨sc,0,none⟩) 1 1,.slice la l.length cap] 28 (0,0)),(sc,Obj.cells ((jc ((0 : Int),(headF n l))).toArray) 79 (0,0)),(sa,Obj.cells ((jc ((0 : Int),zb)).toArray) 79 (0,0))] ++ Own.o 79 (jv (cpy l l.length)) oc) ++ Rl) (rA k) (st4.getD k []) := by
    intro k
    have q0 : ∀ e ∈ [(sr,Obj.cells #[.slice (some ⟨sa,0,none⟩) 1 1,.slice (Own.a oc) l.length (Own.c oc),.slice (some ⟨sc,0,none⟩) 1 1,.slice la l.length cap] 28 (0,0)),(sc,Obj.cells ((jc ((0 : Int),(headF n l))).toArray) 79 (0,0)),(sa,Obj.cells ((jc ((0 : Int),zb)).toArray) 79 (0,0))],e ∈ (([(sr,Obj.cells #[.slice (some ⟨sa,0,none⟩) 1 1,.slice (Own.a oc) l.length (Own.c oc),.slice (some ⟨sc,0,none⟩) 1 1,.slice la l.length cap] 28 (0,0)),(sc,Obj.cells ((jc ((0 : Int),(headF n l))).toArray) 79 (0,0)),(sa,Obj.cells ((jc ((0 : Int),zb)).toArray) 79 (0,0))] ++ Own.o 79 (jv (cpy l l.length)) oc) ++ Rl) := fun e he => List.mem_append_left _ (List.mem_append_left _ he)
    rw [hrA,hst4]
    rcases k with _ | _ | _ | _ | k
    ·exact (inW_one sa ((0 : Int),zb) zb_len 79).mono (fun e he => q0 e (by rw [List.mem_singleton.1 he]; exact List.mem_of_getElem? (i := 2) rfl))
    ·exact (inW_own1 hoc2).mono (fun e he => List.mem_append_left _ (List.mem_append_right _ he))
    ·exact (inW_one sc ((0 : Int),headF n l) (headF_len _ _) 79).mono (fun e he => q0 e (by rw [List.mem_singleton.1 he]; exact List.mem_of_getElem? (i := 1) rfl))
    ·exact hI.mono (fun e he => List.mem_append_right _ he)
    ·exact fun h => absurd h (by show ¬ (0 < ([] : List Wr).length * 513); simp)
   have hLl : ∀ k,(st4.getD k []).length ≤ 96 := by intro k; rw [hst4]; rcases k with _ | _ | _ | _ | k; exact (by decide : 1 ≤ 96); exact (by show (cpy l l.length).length ≤ 96; rw [cpy_len]; exact hl); exact (by decide : 1 ≤ 96); exact hl; exact Nat.zero_le _
   refine Cfg.loop rfl (ι := Nat × DK × MX) (fun (xz : Nat × DK × MX) => match xz with | (k,E,y) => [(40,[],.int .i64 (k : Int)),(39,[],.int .i64 (4 : Int)),(38,[],.slice (some ⟨sr,0,none⟩) 4 4),(0,[],.pointer (some ⟨jb,0,none⟩))]) (fun (xz : Nat × DK × MX) => match xz with | (k,E,y) => ([(sr,.cells #[.slice (some ⟨sa,0,none⟩) 1 1,.slice (Own.a oc) l.length (Own.c oc),.slice (some ⟨sc,0,none⟩) 1 1,.slice la l.length cap] 28 (0,0)),(sc,.cells ((jc ((0 : Int),(headF n l))).toArray) 79 (0,0)),(sa,.cells ((jc ((0 : Int),zb)).toArray) 79 (0,0))] ++ (Own.o 79 (jv (cpy l l.length)) oc ++ (dO E m y ++ [])))) (fun (xz : Nat × DK × MX) => match xz with | (k,E,y) => (k ≤ 4) ∧ (DG E) ∧ (MapOk y.1 y.2 (wv2 E.wait)) ∧ (D.steps ≤ E.steps ∧ E.steps ≤ D.steps + 200 * (k : Int)) ∧ (laysF E (st4.drop k) = laysF D st4)) (fun (xz : Nat × DK × MX) => match xz with | (k,E,y) => 4 - k) (0,D,x) ?_ (Conv.mk kr) (List.Sublist.refl _) ?_
   ·exact ⟨Nat.zero_le _,hg,hmo,⟨by omega,by omega⟩,by rw [List.drop_zero]⟩
   ·rintro ⟨k,E,y⟩ ⟨hk,hgE,hmo_y,hsE,hlE⟩
    refine Rg [0,38,39,40,41] [] n0 trivial ?_
    refine Cfg.cond rfl (b := (decide ((k : Int) < (4 : Int)))) kr (fun c2r => ?_) (fun c2r => ?_)
    ·have c2 := (of_decide_eq_true c2r)
     refine Rg [0,11,38,39,40] [dZ,(0,false,some (.slice (rA k) ((st4.getD k []).length) ((rC k))))] (fun S => [(0 ≤ (k : Int) ∧ (k : Int) < (4 : Int)),(∀ w1,S w1 → w1.cell? ⟨sr,k,none⟩ = some (.slice (rA k) ((st4.getD k []).length) ((rC k))))]) ⟨om,(fun w1 h => h.ocell 0 rfl (hcell k om)),trivial⟩ ?_
     refine Cfg.begL rfl ?_
     refine Lp 2 [] (some [0,38,39,40,44,45]) n0 trivial ?_
     refine Le (Eff.callH (vs := [.pointer (some ⟨jb,0,none⟩),.slice (rA k) ((st4.getD k []).length) ((rC k))]) (fun _ : MX => .int .i64 ((layF E (st4.getD k [])).1)) (dO E m y) (fun z => dO (layF E (st4.getD k [])).2 m z) (fun z => MapOk z.1 z.2 (wv2 (layF E (st4.getD k [])).2.wait)) ([(sr,.cells #[.slice (some ⟨sa,0,none⟩) 1 1,.slice (Own.a oc) l.length (Own.c oc),.slice (some ⟨sc,0,none⟩) 1 1,.slice la l.length cap] 28 (0,0)),(sc,.cells ((jc ((0 : Int),(headF n l))).toArray) 79 (0,0)),(sa,.cells ((jc ((0 : Int),zb)).toArray) 79 (0,0))] ++ (Own.o 79 (jv (cpy l l.length)) oc)) [] rfl rfl Tryz.func54 rfl rfl kr (fun w1 h hA hd => jLay jb why num m y E (rA k) (rC k) (st4.getD k []) (([(sr,Obj.cells #[.slice (some ⟨sa,0,none⟩) 1 1,.slice (Own.a oc) l.length (Own.c oc),.slice (some ⟨sc,0,none⟩) 1 1,.slice la l.length cap] 28 (0,0)),(sc,Obj.cells ((jc ((0 : Int),(headF n l))).toArray) 79 (0,0)),(sa,Obj.cells ((jc ((0 : Int),zb)).toArray) 79 (0,0))] ++ Own.o 79 (jv (cpy l l.length)) oc) ++ Rl) w1 hgE hA hd (hIB k) (W5.atS hsw k) (Nat.le_trans (hLl k) om) om hmo_y (lay_has (L := [(sr,Obj.cells #[.slice (some ⟨sa,0,none⟩) 1 1,.slice (Own.a oc) l.length (Own.c oc),.slice (some ⟨sc,0,none⟩) 1 1,.slice la l.length cap] 28 (0,0)),(sc,Obj.cells ((jc ((0 : Int),(headF n l))).toArray) 79 (0,0)),(sa,Obj.cells ((jc ((0 : Int),zb)).toArray) 79 (0,0))]) (S := Own.o 79 (jv (cpy l l.length)) oc) (A := dO E m y) h (List.mem_cons_self ..) (fun e he => List.mem_cons_of_mem _ (List.mem_cons_of_mem _ he))) (lay_apart (L := [(sr,Obj.cells #[.slice (some ⟨sa,0,none⟩) 1 1,.slice (Own.a oc) l.length (Own.c oc),.slice (some ⟨sc,0,none⟩) 1 1,.slice la l.length cap] 28 (0,0)),(sc,Obj.cells ((jc ((0 : Int),(headF n l))).toArray) 79 (0,0)),(sa,Obj.cells ((jc ((0 : Int),zb)).toArray) 79 (0,0))]) (S := Own.o 79 (jv (cpy l l.length)) oc) (A := dO E m y) h (List.mem_cons_self ..) (fun e he => List.mem_cons_of_mem _ (List.mem_cons_of_mem _ he))))) ?_
     rintro x2 hmo_x2
     refine Lp 1 [] (some [0,12,38,39,40]) n0 trivial ?_
     refine CfgL.done rfl ?_
     refine Rg [0,12,38,39,40,48] [] n0 trivial ?_
     refine Cfg.cond rfl (b := (((layF E (st4.getD k [])).1) != (0 : Int))) kr (fun c3r => ?_) (fun c3r => ?_)
     ·have c3 := (bne_iff_ne.1 c3r)
      refine Rg [6] [] n0 trivial ?_
      refine Cfg.ret rfl (rs := [.tmp 6]) rfl [.int .i64 ((layF E (st4.getD k [])).1)] ⟨kr,trivial⟩ (fun w1 hp => ?_)
      have hx : laysF D st4 = layF E (st4.getD k []) := by rw [← hlE]; exact laysF_stop om om
      rw [hx]
      have h8 : HP w ((dO D m x).map (·.1)) ((jb,Obj.cells #[.int .i64 why,.pointer (some ⟨m.d,0,none⟩),.int .u64 (num : Int)] 121 (0,0)) :: (0,Obj.cells (wv Kc) t0 fr0) :: Rl) ([(sr,Obj.cells #[.slice (some ⟨sa,0,none⟩) 1 1,.slice (Own.a oc) l.length (Own.c oc),.slice (some ⟨sc,0,none⟩) 1 1,.slice la l.length cap] 28 (0,0)),(sc,Obj.cells ((jc ((0 : Int),(headF n l))).toArray) 79 (0,0)),(sa,Obj.cells ((jc ((0 : Int),zb)).toArray) 79 (0,0))] ++ (Own.o 79 (jv (cpy l l.length)) oc ++ (dO ((layF E (st4.getD k [])).2) m x2 ++ []))) w1 := hp
      have h9 := (h8.sub (List.sublist_append_right [(sr,Obj.cells #[.slice (some ⟨sa,0,none⟩) 1 1,.slice (Own.a oc) l.length (Own.c oc),.slice (some ⟨sc,0,none⟩) 1 1,.slice la l.length cap] 28 (0,0)),(sc,Obj.cells ((jc ((0 : Int),(headF n l))).toArray) 79 (0,0)),(sa,Obj.cells ((jc ((0 : Int),zb)).toArray) 79 (0,0))] _)).sub (List.sublist_append_right (Own.o 79 (jv (cpy l l.length)) oc) _)
      rw [List.append_nil] at h9
      exact ⟨x2,hmo_x2,rfl,_,h9⟩
     ·have c3 := (bne_eq_false_iff_eq.1 c3r)
      refine Rg [0,38,39,40] [] (fun _ => [((-9223372036854775808 : Int) ≤ ((k : Int) + 1) ∧ ((k : Int) + 1) ≤ 9223372036854775807)]) ⟨om,trivial⟩ ?_
      have hls := layF_steps (st4.getD k []) E
      have hlk := hLl k
      have hgo := laysF_go (E := E) (ls := st4) (k := k) om om
      refine Cfg.again rfl (k + 1,(layF E (st4.getD k [])).2,x2) ⟨by omega,hgE.lay (W5.atS hsw k),hmo_x2,by omega,hgo ▸ hlE⟩ (by show 4 - (k + 1) < 4 - k; omega) (Conv.mk kr) (.cons_cons _ (.cons_cons _ (.cons_cons _ (List.Sublist.refl _))))
    ·have c2 := (of_decide_eq_false c2r)
     refine Cfg.reg rfl [6] [] (Γ' := [(6,[],.int .i64 0)]) (nd := (fun _ => [])) (fun _ => kr) trivial ?_
     refine Cfg.ret rfl (rs := [.tmp 6]) rfl [.int .i64 0] ⟨kr,trivial⟩ (fun w1 hp => ?_)
     have hx : laysF D st4 = (0,E) := by rw [← hlE,List.drop_eq_nil_of_le om]; rfl
     rw [hx]
     have h8 : HP w ((dO D m x).map (·.1)) ((jb,Obj.cells #[.int .i64 why,.pointer (some ⟨m.d,0,none⟩),.int .u64 (num : Int)] 121 (0,0)) :: (0,Obj.cells (wv Kc) t0 fr0) :: Rl) ([(sr,Obj.cells #[.slice (some ⟨sa,0,none⟩) 1 1,.slice (Own.a oc) l.length (Own.c oc),.slice (some ⟨sc,0,none⟩) 1 1,.slice la l.length cap] 28 (0,0)),(sc,Obj.cells ((jc ((0 : Int),(headF n l))).toArray) 79 (0,0)),(sa,Obj.cells ((jc ((0 : Int),zb)).toArray) 79 (0,0))] ++ (Own.o 79 (jv (cpy l l.length)) oc ++ (dO E m y ++ []))) w1 := hp
     have h9 := (h8.sub (List.sublist_append_right [(sr,Obj.cells #[.slice (some ⟨sa,0,none⟩) 1 1,.slice (Own.a oc) l.length (Own.c oc),.slice (some ⟨sc,0,none⟩) 1 1,.slice la l.length cap] 28 (0,0)),(sc,Obj.cells ((jc ((0 : Int),(headF n l))).toArray) 79 (0,0)),(sa,Obj.cells ((jc ((0 : Int),zb)).toArray) 79 (0,0))] _)).sub (List.sublist_append_right (Own.o 79 (jv (cpy l l.length)) oc) _)
     rw [List.append_nil] at h9
     exact ⟨y,hmo_y,rfl,_,h9⟩
end Go.Proofs.YtohjpggjgomgoaaGreatDoor
namespace Go.Proofs.YtohjpggjgomgoaaGreatDoor
open K
set_option linter.unusedVariables false
theorem Eff.mapLen {C : Cx} {R O : List (Nat × Obj)} {Γ : Env} {op : Oper} {t kt e : TypeId} {x : Operand} (ho : op.op = .call ⟨.builtin .len,#[x],#[t]⟩) (hm : C.P.underlying t = some (.map kt e)) {r : Nat} (hx : opd Γ [] x = some (.map (some r))) {es : Array MapEntry} {ck : Nat} {W : List (Int × Value)} (h : MapOk es ck W) (hb : ∀ w,HP C.w0 C.M R O w → w.heap[r]? = some (.map es ck)) {n : Nat} (hn : W.length = n) :
  Eff C R O Γ op Unit (fun _ => .int .i64 (n : Int)) (fun _ => O) (fun _ => True) := by
 subst hn
 refine Eff.of_run fun a w hs hp => ⟨(),w,trivial,?_,hp⟩
 have hl : es.size = W.length := by
  have := congrArg List.length h.rel
  simpa using this
 have hr : (Builtin.len_ #[t] op.type #[.map (some r)]).run C.P w = .ok (.int .i64 (W.length : Int)) w := by
  simp [Builtin.len_,run_underlying' hm,Go.MapKept.run_getObj_map (hb w hp),goInt,hl]
 simp [execOp,ho,resolve,invoke,builtin,opd_ok hs (holds_nil _) hx,hr]
def iv2 (W : Nt) : List (Int × Value) := W.map fun p => (p.1,Value.int .i64 (p.2 : Int))
theorem iv2_len (W : Nt) : (iv2 W).length = W.length := List.length_map ..
theorem iv2_keys (W : Nt) : (iv2 W).map (·.1) = W.map (·.1) := by unfold iv2; rw [List.map_map]; rfl
theorem mget_iv (k : Int) : ∀ W : Nt,mget (iv2 W) k = (nget W k).map fun v => Value.int .i64 (v : Int)
 | [] => rfl
 | p :: W => by
  show (if k = p.1 then some (Value.int .i64 (p.2 : Int)) else mget (iv2 W) k) = _
  unfold nget
  split
  ·rfl
  ·exact mget_iv k W
theorem mset_iv (k : Int) (v : Nat) : ∀ W : Nt,mset (iv2 W) k (.int .i64 (v : Int)) = iv2 (nset W k v)
 | [] => rfl
 | p :: W => by
  show (if k = p.1 then (k,Value.int .i64 (v : Int)) :: iv2 W else (p.1,Value.int .i64 (p.2 : Int)) :: mset (iv2 W) k (.int .i64 (v : Int))) = _
  unfold nset
  split
  ·rfl
  ·rw [mset_iv k v W]; rfl
theorem nset_mem {W : Nt} {k : Int} {v : Nat} : ∀ p ∈ nset W k v,p = (k,v) ∨ p ∈ W := by
 induction W with
 | nil => intro p hp; exact .inl (List.mem_singleton.1 hp)
 | cons q W ih =>
  intro p hp
  unfold nset at hp
  split at hp
  ·rcases List.mem_cons.1 hp with rfl | hp
   ·exact .inl rfl
   ·exact .inr (List.mem_cons_of_mem _ hp)
  ·rcases List.mem_cons.1 hp with rfl | hp
   ·exact .inr (List.mem_cons_self ..)
   ·rcases ih p hp with h | h
    ·exact .inl h
    ·exact .inr (List.mem_cons_of_mem _ h)
theorem lastM_mem (l : List Wr) : ∀ i,∀ p ∈ lastM l i,∃ k,k < i ∧ p.1 = (l.getD k wz).1
 | 0,p,hp => by cases hp
 | i + 1,p,hp => by
  rcases nset_mem p hp with rfl | hp
  ·exact ⟨i,Nat.lt_succ_self i,rfl⟩
  ·obtain ⟨k,h1,h2⟩ := lastM_mem l i p hp
   exact ⟨k,by omega,h2⟩
theorem badW_no {D : DK} {w : Wr} (h : badW D w = false) : 97 ≤ w.1 ∧ w.1 < (D.last.length : Int) := by
 unfold badW at h
 rw [Bool.or_eq_false_iff,decide_eq_false_iff_not,decide_eq_false_iff_not] at h
 omega
theorem any_no {D : DK} {l : List Wr} (h : ∀ j,j < l.length → badW D (l.getD j wz) = false) : l.any (badW D) = false := by
 rw [List.any_eq_false]
 intro x hx
 obtain ⟨i,hi,rfl⟩ := List.mem_iff_getElem.1 hx
 have := h i hi
 rw [List.getD_eq_getElem?_getD,List.getElem?_eq_getElem hi] at this
 simpa using this
theorem any_yes {D : DK} {l : List Wr} {i : Nat} (hi : i < l.length) (h : badW D (l.getD i wz) = true) : l.any (badW D) = true := by
 rw [List.any_eq_true]
 refine ⟨l[i],List.getElem_mem hi,?_⟩
 rw [List.getD_eq_getElem?_getD,List.getElem?_eq_getElem hi] at h
 exact h
theorem ris_take {l : List Wr} {j : Nat} (h : j < (lastM l l.length).length) : jv ((risF l).take j) ++ jc (atN l (lastM l l.length) ((keysN (lastM l l.length)).getD j 0)) = jv ((risF l).take (j + 1)) := by
 have hr : j < (risF l).length := by rw [risF_len]; exact h
 have hk : j < (keysN (lastM l l.length)).length := by rw [keysN_len]; exact h
 rw [List.take_succ_eq_append_getElem hr,jv_app,jv_one]
 congr 2
 rw [List.getD_eq_getElem?_getD,List.getElem?_eq_getElem hk]
 exact (List.getElem_map (atN l (lastM l l.length)) (l := keysN (lastM l l.length)) (h := by rw [List.length_map]; exact hk)).symm
theorem key_in {l : List Wr} {j : Nat} (h : j < (lastM l l.length).length) : ∃ k,nget (lastM l l.length) ((keysN (lastM l l.length)).getD j 0) = some k ∧ k < l.length := by
 have hk : j < (keysN (lastM l l.length)).length := by rw [keysN_len]; exact h
 have h1 : (keysN (lastM l l.length)).getD j 0 ∈ keysN (lastM l l.length) := by rw [List.getD_eq_getElem?_getD,List.getElem?_eq_getElem hk]; exact List.getElem_mem hk
 have h2 := (nget_mem _ _).2 ((keysN_mem _ _).1 h1)
 cases hg : nget (lastM l l.length) ((keysN (lastM l l.length)).getD j 0) with
 | none => rw [hg] at h2; cases h2
 | some k => exact ⟨k,rfl,(lastM_lt l l.length _ _ hg).1⟩
theorem tr_has {w0 w : World} {M : List Nat} {R L S A : List (Nat × Obj)} {jb tab : Nat × Obj} (h : HP w0 M R (L ++ (S ++ (A ++ []))) w) (hj : jb ∈ L) (ht : tab ∈ R) : Has w (jb :: tab :: S) := fun e he => by
 rcases List.mem_cons.1 he with rfl | he
 ·exact h.own _ (List.mem_append_left _ hj)
 ·rcases List.mem_cons.1 he with rfl | he
  ·exact h.ro _ ht
  ·exact h.own _ (List.mem_append_right _ (List.mem_append_left _ he))
theorem tr_apart {w0 w : World} {M : List Nat} {R L S A : List (Nat × Obj)} {jb tab : Nat × Obj} (h : HP w0 M R (L ++ (S ++ (A ++ []))) w) (hj : jb ∈ L) (ht : tab ∈ R) : ∀ e ∈ jb :: tab :: S,e.1 ∉ A.map (·.1) := fun e he => by
 rcases List.mem_cons.1 he with rfl | he
 ·exact own_apart h _ (List.mem_append_left _ hj)
 ·rcases List.mem_cons.1 he with rfl | he
  ·intro hm
   obtain ⟨e2,h2,h3⟩ := List.mem_map.1 hm
   exact h.away (List.mem_append_right _ (List.mem_append_right _ (List.mem_append_left _ h2))) ht h3
  ·exact own_apart h _ (List.mem_append_right _ he)
theorem com_lost {why : Int} {num : Nat} {D : DK} {l : List Wr} (h : why ≠ 0) : commitF ⟨why,num,D⟩ l = (why,⟨why,num,D⟩) := if_pos h
theorem com_bad {why : Int} {num : Nat} {D : DK} {l : List Wr} (h : why = 0) (h2 : l.any (badW D) = true) : commitF ⟨why,num,D⟩ l = (2,⟨why,num,D⟩) := (if_neg (fun e => e h)).trans (if_pos h2)
theorem com_many {why : Int} {num : Nat} {D : DK} {l : List Wr} (h : why = 0) (h2 : l.any (badW D) = false) (h3 : 96 < (risF l).length) : commitF ⟨why,num,D⟩ l = (15,⟨why,num,D⟩) := (if_neg (fun e => e h)).trans ((if_neg (by rw [h2]; decide)).trans (if_pos h3))
theorem com_none {why : Int} {num : Nat} {D : DK} {l : List Wr} (h : why = 0) (h2 : l.any (badW D) = false) (h3 : (risF l).length = 0) : commitF ⟨why,num,D⟩ l = (0,⟨why,num,D⟩) := (if_neg (fun e => e h)).trans ((if_neg (by rw [h2]; decide)).trans ((if_neg (by omega)).trans (if_pos h3)))
theorem com_err {why : Int} {num : Nat} {D : DK} {l : List Wr} (h : why = 0) (h2 : l.any (badW D) = false) (h3 : ¬ 96 < (risF l).length) (h4 : (risF l).length ≠ 0) (h5 : (transF D ((num + 1) % 18446744073709551616) (risF l)).1 ≠ 0) : commitF ⟨why,num,D⟩ l = ((transF D ((num + 1) % 18446744073709551616) (risF l)).1,⟨(transF D ((num + 1) % 18446744073709551616) (risF l)).1,num,(transF D ((num + 1) % 18446744073709551616) (risF l)).2⟩) :=
 (if_neg (fun e => e h)).trans ((if_neg (by rw [h2]; decide)).trans ((if_neg h3).trans ((if_neg h4).trans (if_pos h5))))
theorem com_ok {why : Int} {num : Nat} {D : DK} {l : List Wr} (h : why = 0) (h2 : l.any (badW D) = false) (h3 : ¬ 96 < (risF l).length) (h4 : (risF l).length ≠ 0) (h5 : (transF D ((num + 1) % 18446744073709551616) (risF l)).1 = 0) : commitF ⟨why,num,D⟩ l = (0,⟨0,(num + 1) % 18446744073709551616,(transF D ((num + 1) % 18446744073709551616) (risF l)).2⟩) :=
 (if_neg (fun e => e h)).trans ((if_neg (by rw [h2]; decide)).trans ((if_neg h3).trans ((if_neg h4).trans (if_neg (fun e => e h5)))))
set_option maxRecDepth 100000 in
theorem mKeys2 (r : Nat) (w : World) :
  Calls Tryz.prog 65 #[.map (some r)] w fun e w' => ∃ b : Nat,True ∧ e = .returned (.func (.func 98) #[] #[.pointer (some ⟨b,0,none⟩)]) ∧ w.heap.size ≤ b ∧ w'.heap[b]? = some (.cells #[.map (some r)] 131 (0,0)) ∧ Ext [] w w' := by
 refine enter (vs := [.map (some r)]) [] [] [] Tryz.func65 rfl kr (HP.start w) ?_
 refine Cfg.begL rfl ?_
 refine Le (Eff.box (v := .map (some r)) rfl kr) ?_
 rintro b1 ⟨hb1,nb1⟩
 refine Lp 1 [] (some [1]) n0 trivial ?_
 refine CfgL.done rfl ?_
 refine Rg [2] [] n0 trivial ?_
 refine Cfg.ret rfl (rs := [.tmp 2]) rfl [.func (.func 98) #[] #[.pointer (some ⟨b1,0,none⟩)]] ⟨kr,trivial⟩ (fun w1 hp => ?_)
 exact ⟨b1,trivial,rfl,hb1,hp.own (b1,_) (List.mem_cons_self ..),hp.ext⟩
set_option maxRecDepth 100000 in
set_option maxHeartbeats 8000000 in
theorem jCommit (jb : Nat) (why : Int) (num : Nat) (m : DM) (x : MX) (D : DK) (la : Option Addr) (cap : Nat) (l : List Wr) (Rl : List (Nat × Obj)) (t0 : TypeId) (fr0 : Nat × Nat) (w : World) (hg : DG D) (hmo : MapOk x.1 x.2 (wv2 D.wait)) (hA : Has w ((jb,Obj.cells #[.int .i64 why,.pointer (some ⟨m.d,0,none⟩),.int .u64 (num : Int)] 121 (0,0)) :: dO D m x)) (hd : (((jb,Obj.cells #[.int .i64 why,.pointer (some ⟨m.d,0,none⟩),.int .u64 (num : Int)] 121 (0,0)) :: dO D m x).map (·.1)).Nodup) (hI : InW Rl la l) (hW : WW l) (hl : l.length ≤ 100000) (hs : 0 ≤ D.steps ∧ D.steps ≤ 4611686018425000000) (hR : Has w ((0,Obj.cells (wv Kc) t0 fr0) :: Rl)) (hnr : ∀ e ∈ (0,Obj.cells (wv Kc) t0 fr0) :: Rl,e.1 ∉ ((jb,Obj.cells #[.int .i64 why,.pointer (some ⟨m.d,0,none⟩),.int .u64 (num : Int)] 121 (0,0)) :: dO D m x).map (·.1)) :
  Calls Tryz.prog 18 #[.pointer (some ⟨jb,0,none⟩),.slice la l.length cap] w fun e w' => ∃ x2 : MX,MapOk x2.1 x2.2 (wv2 (commitF ⟨why,num,D⟩ l).2.D.wait) ∧ e = .returned (.int .i64 (commitF ⟨why,num,D⟩ l).1) ∧ ∃ R1,HP w (((jb,Obj.cells #[.int .i64 why,.pointer (some ⟨m.d,0,none⟩),.int .u64 (num : Int)] 121 (0,0)) :: dO D m x).map (·.1)) R1 ((jb,Obj.cells #[.int .i64 ((commitF ⟨why,num,D⟩ l).2.why),.pointer (some ⟨m.d,0,none⟩),.int .u64 ((commitF ⟨why,num,D⟩ l).2.num : Int)] 121 (0,0)) :: dO (commitF ⟨why,num,D⟩ l).2.D m x2) w' := by
 have hnl := hg.n
 obtain ⟨n2,hn2⟩ : ∃ n,n = ((num + 1) % 18446744073709551616) := ⟨_,rfl⟩
 have hn3 : n2 < 18446744073709551616 := by rw [hn2]; exact Nat.mod_lt _ (by decide)
 have hn4 : ((num : Int) + 1) % 18446744073709551616 = (n2 : Int) := by omega
 obtain ⟨T,hT⟩ : ∃ T,T = transF D n2 (risF l) := ⟨_,rfl⟩
 refine enter (vs := [.pointer (some ⟨jb,0,none⟩),.slice la l.length cap]) (((jb,Obj.cells #[.int .i64 why,.pointer (some ⟨m.d,0,none⟩),.int .u64 (num : Int)] 121 (0,0)) :: dO D m x).map (·.1)) ((0,Obj.cells (wv Kc) t0 fr0) :: Rl) ([(jb,.cells #[.int .i64 why,.pointer (some ⟨m.d,0,none⟩),.int .u64 (num : Int)] 121 (0,0))] ++ (dO D m x ++ [])) Tryz.func18 rfl kr (by rw [List.append_nil]; exact HP.ofL hA hd hR hnr) ?_
 refine Rg [0,1] [] n0 trivial ?_
 refine Rg [0,1,14] [] n0 trivial ?_
 refine Cfg.condF rfl (b := false) kr rfl ?_
 refine Cfg.begL rfl ?_
 refine Lp 3 [] (some [0,1,17]) n0 trivial ?_
 refine Le (Eff.callA (vs := [.pointer (some ⟨jb,0,none⟩)]) (.bool (why != (0 : Int))) rfl Tryz.func63 rfl rfl kr (fun w1 h => jLost jb why num m w1 (fun e he => by rw [List.mem_singleton.1 he]; exact h.own (jb,_) (List.mem_append_left _ (List.mem_of_getElem? (i := 0) rfl))))) ?_
 rintro ⟨⟩ -
 refine CfgL.done rfl ?_
 refine Cg (Γ' := [(18,[],.bool (why != (0 : Int))),(0,[],.pointer (some ⟨jb,0,none⟩)),(1,[],.slice la l.length cap)]) ?_
 refine Cfg.cond rfl (b := (why != (0 : Int))) kr (fun c2r => ?_) (fun c2r => ?_)
 ·have c2 := (bne_iff_ne.1 c2r)
  refine Rg [4] [dZ,dZ,dZ,dZ,(0,false,some (.int .i64 why))] (fun S => [(∀ w1,S w1 → w1.cell? ⟨jb,0,none⟩ = some (.int .i64 why))]) ⟨(fun w1 h => h.ocell 0 rfl rfl),trivial⟩ ?_
  refine Cfg.ret rfl (rs := [.tmp 4]) rfl [.int .i64 why] ⟨kr,trivial⟩ (fun w1 hp => ?_)
  have hx : commitF ⟨why,num,D⟩ l = (why,⟨why,num,D⟩) := by
   have h8 := com_lost (num := num) (D := D) (l := l) c2
   first | exact h8 | (rw [← hn2,← hT] at h8; exact h8)
  rw [hx]
  have h9 : HP w (((jb,Obj.cells #[.int .i64 why,.pointer (some ⟨m.d,0,none⟩),.int .u64 (num : Int)] 121 (0,0)) :: dO D m x).map (·.1)) ((0,Obj.cells (wv Kc) t0 fr0) :: Rl) ([(jb,Obj.cells #[.int .i64 why,.pointer (some ⟨m.d,0,none⟩),.int .u64 (num : Int)] 121 (0,0))] ++ (dO D m x ++ [])) w1 := hp.sub (.cons_cons _ (List.Sublist.refl _))
  rw [List.append_nil] at h9
  exact ⟨x,hmo,rfl,_,h9⟩
 ·have c2 := (bne_eq_false_iff_eq.1 c2r)
  refine Cfg.begL rfl ?_
  refine Le (Eff.mapNew rfl) ?_
  rintro mb ⟨hmb,nmb⟩
  refine Lp 1 [] (some [0,1,5]) n0 trivial ?_
  refine CfgL.done rfl ?_
  refine Rg [0,1,5,25,26,27] [] n0 trivial ?_
  refine Cfg.loop rfl (ι := Nat × Array MapEntry × Nat) (fun (xz : Nat × Array MapEntry × Nat) => match xz with | (i,z) => [(27,[],.int .i64 (i : Int)),(26,[],.int .i64 (l.length : Int)),(25,[],.slice la l.length cap),(5,[],.map (some mb)),(0,[],.pointer (some ⟨jb,0,none⟩)),(1,[],.slice la l.length cap)]) (fun (xz : Nat × Array MapEntry × Nat) => match xz with | (i,z) => ([(mb,.map z.1 z.2),(jb,.cells #[.int .i64 why,.pointer (some ⟨m.d,0,none⟩),.int .u64 (num : Int)] 121 (0,0))] ++ (dO D m x ++ []))) (fun (xz : Nat × Array MapEntry × Nat) => match xz with | (i,z) => (i ≤ l.length) ∧ (MapOk z.1 z.2 (iv2 (lastM l i))) ∧ (∀ j,j < i → badW D (l.getD j wz) = false)) (fun (xz : Nat × Array MapEntry × Nat) => match xz with | (i,z) => l.length - i) (0,(#[],0)) ?_ (Conv.mk kr) (List.Sublist.refl _) ?_
  ·exact ⟨Nat.zero_le _,MapOk.empty _,fun j h => absurd h (Nat.not_lt_zero j)⟩
  ·rintro ⟨i,z⟩ ⟨hi,hz,hnb⟩
   refine Rg [0,1,5,25,26,27,28] [] n0 trivial ?_
   refine Cfg.cond rfl (b := (decide ((i : Int) < (l.length : Int)))) kr (fun c3r => ?_) (fun c3r => ?_)
   ·have c3 := (of_decide_eq_true c3r)
    obtain ⟨sb,off,cs,te,fre,rfl,hmem,hcs⟩ := hI om
    refine Conv.cfg (Γ' := [(28,[],.bool (decide ((i : Int) < (l.length : Int)))),(27,[],.int .i64 (i : Int)),(26,[],.int .i64 (l.length : Int)),(25,[],.slice (some ⟨sb,off,none⟩) l.length cap),(5,[],.map (some mb)),(0,[],.pointer (some ⟨jb,0,none⟩)),(1,[],.slice (some ⟨sb,off,none⟩) l.length cap)]) (Conv.mk kr) ?_
    refine Cfg.begL rfl ?_
    refine Lp 3 [dZ,dZ,(0,false,some (.agg (jc (l.getD i wz)).toArray))] (some [0,1,5,25,26,27,29,31]) (fun S => [(0 ≤ (i : Int) ∧ (i : Int) < (l.length : Int)),(∀ w1,S w1 → (loadVar 79 ⟨sb,(addO off (i * 513)),none⟩).run Tryz.prog w1 = .ok (.agg (jc (l.getD i wz)).toArray) w1)]) ⟨om,(fun w1 h => load_list Tryz.underlying79 rfl kr (jc_len (hW.at i)) (fun j v hj => by rw [addO_eq]; exact (cell_cells (h.ro _ (List.mem_cons_of_mem _ hmem))).trans (wr_cell hW hcs om hj))),trivial⟩ ?_
    refine Le (Eff.alloc (z := (.agg (jc wz).toArray)) rfl kr) ?_
    rintro wb ⟨hwb,nwb⟩
    refine Lp 1 [] (some [0,1,5,6,7,25,26,27,31]) n0 trivial ?_
    refine Le (Eff.storeN (b := wb) (off := 0) (vs := (jc (l.getD i wz)).toArray) (n := 513) rfl kr kr kr (by rw [List.size_toArray,jc_len (hW.at i)]) (jc_all _) 0 (cs := (jc wz).toArray) (e := 79) kr (by show 0 + 513 ≤ (jc wz).toArray.size; rw [List.size_toArray,jc_len zb_len]; decide)) ?_
    rintro ⟨⟩ -
    refine CfgL.setO (congrArg (fun (xq : Array Value) => (([(wb,.cells xq 79 (0,0)),(mb,.map z.1 z.2),(jb,.cells #[.int .i64 why,.pointer (some ⟨m.d,0,none⟩),.int .u64 (num : Int)] 121 (0,0))] ++ (dO D m x ++ [])) : List (Nat × Obj))) (show _ = ((jc (l.getD i wz)).toArray) from spl_all (by rw [List.size_toArray,List.size_toArray,jc_len (hW.at i)]; exact (jc_len zb_len).symm))) ?_
    refine CfgL.done rfl ?_
    refine Cg (Γ' := [(6,[],.int .i64 (i : Int)),(7,[],.pointer (some ⟨wb,0,none⟩)),(27,[],.int .i64 (i : Int)),(26,[],.int .i64 (l.length : Int)),(25,[],.slice (some ⟨sb,off,none⟩) l.length cap),(5,[],.map (some mb)),(0,[],.pointer (some ⟨jb,0,none⟩)),(1,[],.slice (some ⟨sb,off,none⟩) l.length cap)]) ?_
    refine Cfg.begA rfl kr ([(wb,.cells ((jc (l.getD i wz)).toArray) 79 (0,0)),(mb,.map z.1 z.2),(jb,.cells #[.int .i64 why,.pointer (some ⟨m.d,0,none⟩),.int .u64 (num : Int)] 121 (0,0))] ++ (dO D m x ++ [])) ?_
    refine Ap [0,1,2,3] [dZ,(0,false,some (.int .i64 ((l.getD i wz).1)))] (some [0,1,5,6,7,25,26,27,35]) #[true,true,true,true,false,false,false,false,false,false] (.cons_cons _ (.cons_cons _ (.cons_cons _ (List.Sublist.refl _)))) 6 (fun S => [(∀ w1,S w1 → w1.cell? ⟨wb,0,none⟩ = some (.int .i64 ((l.getD i wz).1)))]) ⟨(fun w1 h => h.ocell 0 rfl rfl),trivial⟩ ?_
    by_cases c4 : (decide (((l.getD i wz).1) < (97 : Int))) = true
    ·have c4k : (decide (((l.getD i wz).1) < (97 : Int))) = true := c4
     have c4q := (of_decide_eq_true c4k)
     refine CfgA.known 35 (b := (decide (((l.getD i wz).1) < (97 : Int)))) kr true c4k ?_
     refine Ap [4,5,6,7,8,9] [(2,false,none),(2,false,none),(2,false,none),(2,false,none),(2,false,none)] (some [0,1,5,6,7,25,26,27,41]) #[true,true,true,true,true,true,true,true,true,true] (.cons_cons _ (.cons_cons _ (.cons_cons _ (List.Sublist.refl _)))) 0 (fun _ => [((.bool true : Value) ≠ .bool false),((.bool true : Value) ≠ .bool false),((.bool true : Value) ≠ .bool false),((.bool true : Value) ≠ .bool false),((.bool true : Value) ≠ .bool false)]) ⟨(by simp),(by simp),(by simp),(by simp),(by simp),trivial⟩ ?_
     refine CfgA.done kr ?_
     refine Cfg.condT rfl (b := true) kr rfl ?_
     refine Rg [4] [] n0 trivial ?_
     refine Cfg.ret rfl (rs := [.tmp 4]) rfl [.int .i64 2] ⟨kr,trivial⟩ (fun w1 hp => ?_)
     have hx : commitF ⟨why,num,D⟩ l = (2,⟨why,num,D⟩) := by
      have h8 := com_bad (num := num) (D := D) (l := l) c2 (any_yes (i := i) om (by unfold badW; rw [Bool.or_eq_true,decide_eq_true_eq,decide_eq_true_eq]; omega))
      first | exact h8 | (rw [← hn2,← hT] at h8; exact h8)
     rw [hx]
     have h9 : HP w (((jb,Obj.cells #[.int .i64 why,.pointer (some ⟨m.d,0,none⟩),.int .u64 (num : Int)] 121 (0,0)) :: dO D m x).map (·.1)) ((0,Obj.cells (wv Kc) t0 fr0) :: Rl) ([(jb,Obj.cells #[.int .i64 why,.pointer (some ⟨m.d,0,none⟩),.int .u64 (num : Int)] 121 (0,0))] ++ (dO D m x ++ [])) w1 := hp.sub (.cons _ (.cons _ (.cons_cons _ (List.Sublist.refl _))))
     rw [List.append_nil] at h9
     exact ⟨x,hmo,rfl,_,h9⟩
    ·have c4k : (decide (((l.getD i wz).1) < (97 : Int))) = false := (by simpa using c4)
     have c4q := (of_decide_eq_false c4k)
     refine CfgA.known 35 (b := (decide (((l.getD i wz).1) < (97 : Int)))) kr false c4k ?_
     refine Ap [4,5,6] [(1,false,none),(1,false,some (.int .i64 ((l.getD i wz).1))),(1,false,none)] (some [0,1,5,6,7,25,26,27,35,37,38]) #[true,true,true,true,true,true,true,false,false,false] (.cons_cons _ (.cons_cons _ (.cons_cons _ (List.Sublist.refl _)))) 3 (fun S => [((.bool false : Value) = .bool false),((.bool false : Value) = .bool false),(∀ w1,S w1 → w1.cell? ⟨wb,0,none⟩ = some (.int .i64 ((l.getD i wz).1))),((.bool false : Value) = .bool false)]) ⟨rfl,rfl,(fun w1 h => h.ocell 0 rfl rfl),rfl,trivial⟩ ?_
     refine Ae 7 rfl 2  (Eff.callA (vs := [.pointer (some ⟨jb,0,none⟩)]) (.int .i64 (D.last.length : Int)) rfl Tryz.func22 rfl rfl kr (fun w1 h => jSectors jb why num m x D w1 (fun e he => (List.mem_cons.1 he).elim (fun h1 => h1 ▸ h.own (jb,_) (List.mem_append_left _ (List.mem_of_getElem? (i := 2) rfl))) (fun h1 => h.own e (List.mem_append_right _ (List.mem_append_left _ h1)))))) (fun _ _ => (.cons_cons _ (.cons_cons _ (.cons_cons _ (List.Sublist.refl _))))) ?_
     rintro ⟨⟩ -
     refine Ap [8,9] [(1,false,none)] (some [0,1,5,6,7,25,26,27,41]) #[true,true,true,true,true,true,true,true,true,true] (.cons_cons _ (.cons_cons _ (.cons_cons _ (List.Sublist.refl _)))) 0 (fun _ => [((.bool false : Value) = .bool false)]) ⟨rfl,trivial⟩ ?_
     refine CfgA.done kr ?_
     refine Cfg.cond rfl (b := (decide (((l.getD i wz).1) ≥ (D.last.length : Int)))) kr (fun c6r => ?_) (fun c6r => ?_)
     ·have c6 := (of_decide_eq_true c6r)
      refine Rg [4] [] n0 trivial ?_
      refine Cfg.ret rfl (rs := [.tmp 4]) rfl [.int .i64 2] ⟨kr,trivial⟩ (fun w1 hp => ?_)
      have hx : commitF ⟨why,num,D⟩ l = (2,⟨why,num,D⟩) := by
       have h8 := com_bad (num := num) (D := D) (l := l) c2 (any_yes (i := i) om (by unfold badW; rw [Bool.or_eq_true,decide_eq_true_eq,decide_eq_true_eq]; omega))
       first | exact h8 | (rw [← hn2,← hT] at h8; exact h8)
      rw [hx]
      have h9 : HP w (((jb,Obj.cells #[.int .i64 why,.pointer (some ⟨m.d,0,none⟩),.int .u64 (num : Int)] 121 (0,0)) :: dO D m x).map (·.1)) ((0,Obj.cells (wv Kc) t0 fr0) :: Rl) ([(jb,Obj.cells #[.int .i64 why,.pointer (some ⟨m.d,0,none⟩),.int .u64 (num : Int)] 121 (0,0))] ++ (dO D m x ++ [])) w1 := hp.sub (.cons _ (.cons _ (.cons_cons _ (List.Sublist.refl _))))
      rw [List.append_nil] at h9
      exact ⟨x,hmo,rfl,_,h9⟩
     ·have c6 := (of_decide_eq_false c6r)
      refine Cfg.begL rfl ?_
      refine Lp 4 [dZ,dZ,(0,false,some (.int .i64 ((l.getD i wz).1)))] (some [0,1,5,25,26,27,42,44,45]) (fun S => [(∀ w1,S w1 → w1.cell? ⟨wb,0,none⟩ = some (.int .i64 ((l.getD i wz).1)))]) ⟨(fun w1 h => h.ocell 0 rfl rfl),trivial⟩ ?_
      refine Le (Eff.mapSet (r := mb) (k := (l.getD i wz).1) (u := .int .i64 (i : Int)) (es := z.1) (ck := z.2) rfl Tryz.underlying131 Tryz.underlying3 kr kr kr hz 1 kr) ?_
      rintro yq hyq
      refine CfgL.done rfl ?_
      refine Cg (Γ' := [(27,[],.int .i64 (i : Int)),(26,[],.int .i64 (l.length : Int)),(25,[],.slice (some ⟨sb,off,none⟩) l.length cap),(5,[],.map (some mb)),(0,[],.pointer (some ⟨jb,0,none⟩)),(1,[],.slice (some ⟨sb,off,none⟩) l.length cap)]) ?_
      refine Rg [0,1,5,25,26,27] [] (fun _ => [((-9223372036854775808 : Int) ≤ ((i : Int) + 1) ∧ ((i : Int) + 1) ≤ 9223372036854775807)]) ⟨om,trivial⟩ ?_
      have hbd : badW D (l.getD i wz) = false := by unfold badW; rw [Bool.or_eq_false_iff,decide_eq_false_iff_not,decide_eq_false_iff_not]; omega
      refine Cfg.again rfl (i + 1,yq) ⟨by omega,(by have h9 := hyq; rw [mset_iv] at h9; exact h9),fun j hj => by rcases Nat.lt_or_ge j i with h1 | h1; exact hnb j h1; rw [show j = i by omega]; exact hbd⟩ (by show l.length - (i + 1) < l.length - i; omega) (Conv.mk kr) (.cons _ (.cons_cons _ (.cons_cons _ (List.Sublist.refl _))))
   ·have c3 := (of_decide_eq_false c3r)
    obtain rfl : i = l.length := by omega
    have hno := any_no hnb
    have hll := lastM_len l l.length
    refine Conv.cfg (Γ' := [(5,[],.map (some mb)),(0,[],.pointer (some ⟨jb,0,none⟩)),(1,[],.slice la l.length cap)]) (Conv.mk kr) ?_
    refine Cfg.begL rfl ?_
    refine Lp 1 [] none n0 trivial ?_
    refine Le (Eff.mapLen (r := mb) rfl Tryz.underlying131 kr hz (fun w1 h => h.own (mb,_) (show (mb,Obj.map z.1 z.2) ∈ ([(mb,Obj.map z.1 z.2),(jb,Obj.cells #[.int .i64 why,.pointer (some ⟨m.d,0,none⟩),.int .u64 (num : Int)] 121 (0,0))] ++ (dO D m x ++ [])) from List.mem_append_left _ (List.mem_of_getElem? (i := 0) rfl))) (iv2_len _)) ?_
    rintro ⟨⟩ -
    refine Lp 1 [] (some [0,1,5,49]) n0 trivial ?_
    refine CfgL.done rfl ?_
    refine Cfg.cond rfl (b := (decide (((lastM l l.length).length : Int) > (96 : Int)))) kr (fun c7r => ?_) (fun c7r => ?_)
    ·have c7 := (of_decide_eq_true c7r)
     refine Rg [4] [] n0 trivial ?_
     refine Cfg.ret rfl (rs := [.tmp 4]) rfl [.int .i64 15] ⟨kr,trivial⟩ (fun w1 hp => ?_)
     have hx : commitF ⟨why,num,D⟩ l = (15,⟨why,num,D⟩) := by
      have h8 := com_many (num := num) (D := D) (l := l) c2 hno (by rw [risF_len]; omega)
      first | exact h8 | (rw [← hn2,← hT] at h8; exact h8)
     rw [hx]
     have h9 : HP w (((jb,Obj.cells #[.int .i64 why,.pointer (some ⟨m.d,0,none⟩),.int .u64 (num : Int)] 121 (0,0)) :: dO D m x).map (·.1)) ((0,Obj.cells (wv Kc) t0 fr0) :: Rl) ([(jb,Obj.cells #[.int .i64 why,.pointer (some ⟨m.d,0,none⟩),.int .u64 (num : Int)] 121 (0,0))] ++ (dO D m x ++ [])) w1 := hp.sub (.cons _ (.cons_cons _ (List.Sublist.refl _)))
     rw [List.append_nil] at h9
     exact ⟨x,hmo,rfl,_,h9⟩
    ·have c7 := (of_decide_eq_false c7r)
     refine Cfg.begL rfl ?_
     refine Lp 1 [] (some [0,1,5,50]) n0 trivial ?_
     refine Le (Eff.mapLen (r := mb) rfl Tryz.underlying131 kr hz (fun w1 h => h.own (mb,_) (show (mb,Obj.map z.1 z.2) ∈ ([(mb,Obj.map z.1 z.2),(jb,Obj.cells #[.int .i64 why,.pointer (some ⟨m.d,0,none⟩),.int .u64 (num : Int)] 121 (0,0))] ++ (dO D m x ++ [])) from List.mem_append_left _ (List.mem_of_getElem? (i := 0) rfl))) (iv2_len _)) ?_
     rintro ⟨⟩ -
     refine Lp 1 [] (some [0,1,5,52]) n0 trivial ?_
     refine CfgL.done rfl ?_
     refine Cfg.cond rfl (b := (((lastM l l.length).length : Int) == (0 : Int))) kr (fun c8r => ?_) (fun c8r => ?_)
     ·have c8 := (beq_iff_eq.1 c8r)
      refine Rg [4] [] n0 trivial ?_
      refine Cfg.ret rfl (rs := [.tmp 4]) rfl [.int .i64 0] ⟨kr,trivial⟩ (fun w1 hp => ?_)
      have hx : commitF ⟨why,num,D⟩ l = (0,⟨why,num,D⟩) := by
       have h8 := com_none (num := num) (D := D) (l := l) c2 hno (by rw [risF_len]; omega)
       first | exact h8 | (rw [← hn2,← hT] at h8; exact h8)
      rw [hx]
      have h9 : HP w (((jb,Obj.cells #[.int .i64 why,.pointer (some ⟨m.d,0,none⟩),.int .u64 (num : Int)] 121 (0,0)) :: dO D m x).map (·.1)) ((0,Obj.cells (wv Kc) t0 fr0) :: Rl) ([(jb,Obj.cells #[.int .i64 why,.pointer (some ⟨m.d,0,none⟩),.int .u64 (num : Int)] 121 (0,0))] ++ (dO D m x ++ [])) w1 := hp.sub (.cons _ (.cons_cons _ (List.Sublist.refl _)))
      rw [List.append_nil] at h9
      exact ⟨x,hmo,rfl,_,h9⟩
     ·have c8 := (beq_eq_false_iff_ne.1 c8r)
      refine Cfg.reg rfl [0,1,5,8] [] (Γ' := [(8,[],.slice none 0 0),(5,[],.map (some mb)),(0,[],.pointer (some ⟨jb,0,none⟩)),(1,[],.slice la l.length cap)]) (nd := (fun _ => [])) (fun _ => kr) trivial ?_
      refine Cfg.begL rfl ?_
      refine Lp 1 [] none n0 trivial ?_
      refine Le (Eff.callN (vs := [.map (some mb)]) (fun tb => .func (.func 98) #[] #[.pointer (some ⟨tb,0,none⟩)]) (fun tb => tb) (fun _ => .cells #[.map (some mb)] 131 (0,0)) (fun _ => True) rfl Tryz.func65 rfl rfl kr (fun w1 h => mKeys2 mb w1)) ?_
      rintro tb -
      refine Le (Eff.callOF (vs := [.func (.func 98) #[] #[.pointer (some ⟨tb,0,none⟩)]]) 3 1 (lastM l l.length).length ((keysN (lastM l l.length)).map Go.encZ) [(tb,.cells #[.map (some mb)] 131 (0,0)),(mb,.map z.1 z.2),(jb,.cells #[.int .i64 why,.pointer (some ⟨m.d,0,none⟩),.int .u64 (num : Int)] 121 (0,0))] ([] ++ (dO D m x ++ [])) rfl rfl Tryz.func64 rfl rfl kr (fun w1 h => by have h9 := sorted_gives L.ksorted65 tb mb z.1 z.2 (iv2 (lastM l l.length)) w1 hz (h.own (mb,_) (List.mem_of_getElem? (i := 1) rfl)) (fun p hp => by obtain ⟨q,hq,rfl⟩ := List.mem_map.1 hp; obtain ⟨k,hk1,hk2⟩ := lastM_mem l l.length q hq; have h8 := badW_no (hnb k hk1); rw [← hk2] at h8; simp only; omega) (by rw [iv2_len]; omega) (h.ocell 0 rfl rfl); rw [iv2_len,iv2_keys] at h9; exact h9)) ?_
      rintro o ko
      refine Lp 2 [] (some [0,1,5,8,55,56,57]) n0 trivial ?_
      refine CfgL.done rfl ?_
      obtain ⟨⟨ob,oc,oj⟩,rfl⟩ := own_some ko om
      refine Cfg.setO (O' := ([(tb,.cells #[.map (some mb)] 131 (0,0)),(mb,.map z.1 z.2),(jb,.cells #[.int .i64 why,.pointer (some ⟨m.d,0,none⟩),.int .u64 (num : Int)] 121 (0,0)),(ob,.cells ((((keysN (lastM l l.length)).map Go.encZ) ++ oj).toArray) 3 (0,0))] ++ (dO D m x ++ []))) rfl ?_
      refine Conv.cfg (Γ' := [(57,[],.int .i64 0),(56,[],.int .i64 ((lastM l l.length).length : Int)),(55,[],.slice (some ⟨ob,0,none⟩) (lastM l l.length).length oc),(8,[],.slice none 0 0),(5,[],.map (some mb)),(0,[],.pointer (some ⟨jb,0,none⟩)),(1,[],.slice la l.length cap)]) (Conv.mk kr) ?_
      refine Cfg.loop rfl (ι := Nat × K.Own) (fun (xz : Nat × K.Own) => match xz with | (j,or) => [(57,[],.int .i64 (j : Int)),(56,[],.int .i64 ((lastM l l.length).length : Int)),(55,[],.slice (some ⟨ob,0,none⟩) (lastM l l.length).length oc),(8,[],.slice (Own.a or) j (Own.c or)),(5,[],.map (some mb)),(0,[],.pointer (some ⟨jb,0,none⟩)),(1,[],.slice la l.length cap)]) (fun (xz : Nat × K.Own) => match xz with | (j,or) => ([(tb,.cells #[.map (some mb)] 131 (0,0)),(mb,.map z.1 z.2),(jb,.cells #[.int .i64 why,.pointer (some ⟨m.d,0,none⟩),.int .u64 (num : Int)] 121 (0,0)),(ob,.cells ((((keysN (lastM l l.length)).map Go.encZ) ++ oj).toArray) 3 (0,0))] ++ (Own.o 79 (jv ((risF l).take j)) or ++ (dO D m x ++ [])))) (fun (xz : Nat × K.Own) => match xz with | (j,or) => (j ≤ (lastM l l.length).length) ∧ (OwnOk or 513 j (jv ((risF l).take j)))) (fun (xz : Nat × K.Own) => match xz with | (j,or) => (lastM l l.length).length - j) (0,none) ?_ (Conv.mk kr) (List.Sublist.refl _) ?_
      ·exact ⟨Nat.zero_le _,OwnOk.none _⟩
      ·rintro ⟨j,or⟩ ⟨hj,hor⟩
       refine Rg [0,1,5,8,55,56,57,58] [] n0 trivial ?_
       refine Cfg.cond rfl (b := (decide ((j : Int) < ((lastM l l.length).length : Int)))) kr (fun c9r => ?_) (fun c9r => ?_)
       ·have c9 := (of_decide_eq_true c9r)
        refine Rg [0,1,5,8,10,55,56,57] [dZ,(0,false,some (.int .i64 ((keysN (lastM l l.length)).getD j 0)))] (fun S => [(0 ≤ (j : Int) ∧ (j : Int) < ((lastM l l.length).length : Int)),(∀ w1,S w1 → w1.cell? ⟨ob,j,none⟩ = some (.int .i64 ((keysN (lastM l l.length)).getD j 0)))]) ⟨om,(fun w1 h => key_cell (h.own (ob,_) (List.mem_append_left _ (List.mem_of_getElem? (i := 3) rfl))) (by rw [keysN_len]; omega)),trivial⟩ ?_
        obtain ⟨gk,hgk,hkl⟩ := key_in (l := l) (j := j) om
        obtain ⟨sb,off,cs,te,fre,rfl,hmem,hcs⟩ := hI om
        refine Conv.cfg (Γ' := [(10,[],.int .i64 ((keysN (lastM l l.length)).getD j 0)),(57,[],.int .i64 (j : Int)),(56,[],.int .i64 ((lastM l l.length).length : Int)),(55,[],.slice (some ⟨ob,0,none⟩) (lastM l l.length).length oc),(8,[],.slice (Own.a or) j (Own.c or)),(5,[],.map (some mb)),(0,[],.pointer (some ⟨jb,0,none⟩)),(1,[],.slice (some ⟨sb,off,none⟩) l.length cap)]) (Conv.mk kr) ?_
        refine Cfg.begL rfl ?_
        refine Lp 4 [] (some [0,1,5,8,55,56,57,61,62,63,64]) n0 trivial ?_
        refine Le (Eff.mapGetV (z := .int .i64 0) (r := mb) (k := ((keysN (lastM l l.length)).getD j 0)) (v := .int .i64 (((nget (lastM l l.length) ((keysN (lastM l l.length)).getD j 0)).getD 0) : Int)) rfl Tryz.underlying131 Tryz.underlying3 kr kr kr hz (fun w1 h => h.own (mb,_) (show (mb,Obj.map z.1 z.2) ∈ ([(tb,Obj.cells #[.map (some mb)] 131 (0,0)),(mb,Obj.map z.1 z.2),(jb,Obj.cells #[.int .i64 why,.pointer (some ⟨m.d,0,none⟩),.int .u64 (num : Int)] 121 (0,0)),(ob,Obj.cells ((((keysN (lastM l l.length)).map Go.encZ) ++ oj).toArray) 3 (0,0))] ++ (Own.o 79 (jv ((risF l).take j)) or ++ (dO D m x ++ []))) from List.mem_append_left _ (List.mem_of_getElem? (i := 1) rfl))) (by rw [mget_iv,hgk]; rfl)) ?_
        rintro ⟨⟩ -
        refine Lp 2 [dZ,(0,false,some (.agg (jc (atN l (lastM l l.length) ((keysN (lastM l l.length)).getD j 0))).toArray))] (some [0,1,5,8,55,56,57,61,67]) (fun S => [(0 ≤ (((nget (lastM l l.length) ((keysN (lastM l l.length)).getD j 0)).getD 0) : Int) ∧ (((nget (lastM l l.length) ((keysN (lastM l l.length)).getD j 0)).getD 0) : Int) < (l.length : Int)),(∀ w1,S w1 → (loadVar 79 ⟨sb,(addO off ((((nget (lastM l l.length) ((keysN (lastM l l.length)).getD j 0)).getD 0)) * 513)),none⟩).run Tryz.prog w1 = .ok (.agg (jc (atN l (lastM l l.length) ((keysN (lastM l l.length)).getD j 0))).toArray) w1)]) ⟨(by rw [hgk]; show 0 ≤ ((gk : Nat) : Int) ∧ ((gk : Nat) : Int) < _; omega),(fun w1 h => load_list Tryz.underlying79 rfl kr (jc_len (hW.at _)) (fun j v hj => by rw [addO_eq]; exact (cell_cells (h.ro _ (List.mem_cons_of_mem _ hmem))).trans (wr_cell hW hcs (by rw [hgk]; exact hkl) hj))),trivial⟩ ?_
        refine Le (Eff.buildAgg (vs := (jc (atN l (lastM l l.length) ((keysN (lastM l l.length)).getD j 0))).toArray) (n := 513) rfl kr Tryz.underlying28 kr (z := (.agg (jc wz).toArray)) kr (by rw [List.size_toArray]; exact jc_len (hW.at _)) (by decide) (by decide)) ?_
        rintro kb ⟨hkb,nkb⟩
        refine Le (Eff.appendF rfl 513 520 Tryz.underlying28 kr (z := (.agg (jc wz).toArray)) kr kr or (xs := (jv ((risF l).take j))) hor kr (b2 := kb) (off2 := 0) (m := 1) (c2 := 1) kr (jc (atN l (lastM l l.length) ((keysN (lastM l l.length)).getD j 0))) (jc_len (hW.at _)) (jc_all _) [(kb,.cells ((jc (atN l (lastM l l.length) ((keysN (lastM l l.length)).getD j 0))).toArray) 79 (0,0)),(tb,.cells #[.map (some mb)] 131 (0,0)),(mb,.map z.1 z.2),(jb,.cells #[.int .i64 why,.pointer (some ⟨m.d,0,none⟩),.int .u64 (num : Int)] 121 (0,0)),(ob,.cells ((((keysN (lastM l l.length)).map Go.encZ) ++ oj).toArray) 3 (0,0))] ([] ++ (dO D m x ++ [])) (by rfl) (fun w1 h j v hj => by rw [Nat.zero_add]; exact h.ocell 0 rfl (by rw [List.getElem?_toArray]; exact hj)) om om) ?_
        rintro o5 ko5
        refine Lp 1 [] (some [0,1,5,8,55,56,57]) n0 trivial ?_
        refine CfgL.done rfl ?_
        refine Cfg.reg rfl [0,1,5,8,55,56,57] [] (Γ' := [(57,[],.int .i64 ((j : Int) + 1)),(8,[],.slice (Own.a o5) ((j + 1)) (Own.c o5)),(56,[],.int .i64 ((lastM l l.length).length : Int)),(55,[],.slice (some ⟨ob,0,none⟩) (lastM l l.length).length oc),(5,[],.map (some mb)),(0,[],.pointer (some ⟨jb,0,none⟩)),(1,[],.slice (some ⟨sb,off,none⟩) l.length cap)]) (nd := (fun _ => [((-9223372036854775808 : Int) ≤ ((j : Int) + 1) ∧ ((j : Int) + 1) ≤ 9223372036854775807)])) (fun _ => kr) ⟨om,trivial⟩ ?_
        have hrv := ris_take (l := l) (j := j) om
        refine Cfg.setO (congrArg (fun (xq : List Value) => (([(kb,.cells ((jc (atN l (lastM l l.length) ((keysN (lastM l l.length)).getD j 0))).toArray) 79 (0,0)),(tb,.cells #[.map (some mb)] 131 (0,0)),(mb,.map z.1 z.2),(jb,.cells #[.int .i64 why,.pointer (some ⟨m.d,0,none⟩),.int .u64 (num : Int)] 121 (0,0)),(ob,.cells ((((keysN (lastM l l.length)).map Go.encZ) ++ oj).toArray) 3 (0,0))] ++ (Own.o 79 xq o5 ++ (dO D m x ++ []))) : List (Nat × Obj))) (show _ = (jv ((risF l).take (j + 1))) from hrv)) ?_
        refine Cfg.again rfl (j + 1,o5) ⟨by omega,hrv ▸ ko5⟩ (by show (lastM l l.length).length - (j + 1) < (lastM l l.length).length - j; omega) (Conv.mk kr) (.cons _ (.cons_cons _ (.cons_cons _ (.cons_cons _ (.cons_cons _ (List.Sublist.refl _))))))
       ·have c9 := (of_decide_eq_false c9r)
        obtain rfl : j = (lastM l l.length).length := by omega
        have htk : (risF l).take (lastM l l.length).length = risF l := List.take_of_length_le (by rw [risF_len]; exact Nat.le_refl _)
        rw [htk] at hor
        have hor2 : OwnOk or 513 (risF l).length (jv (risF l)) := by rw [risF_len]; exact hor
        refine Cfg.setO (congrArg (fun (xq : List Value) => (([(tb,.cells #[.map (some mb)] 131 (0,0)),(mb,.map z.1 z.2),(jb,.cells #[.int .i64 why,.pointer (some ⟨m.d,0,none⟩),.int .u64 (num : Int)] 121 (0,0)),(ob,.cells ((((keysN (lastM l l.length)).map Go.encZ) ++ oj).toArray) 3 (0,0))] ++ (Own.o 79 xq or ++ (dO D m x ++ []))) : List (Nat × Obj))) (show _ = (jv (risF l)) from by rw [htk])) ?_
        refine Conv.cfg (Γ' := [(8,[],.slice (Own.a or) ((lastM l l.length).length) (Own.c or)),(0,[],.pointer (some ⟨jb,0,none⟩))]) (Conv.mk kr) ?_
        refine Cg (Γ' := [(8,[],.slice (Own.a or) ((lastM l l.length).length) (Own.c or)),(0,[],.pointer (some ⟨jb,0,none⟩))]) ?_
        refine Cfg.setG (congrArg (fun (xq : Nat) => ([(8,[],.slice (Own.a or) xq (Own.c or)),(0,[],.pointer (some ⟨jb,0,none⟩))] : Env)) (show _ = ((risF l).length) from (risF_len l).symm)) ?_
        refine Rg [0,8,11] [dZ,dZ,dZ,(0,false,some (.int .u64 (num : Int)))] (fun S => [(∀ w1,S w1 → w1.cell? ⟨jb,2,none⟩ = some (.int .u64 (num : Int)))]) ⟨(fun w1 h => h.ocell 2 rfl rfl),trivial⟩ ?_
        refine Cg (Γ' := [(11,[],.int .u64 (((num : Int) + 1) % 18446744073709551616)),(8,[],.slice (Own.a or) ((risF l).length) (Own.c or)),(0,[],.pointer (some ⟨jb,0,none⟩))]) ?_
        refine Cfg.setG (congrArg (fun (xq : Int) => ([(11,[],.int .u64 xq),(8,[],.slice (Own.a or) ((risF l).length) (Own.c or)),(0,[],.pointer (some ⟨jb,0,none⟩))] : Env)) (show _ = (n2 : Int) from hn4)) ?_
        refine Cfg.begL rfl ?_
        refine Lp 3 [] (some [0,11,76,77,78]) n0 trivial ?_
        refine Le (Eff.callH (vs := [.pointer (some ⟨jb,0,none⟩),.int .u64 (n2 : Int),.slice (Own.a or) ((risF l).length) (Own.c or)]) (fun _ : MX => .int .i64 T.1) (dO D m x) (fun z => dO T.2 m z) (fun z => MapOk z.1 z.2 (wv2 T.2.wait)) ([(tb,.cells #[.map (some mb)] 131 (0,0)),(mb,.map z.1 z.2),(jb,.cells #[.int .i64 why,.pointer (some ⟨m.d,0,none⟩),.int .u64 (num : Int)] 121 (0,0)),(ob,.cells ((((keysN (lastM l l.length)).map Go.encZ) ++ oj).toArray) 3 (0,0))] ++ (Own.o 79 (jv (risF l)) or)) [] rfl rfl Tryz.func66 rfl rfl kr (fun w1 h hA hd => by have h9 := jTrans jb why num m x D n2 (Own.a or) (Own.c or) (risF l) (Own.o 79 (jv (risF l)) or) t0 fr0 w1 hn3 hg hA hd (inW_own1 hor2) (risF_w hW) (by rw [risF_len]; omega) (own_le hor2) om hmo (tr_has (L := [(tb,Obj.cells #[.map (some mb)] 131 (0,0)),(mb,Obj.map z.1 z.2),(jb,Obj.cells #[.int .i64 why,.pointer (some ⟨m.d,0,none⟩),.int .u64 (num : Int)] 121 (0,0)),(ob,Obj.cells ((((keysN (lastM l l.length)).map Go.encZ) ++ oj).toArray) 3 (0,0))]) (S := Own.o 79 (jv (risF l)) or) (A := dO D m x) h (List.mem_of_getElem? (i := 2) rfl) (List.mem_cons_self ..)) (tr_apart (L := [(tb,Obj.cells #[.map (some mb)] 131 (0,0)),(mb,Obj.map z.1 z.2),(jb,Obj.cells #[.int .i64 why,.pointer (some ⟨m.d,0,none⟩),.int .u64 (num : Int)] 121 (0,0)),(ob,Obj.cells ((((keysN (lastM l l.length)).map Go.encZ) ++ oj).toArray) 3 (0,0))]) (S := Own.o 79 (jv (risF l)) or) (A := dO D m x) h (List.mem_of_getElem? (i := 2) rfl) (List.mem_cons_self ..)); rw [← hT] at h9; exact h9)) ?_
        rintro x2 hmo2
        refine Lp 1 [] (some [0,11,12]) n0 trivial ?_
        refine CfgL.done rfl ?_
        refine Rg [0,11,12,81] [] n0 trivial ?_
        refine Cfg.cond rfl (b := (T.1 != (0 : Int))) kr (fun c10r => ?_) (fun c10r => ?_)
        ·have c10 := (bne_iff_ne.1 c10r)
         refine Cfg.begL rfl ?_
         refine Lp 5 [] (some [12,83,86]) n0 trivial ?_
         refine Le (Eff.store1 (b := jb) (off := 0) (v := .int .i64 T.1) rfl kr kr rfl kr 2 (cs := #[.int .i64 why,.pointer (some ⟨m.d,0,none⟩),.int .u64 (num : Int)]) (e := 121) kr (by simp)) ?_
         rintro ⟨⟩ -
         refine CfgL.done rfl ?_
         refine Cg (Γ' := [(12,[],.int .i64 T.1)]) ?_
         refine Rg [4] [] n0 trivial ?_
         refine Cfg.ret rfl (rs := [.tmp 4]) rfl [.int .i64 T.1] ⟨kr,trivial⟩ (fun w1 hp => ?_)
         have hx : commitF ⟨why,num,D⟩ l = (T.1,⟨T.1,num,T.2⟩) := by
          have h8 := com_err (num := num) (D := D) (l := l) c2 hno (by rw [risF_len]; omega) (by rw [risF_len]; omega) (by rw [← hn2,← hT]; exact c10)
          first | exact h8 | (rw [← hn2,← hT] at h8; exact h8)
         rw [hx]
         have h9 : HP w (((jb,Obj.cells #[.int .i64 why,.pointer (some ⟨m.d,0,none⟩),.int .u64 (num : Int)] 121 (0,0)) :: dO D m x).map (·.1)) ((0,Obj.cells (wv Kc) t0 fr0) :: Rl) ([(jb,Obj.cells #[.int .i64 T.1,.pointer (some ⟨m.d,0,none⟩),.int .u64 (num : Int)] 121 (0,0))] ++ (dO T.2 m x2 ++ [])) w1 := hp.sub (.cons _ (.cons _ (.cons_cons _ (.cons _ (show List.Sublist (dO T.2 m x2 ++ []) (Own.o 79 (jv (risF l)) or ++ (dO T.2 m x2 ++ [])) from (List.Sublist.trans (List.Sublist.append (List.Sublist.refl (dO T.2 m x2)) (List.nil_sublist _)) (List.sublist_append_right (Own.o 79 (jv (risF l)) or) _)))))))
         rw [List.append_nil] at h9
         exact ⟨x2,hmo2,rfl,_,h9⟩
        ·have c10 := (bne_eq_false_iff_eq.1 c10r)
         refine Cfg.begL rfl ?_
         refine Lp 4 [] (some [89,91]) n0 trivial ?_
         refine Le (Eff.store1 (b := jb) (off := 2) (v := .int .u64 (n2 : Int)) rfl kr kr rfl kr 2 (cs := #[.int .i64 why,.pointer (some ⟨m.d,0,none⟩),.int .u64 (num : Int)]) (e := 121) kr (by simp)) ?_
         rintro ⟨⟩ -
         refine CfgL.done rfl ?_
         refine Cg (Γ' := []) ?_
         refine Rg [4] [] n0 trivial ?_
         refine Cfg.ret rfl (rs := [.tmp 4]) rfl [.int .i64 0] ⟨kr,trivial⟩ (fun w1 hp => ?_)
         have hx : commitF ⟨why,num,D⟩ l = (0,⟨0,n2,T.2⟩) := by
          have h8 := com_ok (num := num) (D := D) (l := l) c2 hno (by rw [risF_len]; omega) (by rw [risF_len]; omega) (by rw [← hn2,← hT]; exact c10)
          first | exact h8 | (rw [← hn2,← hT] at h8; exact h8)
         rw [hx]
         have h9 : HP w (((jb,Obj.cells #[.int .i64 why,.pointer (some ⟨m.d,0,none⟩),.int .u64 (num : Int)] 121 (0,0)) :: dO D m x).map (·.1)) ((0,Obj.cells (wv Kc) t0 fr0) :: Rl) ([(jb,Obj.cells #[.int .i64 why,.pointer (some ⟨m.d,0,none⟩),.int .u64 (n2 : Int)] 121 (0,0))] ++ (dO T.2 m x2 ++ [])) w1 := hp.sub (.cons _ (.cons _ (.cons_cons _ (.cons _ (show List.Sublist (dO T.2 m x2 ++ []) (Own.o 79 (jv (risF l)) or ++ (dO T.2 m x2 ++ [])) from (List.Sublist.trans (List.Sublist.append (List.Sublist.refl (dO T.2 m x2)) (List.nil_sublist _)) (List.sublist_append_right (Own.o 79 (jv (risF l)) or) _)))))))
         rw [List.append_nil] at h9
         rw [show Value.int .i64 why = Value.int .i64 0 from congrArg (Value.int .i64) c2] at h9
         exact ⟨x2,hmo2,rfl,_,h9⟩
end Go.Proofs.YtohjpggjgomgoaaGreatDoor
namespace Go.Proofs.YtohjpggjgomgoaaGreatDoor
open K
set_option linter.unusedVariables false
def pD (D : DK) (a : Wr) : Bool := decide (a.1 ≥ (D.last.length : Int))
def fxN (p : Wr → Bool) : List Wr → Nat → Int
 | [],_ => -1
 | a :: l,i => if p a then (i : Int) else fxN p l (i + 1)
theorem fxN_hit {p : Wr → Bool} {l : List Wr} {i : Nat} (h : i < l.length) (hp : p (l.getD i wz) = true) : fxN p (l.drop i) i = (i : Int) := by
 rw [drop_getD h,fxN,if_pos hp]
theorem fxN_go {p : Wr → Bool} {l : List Wr} {i : Nat} (h : i < l.length) (hp : p (l.getD i wz) = false) : fxN p (l.drop i) i = fxN p (l.drop (i + 1)) (i + 1) := by
 rw [drop_getD h,fxN,if_neg (by rw [hp]; decide)]
theorem fxN_some (p : Wr → Bool) : ∀ (l : List Wr) (i : Nat),fxN p l i ≠ -1 → ∃ k : Nat,fxN p l i = ((i + k : Nat) : Int) ∧ k < l.length ∧ (∀ j,j < k → p (l.getD j wz) = false) ∧ p (l.getD k wz) = true
 | [],_,h => absurd rfl h
 | a :: l,i,h => by
  unfold fxN at h ⊢
  by_cases ha : p a = true
  ·rw [if_pos ha]
   exact ⟨0,by rw [Nat.add_zero],by simp,fun j hj => absurd hj (Nat.not_lt_zero j),ha⟩
  ·rw [if_neg ha] at h ⊢
   obtain ⟨k,h1,h2,h3,h4⟩ := fxN_some p l (i + 1) h
   refine ⟨k + 1,by rw [h1]; congr 1; omega,by rw [List.length_cons]; omega,fun j hj => ?_,h4⟩
   cases j with
   | zero => exact Bool.eq_false_iff.2 ha
   | succ j => exact h3 j om
theorem fxN_none (p : Wr → Bool) : ∀ (l : List Wr) (i : Nat),fxN p l i = -1 → l.filter (fun a => !p a) = l
 | [],_,_ => rfl
 | a :: l,i,h => by
  unfold fxN at h
  by_cases ha : p a = true
  ·rw [if_pos ha] at h; omega
  ·rw [if_neg ha] at h
   rw [List.filter_cons,if_pos (by rw [Bool.eq_false_iff.2 ha]; rfl),fxN_none p l (i + 1) h]
def kN (D : DK) (l : List Wr) (j : Nat) : List Wr := (l.take j).filter fun a => !pD D a
theorem kN_le (D : DK) (l : List Wr) (j : Nat) : (kN D l j).length ≤ j := by
 have h1 := List.length_filter_le (fun a => !pD D a) (l.take j)
 have h2 := List.length_take_le j l
 unfold kN; omega
theorem kN_yes {D : DK} {l : List Wr} {j : Nat} (h : j < l.length) (hp : pD D (l.getD j wz) = false) : kN D l (j + 1) = kN D l j ++ [l.getD j wz] := by
 unfold kN
 have e : l[j] = l.getD j wz := by rw [List.getD_eq_getElem?_getD,List.getElem?_eq_getElem h]; rfl
 rw [List.take_succ_eq_append_getElem h,List.filter_append,e,List.filter_cons,if_pos (by rw [hp]; rfl)]; rfl
theorem kN_no {D : DK} {l : List Wr} {j : Nat} (h : j < l.length) (hp : pD D (l.getD j wz) = true) : kN D l (j + 1) = kN D l j := by
 unfold kN
 have e : l[j] = l.getD j wz := by rw [List.getD_eq_getElem?_getD,List.getElem?_eq_getElem h]; rfl
 rw [List.take_succ_eq_append_getElem h,List.filter_append,e,List.filter_cons,if_neg (by rw [hp]; decide)]
 exact List.append_nil _
theorem kN_w {l : List Wr} (hW : WW l) (D : DK) (j : Nat) : WW (kN D l j) := fun x hx => hW x (List.mem_of_mem_take (List.mem_filter.1 hx).1)
theorem kN_start {D : DK} {l : List Wr} : ∀ {i : Nat},i ≤ l.length → (∀ j,j < i → pD D (l.getD j wz) = false) → kN D l i = l.take i
 | 0,_,_ => by unfold kN; rw [List.take_zero]; rfl
 | i + 1,h,hp => by
  rw [kN_yes om (hp i (Nat.lt_succ_self i)),kN_start om (fun j hj => hp j om),List.take_succ_eq_append_getElem om,List.getD_eq_getElem?_getD,List.getElem?_eq_getElem om]; rfl
def delJ (D : DK) (l : List Wr) (j : Nat) (oj : List Value) : List Value := jv (kN D l j) ++ jv (l.drop (kN D l j).length) ++ oj
theorem delJ_cell {D : DK} {l : List Wr} (hW : WW l) {j : Nat} {oj : List Value} (hj : j < l.length) {k : Nat} {v : Value} (hv : (jc (l.getD j wz))[k]? = some v) : (delJ D l j oj)[j * 513 + k]? = some v := by
 have hk := jc_some (hW.at j) hv
 have hle := kN_le D l j
 have hl := jv_len (kN_w hW D j)
 have hd := jv_len (hW.drop (kN D l j).length)
 unfold delJ
 rw [List.append_assoc,List.getElem?_append_right om,List.getElem?_append_left (by rw [hd,hl,List.length_drop]; omega),hl,show j * 513 + k - (kN D l j).length * 513 = (j - (kN D l j).length) * 513 + k by omega,jv_get (hW.drop _) (by rw [List.length_drop]; omega) hk]
 have e : (l.drop (kN D l j).length).getD (j - (kN D l j).length) wz = l.getD j wz := by
  rw [List.getD_eq_getElem?_getD,List.getElem?_drop,List.getD_eq_getElem?_getD]; congr 2; omega
 rw [e]; exact hv
theorem delJ_size {D : DK} {l : List Wr} (hW : WW l) (j : Nat) (hj : j ≤ l.length) (oj : List Value) : (delJ D l j oj).length = l.length * 513 + oj.length := by
 have hle := kN_le D l j
 unfold delJ
 rw [List.length_append,List.length_append,jv_len (kN_w hW D j),jv_len (hW.drop _),List.length_drop]; omega
theorem delJ_set {D : DK} {l : List Wr} (hW : WW l) {j : Nat} (hj : j < l.length) (hp : pD D (l.getD j wz) = false) (oj : List Value) : spl (delJ D l j oj).toArray ((kN D l j).length * 513) (jc (l.getD j wz)) = (delJ D l (j + 1) oj).toArray := by
 have hle := kN_le D l j
 have hlt : (kN D l j).length < l.length := by omega
 have h := spl_at (L := delJ D l j oj) (A := jv (kN D l j)) (B := jc (l.getD (kN D l j).length wz)) (T := jv (l.drop ((kN D l j).length + 1)) ++ oj) (vs := jc (l.getD j wz)) (off := (kN D l j).length * 513) (by unfold delJ; rw [drop_getD hlt,jv_cons]; simp only [List.append_assoc]) (jv_len (kN_w hW D j)) (by rw [jc_len (hW.at _),jc_len (hW.at _)])
 rw [h]
 unfold delJ
 rw [kN_yes hj hp,jv_app,jv_one,List.length_append,List.length_singleton]
 simp only [List.append_assoc]
theorem delJ_no {D : DK} {l : List Wr} {j : Nat} (hj : j < l.length) (hp : pD D (l.getD j wz) = true) (oj : List Value) : delJ D l j oj = delJ D l (j + 1) oj := by unfold delJ; rw [kN_no hj hp]
theorem zrj_len (n : Nat) : ((Builtin.zeroCells (Value.cells (.agg (jc wz).toArray)) n).toList).length = n * 513 := by
 unfold Builtin.zeroCells
 rw [Array.length_toList,Array.size_map,Array.size_range]
 show n * (jc wz).toArray.size = _
 rw [List.size_toArray,jc_len zb_len]
theorem zrj_all (n : Nat) : ∀ v ∈ (Builtin.zeroCells (Value.cells (.agg (jc wz).toArray)) n).toList,K.one v = true := by
 intro v hv
 unfold Builtin.zeroCells at hv
 rw [Array.toList_map,List.mem_map] at hv
 obtain ⟨k,_,rfl⟩ := hv
 have hs : (Value.cells (.agg (jc wz).toArray)).size = 513 := by show (jc wz).toArray.size = _; rw [List.size_toArray,jc_len zb_len]
 have hk : k % (Value.cells (.agg (jc wz).toArray)).size < (Value.cells (.agg (jc wz).toArray)).size := Nat.mod_lt _ (by rw [hs]; decide)
 rw [getElem!_pos (Value.cells (.agg (jc wz).toArray)) (k % (Value.cells (.agg (jc wz).toArray)).size) hk]
 have hm := Array.mem_toList_iff.2 (Array.getElem_mem hk)
 exact jc_all wz _ hm
theorem delJ_clear {D : DK} {l : List Wr} (hW : WW l) (oj : List Value) {n : Nat} (hn : n = l.length - (kN D l l.length).length) : spl (delJ D l l.length oj).toArray ((kN D l l.length).length * 513) ((Builtin.zeroCells (Value.cells (.agg (jc wz).toArray)) n).toList) = (jv (kN D l l.length) ++ ((Builtin.zeroCells (Value.cells (.agg (jc wz).toArray)) n).toList ++ oj)).toArray := by
 have hle := kN_le D l l.length
 have h := spl_at (L := delJ D l l.length oj) (A := jv (kN D l l.length)) (B := jv (l.drop (kN D l l.length).length)) (T := oj) (vs := (Builtin.zeroCells (Value.cells (.agg (jc wz).toArray)) n).toList) (off := (kN D l l.length).length * 513) rfl (jv_len (kN_w hW D _)) (by rw [zrj_len,jv_len (hW.drop _),List.length_drop,hn])
 rw [h,List.append_assoc]
theorem kN_all (D : DK) (l : List Wr) : kN D l l.length = inD D l := by unfold kN; rw [List.take_length]; rfl
set_option maxRecDepth 100000 in
theorem jOpen1 (kb : Nat) (m : DM) (x : MX) (D : DK) (a : Wr) (w : World) (ha : a.2.length = 512) (hR : Has w ((kb,Obj.cells #[.pointer (some ⟨m.d,0,none⟩)] 46 (0,0)) :: dO D m x)) :
  Calls Tryz.prog 53 #[.agg (jc a).toArray,.pointer (some ⟨kb,0,none⟩)] w fun e w' => e = .returned (.bool (pD D a)) ∧ Ext [] w w' := by
 refine enter (vs := [.agg (jc a).toArray,.pointer (some ⟨kb,0,none⟩)]) [] ((kb,Obj.cells #[.pointer (some ⟨m.d,0,none⟩)] 46 (0,0)) :: dO D m x) [] Tryz.func53 rfl kr (HP.ofHas hR) ?_
 refine Cfg.begL rfl ?_
 refine Le (Eff.box (v := .agg (jc a).toArray) rfl kr) ?_
 rintro xb ⟨hxb,nxb⟩
 refine Lp 1 [] (some [1,2]) n0 trivial ?_
 refine CfgL.done rfl ?_
 refine Cfg.begA rfl kr [(xb,.cells ((jc a).toArray) 79 (0,0))] ?_
 refine Ap [0,1,2] [dZ,(0,false,some (.int .i64 a.1)),(0,false,some (.pointer (some ⟨m.d,0,none⟩)))] (some [5,6]) #[true,true,true,false,false,false] (.cons_cons _ .slnil) 3 (fun S => [(∀ w1,S w1 → w1.cell? ⟨xb,0,none⟩ = some (.int .i64 a.1)),(∀ w1,S w1 → w1.cell? ⟨kb,0,none⟩ = some (.pointer (some ⟨m.d,0,none⟩)))]) ⟨(fun w1 h => h.ocell 0 rfl rfl),(fun w1 h => h.rcell 0 rfl rfl),trivial⟩ ?_
 refine Ae 3 rfl 2  (Eff.callA (vs := [.pointer (some ⟨m.d,0,none⟩)]) (.int .i64 (D.last.length : Int)) rfl Tryz.func51 rfl rfl kr (fun w1 h => dSectors m x D w1 (h.hasR (fun e he => List.mem_cons_of_mem _ he)))) (fun _ _ => (.cons_cons _ .slnil)) ?_
 rintro ⟨⟩ -
 refine Ap [4,5] [] (some [3]) #[true,true,true,true,true,true] (.cons_cons _ .slnil) 0 n0 trivial ?_
 refine CfgA.done kr ?_
 refine Cfg.ret rfl (rs := [.tmp 3]) rfl [.bool (decide (a.1 ≥ (D.last.length : Int)))] ⟨kr,trivial⟩ (fun w1 hp => ?_)
 exact ⟨rfl,hp.ext⟩
set_option maxRecDepth 100000 in
theorem jIdx (kb : Nat) (m : DM) (x : MX) (D : DK) (la : Option Addr) (cap : Nat) (l : List Wr) (Rl : List (Nat × Obj)) (w : World) (hI : InW Rl la l) (hW : WW l) (hl : l.length ≤ 100000) (hR : Has w (((kb,Obj.cells #[.pointer (some ⟨m.d,0,none⟩)] 46 (0,0)) :: dO D m x) ++ Rl)) :
  Calls Tryz.prog 90 #[.slice la l.length cap,.func (.func 53) #[] #[.pointer (some ⟨kb,0,none⟩)]] w fun e w' => e = .returned (.int .i64 (fxN (pD D) l 0)) ∧ Ext [] w w' := by
 refine enter (vs := [.slice la l.length cap,.func (.func 53) #[] #[.pointer (some ⟨kb,0,none⟩)]]) [] (((kb,Obj.cells #[.pointer (some ⟨m.d,0,none⟩)] 46 (0,0)) :: dO D m x) ++ Rl) [] Tryz.func90 rfl kr (HP.ofHas hR) ?_
 refine Rg [0,1] [] n0 trivial ?_
 refine Rg [0,1,7,8] [] n0 trivial ?_
 refine Cfg.loop rfl (ι := Nat) (fun (i : Nat) => [(8,[],.int .i64 (i : Int)),(7,[],.int .i64 (l.length : Int)),(0,[],.slice la l.length cap),(1,[],.func (.func 53) #[] #[.pointer (some ⟨kb,0,none⟩)])]) (fun (i : Nat) => []) (fun (i : Nat) => (i ≤ l.length) ∧ (fxN (pD D) (l.drop i) i = fxN (pD D) l 0)) (fun (i : Nat) => l.length - i) 0 ?_ (Conv.mk kr) .slnil ?_
 ·exact ⟨Nat.zero_le _,by rw [List.drop_zero]⟩
 ·rintro i ⟨hi,hx⟩
  refine Rg [0,1,7,8,9] [] n0 trivial ?_
  refine Cfg.cond rfl (b := (decide ((i : Int) < (l.length : Int)))) kr (fun c1r => ?_) (fun c1r => ?_)
  ·have c1 := (of_decide_eq_true c1r)
   refine Rg [0,1,5,7,8] [] n0 trivial ?_
   obtain ⟨sb,off,cs,te,fre,rfl,hmem,hcs⟩ := hI om
   refine Conv.cfg (Γ' := [(5,[],.int .i64 (i : Int)),(8,[],.int .i64 (i : Int)),(7,[],.int .i64 (l.length : Int)),(0,[],.slice (some ⟨sb,off,none⟩) l.length cap),(1,[],.func (.func 53) #[] #[.pointer (some ⟨kb,0,none⟩)])]) (Conv.mk kr) ?_
   refine Cfg.begL rfl ?_
   refine Lp 5 [dZ,dZ,dZ,dZ,(0,false,some (.agg (jc (l.getD i wz)).toArray))] (some [0,1,5,7,8,11,15]) (fun S => [(0 ≤ (i : Int) ∧ (i : Int) < (l.length : Int)),(∀ w1,S w1 → (loadVar 79 ⟨sb,(addO off (i * 513)),none⟩).run Tryz.prog w1 = .ok (.agg (jc (l.getD i wz)).toArray) w1)]) ⟨om,(fun w1 h => load_list Tryz.underlying79 rfl kr (jc_len (hW.at i)) (fun j v hj => by rw [addO_eq]; exact (cell_cells (h.ro _ (List.mem_append_right _ hmem))).trans (wr_cell hW hcs om hj))),trivial⟩ ?_
   refine Le (Eff.callAVC (vs := [.agg (jc (l.getD i wz)).toArray]) (.bool (pD D (l.getD i wz))) [.pointer (some ⟨kb,0,none⟩)] rfl kr Tryz.func53 rfl rfl kr (fun w1 h => jOpen1 kb m x D (l.getD i wz) w1 (hW.at i) (h.hasR (fun e he => List.mem_append_left _ he)))) ?_
   rintro ⟨⟩ -
   refine CfgL.done rfl ?_
   refine Cg (Γ' := [(16,[],.bool (pD D (l.getD i wz))),(5,[],.int .i64 (i : Int)),(8,[],.int .i64 (i : Int)),(7,[],.int .i64 (l.length : Int)),(0,[],.slice (some ⟨sb,off,none⟩) l.length cap),(1,[],.func (.func 53) #[] #[.pointer (some ⟨kb,0,none⟩)])]) ?_
   refine Cfg.cond rfl (b := (pD D (l.getD i wz))) kr (fun c2r => ?_) (fun c2r => ?_)
   ·have c2 : ((pD D (l.getD i wz)) = true) := c2r
    refine Rg [4] [] n0 trivial ?_
    refine Cfg.ret rfl (rs := [.tmp 4]) rfl [.int .i64 (i : Int)] ⟨kr,trivial⟩ (fun w1 hp => ?_)
    have hh := fxN_hit (p := pD D) (l := l) (i := i) om (by simpa using c2)
    exact ⟨by rw [← hx,hh]; rfl,hp.ext⟩
   ·have c2 : ((pD D (l.getD i wz)) = false) := c2r
    refine Rg [0,1,7,8] [] (fun _ => [((-9223372036854775808 : Int) ≤ ((i : Int) + 1) ∧ ((i : Int) + 1) ≤ 9223372036854775807)]) ⟨om,trivial⟩ ?_
    have hgo := fxN_go (p := pD D) (l := l) (i := i) om (by simpa using c2)
    refine Cfg.again rfl (i + 1) ⟨by omega,hgo ▸ hx⟩ (by show l.length - (i + 1) < l.length - i; omega) (Conv.mk kr) .slnil
  ·have c1 := (of_decide_eq_false c1r)
   refine Rg [4] [] n0 trivial ?_
   refine Cfg.ret rfl (rs := [.tmp 4]) rfl [.int .i64 (-1)] ⟨kr,trivial⟩ (fun w1 hp => ?_)
   rw [List.drop_eq_nil_of_le om] at hx
   exact ⟨by rw [← hx]; rfl,hp.ext⟩
set_option maxRecDepth 100000 in
set_option maxHeartbeats 4000000 in
theorem jDel (kb : Nat) (m : DM) (x : MX) (D : DK) (o : K.Own) (l : List Wr) (w : World) (hok : OwnOk o 513 l.length (jv l)) (hW : WW l) (hl : l.length ≤ 100000) (hA : Has w (Own.o 79 (jv l) o)) (hd : ((Own.o 79 (jv l) o).map (·.1)).Nodup) (hR : Has w ((kb,Obj.cells #[.pointer (some ⟨m.d,0,none⟩)] 46 (0,0)) :: dO D m x)) (hnr : ∀ e ∈ (kb,Obj.cells #[.pointer (some ⟨m.d,0,none⟩)] 46 (0,0)) :: dO D m x,e.1 ∉ (Own.o 79 (jv l) o).map (·.1)) :
  Calls Tryz.prog 52 #[.slice (Own.a o) l.length (Own.c o),.func (.func 53) #[] #[.pointer (some ⟨kb,0,none⟩)]] w fun e w' => ∃ o2 : K.Own,OwnOk o2 513 (inD D l).length (jv (inD D l)) ∧ e = .returned (.slice (Own.a o2) (inD D l).length (Own.c o2)) ∧ ∃ R1,HP w ((Own.o 79 (jv l) o).map (·.1)) R1 (Own.o 79 (jv (inD D l)) o2) w' := by
 refine enter (vs := [.slice (Own.a o) l.length (Own.c o),.func (.func 53) #[] #[.pointer (some ⟨kb,0,none⟩)]]) ((Own.o 79 (jv l) o).map (·.1)) ((kb,Obj.cells #[.pointer (some ⟨m.d,0,none⟩)] 46 (0,0)) :: dO D m x) ([] ++ (Own.o 79 (jv l) o ++ [])) Tryz.func52 rfl kr (by rw [List.append_nil]; exact HP.ofL hA hd hR hnr) ?_
 refine Rg [0,1] [] n0 trivial ?_
 refine Cfg.begL rfl ?_
 refine Lp 2 [] none n0 trivial ?_
 refine Le (Eff.callA (vs := [.slice (Own.a o) l.length (Own.c o),.func (.func 53) #[] #[.pointer (some ⟨kb,0,none⟩)]]) (.int .i64 (fxN (pD D) l 0)) rfl Tryz.func90 rfl rfl kr (fun w1 h => jIdx kb m x D (Own.a o) (Own.c o) l (Own.o 79 (jv l) o) w1 (inW_own hok) hW hl (fun e he => (List.mem_append.1 he).elim (fun h1 => h.ro e h1) (fun h1 => h.own e (List.mem_append_right _ (List.mem_append_left _ h1)))))) ?_
 rintro ⟨⟩ -
 refine Lp 1 [] (some [0,1,5]) n0 trivial ?_
 refine CfgL.done rfl ?_
 refine Rg [0,1,5,12] [] n0 trivial ?_
 refine Cfg.cond rfl (b := ((fxN (pD D) l 0) == ((-1) : Int))) kr (fun c1r => ?_) (fun c1r => ?_)
 ·have c1 := (beq_iff_eq.1 c1r)
  refine Rg [4] [] n0 trivial ?_
  refine Cfg.ret rfl (rs := [.tmp 4]) rfl [.slice (Own.a o) l.length (Own.c o)] ⟨kr,trivial⟩ (fun w1 hp => ?_)
  have hall := fxN_none (pD D) l 0 c1
  have hin : inD D l = l := hall
  rw [hin]
  rw [List.append_nil] at hp
  exact ⟨o,hok,rfl,_,hp⟩
 ·have c1 := (beq_eq_false_iff_ne.1 c1r)
  obtain ⟨i0,hfx,hi0,hpre,hp0⟩ := fxN_some (pD D) l 0 c1
  rw [Nat.zero_add] at hfx
  obtain ⟨⟨b,cp,oj⟩,rfl⟩ := own_some hok om
  have hks : (kN D l (i0 + 1)).length = i0 := by rw [kN_no hi0 hp0,kN_start om hpre,List.length_take]; omega
  have hds : jv l ++ oj = delJ D l (i0 + 1) oj := by unfold delJ; rw [hks,kN_no hi0 hp0,kN_start om hpre,← jv_app,List.take_append_drop]
  refine Cfg.setO (O' := [(b,.cells ((jv l ++ oj).toArray) 79 (0,0))]) rfl ?_
  refine Conv.cfg (Γ' := [(12,[],.bool ((fxN (pD D) l 0) == ((-1) : Int))),(5,[],.int .i64 (fxN (pD D) l 0)),(0,[],.slice (some ⟨b,0,none⟩) l.length cp),(1,[],.func (.func 53) #[] #[.pointer (some ⟨kb,0,none⟩)])]) (Conv.mk kr) ?_
  refine Cg (Γ' := [(12,[],.bool ((fxN (pD D) l 0) == ((-1) : Int))),(5,[],.int .i64 (fxN (pD D) l 0)),(0,[],.slice (some ⟨b,0,none⟩) l.length cp),(1,[],.func (.func 53) #[] #[.pointer (some ⟨kb,0,none⟩)])]) ?_
  refine Cfg.setG (congrArg (fun (xq : Int) => ([(12,[],.bool ((fxN (pD D) l 0) == ((-1) : Int))),(5,[],.int .i64 xq),(0,[],.slice (some ⟨b,0,none⟩) l.length cp),(1,[],.func (.func 53) #[] #[.pointer (some ⟨kb,0,none⟩)])] : Env)) (show _ = (i0 : Int) from hfx)) ?_
  refine Rg [0,1,5,6] [] (fun _ => [((-9223372036854775808 : Int) ≤ ((i0 : Int) + 1) ∧ ((i0 : Int) + 1) ≤ 9223372036854775807)]) ⟨om,trivial⟩ ?_
  refine Cfg.setO (congrArg (fun (xq : Array Value) => ([(b,.cells xq 79 (0,0))] : List (Nat × Obj))) (show _ = ((delJ D l (i0 + 1) oj).toArray) from by rw [hds])) ?_
  refine Cg (Γ' := [(6,[],.int .i64 ((i0 : Int) + 1)),(5,[],.int .i64 (i0 : Int)),(0,[],.slice (some ⟨b,0,none⟩) l.length cp),(1,[],.func (.func 53) #[] #[.pointer (some ⟨kb,0,none⟩)])]) ?_
  refine Cfg.setG (congrArg (fun (xq : Int) => ([(6,[],.int .i64 xq),(5,[],.int .i64 (i0 : Int)),(0,[],.slice (some ⟨b,0,none⟩) l.length cp),(1,[],.func (.func 53) #[] #[.pointer (some ⟨kb,0,none⟩)])] : Env)) (show _ = (((i0 + 1) : Nat) : Int) from rfl)) ?_
  refine Cg (Γ' := [(6,[],.int .i64 (((i0 + 1) : Nat) : Int)),(5,[],.int .i64 (i0 : Int)),(0,[],.slice (some ⟨b,0,none⟩) l.length cp),(1,[],.func (.func 53) #[] #[.pointer (some ⟨kb,0,none⟩)])]) ?_
  refine Cfg.setG (congrArg (fun (xq : Int) => ([(6,[],.int .i64 (((i0 + 1) : Nat) : Int)),(5,[],.int .i64 xq),(0,[],.slice (some ⟨b,0,none⟩) l.length cp),(1,[],.func (.func 53) #[] #[.pointer (some ⟨kb,0,none⟩)])] : Env)) (show _ = (((kN D l (i0 + 1)).length : Nat) : Int) from by rw [hks])) ?_
  refine Cfg.loop rfl (ι := Nat) (fun (j : Nat) => [(6,[],.int .i64 (j : Int)),(5,[],.int .i64 ((kN D l j).length : Int)),(0,[],.slice (some ⟨b,0,none⟩) l.length cp),(1,[],.func (.func 53) #[] #[.pointer (some ⟨kb,0,none⟩)])]) (fun (j : Nat) => [(b,.cells ((delJ D l j oj).toArray) 79 (0,0))]) (fun (j : Nat) => (j ≤ l.length) ∧ ((kN D l j).length < j)) (fun (j : Nat) => l.length - j) (i0 + 1) ?_ (Conv.mk kr) (.cons_cons _ .slnil) ?_
  ·exact ⟨by omega,by rw [hks]; exact Nat.lt_succ_self _⟩
  ·rintro j ⟨hj,hlt⟩
   refine Rg [0,1,5,6,19] [] n0 trivial ?_
   refine Cfg.cond rfl (b := (decide ((j : Int) < (l.length : Int)))) kr (fun c2r => ?_) (fun c2r => ?_)
   ·have c2 := (of_decide_eq_true c2r)
    refine Cfg.begL rfl ?_
    refine Lp 4 [dZ,dZ,dZ,(0,false,some (.agg (jc (l.getD j wz)).toArray))] (some [0,1,5,6,25]) (fun S => [(0 ≤ (j : Int) ∧ (j : Int) < (l.length : Int)),(∀ w1,S w1 → (loadVar 79 ⟨b,(j * 513),none⟩).run Tryz.prog w1 = .ok (.agg (jc (l.getD j wz)).toArray) w1)]) ⟨om,(fun w1 h => load_list Tryz.underlying79 rfl kr (jc_len (hW.at j)) (fun k v hv => by rw [cell_cells (h.own (b,_) (List.mem_of_getElem? (i := 0) rfl)),List.getElem?_toArray]; exact delJ_cell hW om hv)),trivial⟩ ?_
    refine Le (Eff.alloc (z := (.agg (jc wz).toArray)) rfl kr) ?_
    rintro wb ⟨hwb,nwb⟩
    refine Le (Eff.storeN (b := wb) (off := 0) (vs := (jc (l.getD j wz)).toArray) (n := 513) rfl kr kr kr (by rw [List.size_toArray,jc_len (hW.at j)]) (jc_all _) 0 (cs := (jc wz).toArray) (e := 79) kr (by show 0 + 513 ≤ (jc wz).toArray.size; rw [List.size_toArray,jc_len zb_len]; decide)) ?_
    rintro ⟨⟩ -
    refine CfgL.setO (congrArg (fun (xq : Array Value) => ([(wb,.cells xq 79 (0,0)),(b,.cells ((delJ D l j oj).toArray) 79 (0,0))] : List (Nat × Obj))) (show _ = ((jc (l.getD j wz)).toArray) from spl_all (by rw [List.size_toArray,List.size_toArray,jc_len (hW.at j)]; exact (jc_len zb_len).symm))) ?_
    refine CfgL.done rfl ?_
    refine Cg (Γ' := [(7,[],.pointer (some ⟨wb,0,none⟩)),(6,[],.int .i64 (j : Int)),(5,[],.int .i64 ((kN D l j).length : Int)),(0,[],.slice (some ⟨b,0,none⟩) l.length cp),(1,[],.func (.func 53) #[] #[.pointer (some ⟨kb,0,none⟩)])]) ?_
    refine Cfg.begL rfl ?_
    refine Lp 2 [dZ,(0,false,some (.agg (jc (l.getD j wz)).toArray))] none (fun S => [(∀ w1,S w1 → (loadVar 79 ⟨wb,0,none⟩).run Tryz.prog w1 = .ok (.agg (jc (l.getD j wz)).toArray) w1)]) ⟨(fun w1 h => load_list Tryz.underlying79 rfl kr (jc_len (hW.at j)) (fun k v hv => by rw [Nat.zero_add]; exact h.ocell 0 rfl (by rw [List.getElem?_toArray]; exact hv))),trivial⟩ ?_
    refine Le (Eff.callAVC (vs := [.agg (jc (l.getD j wz)).toArray]) (.bool (pD D (l.getD j wz))) [.pointer (some ⟨kb,0,none⟩)] rfl kr Tryz.func53 rfl rfl kr (fun w1 h => jOpen1 kb m x D (l.getD j wz) w1 (hW.at j) (h.hasR (fun e he => he)))) ?_
    rintro ⟨⟩ -
    refine Lp 1 [] (some [0,1,5,6,7,29]) n0 trivial ?_
    refine CfgL.done rfl ?_
    refine Cfg.cond rfl (b := (!(pD D (l.getD j wz)))) kr (fun c3r => ?_) (fun c3r => ?_)
    ·have c3 : ((pD D (l.getD j wz)) = false) := (notT c3r)
     refine Cfg.begL rfl ?_
     refine Lp 4 [dZ,dZ,(0,false,some (.agg (jc (l.getD j wz)).toArray))] (some [0,1,5,6,32,33]) (fun S => [(∀ w1,S w1 → (loadVar 79 ⟨wb,0,none⟩).run Tryz.prog w1 = .ok (.agg (jc (l.getD j wz)).toArray) w1),(0 ≤ ((kN D l j).length : Int) ∧ ((kN D l j).length : Int) < (l.length : Int))]) ⟨(fun w1 h => load_list Tryz.underlying79 rfl kr (jc_len (hW.at j)) (fun k v hv => by rw [Nat.zero_add]; exact h.ocell 0 rfl (by rw [List.getElem?_toArray]; exact hv))),om,trivial⟩ ?_
     refine Le (Eff.storeN (b := b) (off := (((kN D l j).length) * 513)) (vs := (jc (l.getD j wz)).toArray) (n := 513) rfl kr kr kr (by rw [List.size_toArray,jc_len (hW.at j)]) (jc_all _) 1 (cs := (delJ D l j oj).toArray) (e := 79) kr (by rw [List.size_toArray,delJ_size hW j om]; omega)) ?_
     rintro ⟨⟩ -
     refine CfgL.setO (congrArg (fun (xq : Array Value) => ([(wb,.cells ((jc (l.getD j wz)).toArray) 79 (0,0)),(b,.cells xq 79 (0,0))] : List (Nat × Obj))) (show _ = ((delJ D l (j + 1) oj).toArray) from delJ_set hW om (by simpa using c3) oj)) ?_
     refine CfgL.done rfl ?_
     refine Cg (Γ' := [(6,[],.int .i64 (j : Int)),(5,[],.int .i64 ((kN D l j).length : Int)),(0,[],.slice (some ⟨b,0,none⟩) l.length cp),(1,[],.func (.func 53) #[] #[.pointer (some ⟨kb,0,none⟩)])]) ?_
     refine Rg [0,1,5,6] [] (fun _ => [((-9223372036854775808 : Int) ≤ (((kN D l j).length : Int) + 1) ∧ (((kN D l j).length : Int) + 1) ≤ 9223372036854775807)]) ⟨om,trivial⟩ ?_
     refine Rg [0,1,5,6] [] (fun _ => [((-9223372036854775808 : Int) ≤ ((j : Int) + 1) ∧ ((j : Int) + 1) ≤ 9223372036854775807)]) ⟨om,trivial⟩ ?_
     have hky := kN_yes (D := D) (l := l) (j := j) om (by simpa using c3)
     have hkl : (kN D l (j + 1)).length = (kN D l j).length + 1 := by rw [hky,List.length_append]; rfl
     refine Cg (Γ' := [(6,[],.int .i64 ((j : Int) + 1)),(5,[],.int .i64 (((kN D l j).length : Int) + 1)),(0,[],.slice (some ⟨b,0,none⟩) l.length cp),(1,[],.func (.func 53) #[] #[.pointer (some ⟨kb,0,none⟩)])]) ?_
     refine Cfg.setG (congrArg (fun (xq : Int) => ([(6,[],.int .i64 ((j : Int) + 1)),(5,[],.int .i64 xq),(0,[],.slice (some ⟨b,0,none⟩) l.length cp),(1,[],.func (.func 53) #[] #[.pointer (some ⟨kb,0,none⟩)])] : Env)) (show _ = (((kN D l (j + 1)).length : Nat) : Int) from by rw [hkl]; rfl)) ?_
     refine Cfg.again rfl (j + 1) ⟨by omega,by omega⟩ (by show l.length - (j + 1) < l.length - j; omega) (Conv.mk kr) (.cons _ (.cons_cons _ .slnil))
    ·have c3 : ((pD D (l.getD j wz)) = true) := (notF c3r)
     refine Rg [0,1,5,6] [] (fun _ => [((-9223372036854775808 : Int) ≤ ((j : Int) + 1) ∧ ((j : Int) + 1) ≤ 9223372036854775807)]) ⟨om,trivial⟩ ?_
     have hkn := kN_no (D := D) (l := l) (j := j) om (by simpa using c3)
     have hdn := delJ_no (D := D) (l := l) (j := j) om (by simpa using c3) oj
     refine Cfg.setO (congrArg (fun (xq : Array Value) => ([(wb,.cells ((jc (l.getD j wz)).toArray) 79 (0,0)),(b,.cells xq 79 (0,0))] : List (Nat × Obj))) (show _ = ((delJ D l (j + 1) oj).toArray) from by rw [hdn])) ?_
     refine Cg (Γ' := [(6,[],.int .i64 ((j : Int) + 1)),(5,[],.int .i64 ((kN D l j).length : Int)),(0,[],.slice (some ⟨b,0,none⟩) l.length cp),(1,[],.func (.func 53) #[] #[.pointer (some ⟨kb,0,none⟩)])]) ?_
     refine Cfg.setG (congrArg (fun (xq : Int) => ([(6,[],.int .i64 ((j : Int) + 1)),(5,[],.int .i64 xq),(0,[],.slice (some ⟨b,0,none⟩) l.length cp),(1,[],.func (.func 53) #[] #[.pointer (some ⟨kb,0,none⟩)])] : Env)) (show _ = (((kN D l (j + 1)).length : Nat) : Int) from by rw [hkn])) ?_
     refine Cfg.again rfl (j + 1) ⟨by omega,by rw [hkn]; omega⟩ (by show l.length - (j + 1) < l.length - j; omega) (Conv.mk kr) (.cons _ (.cons_cons _ .slnil))
   ·have c2 := (of_decide_eq_false c2r)
    have hje : j = l.length := by omega
    refine Conv.cfg (Γ' := [(5,[],.int .i64 ((kN D l j).length : Int)),(0,[],.slice (some ⟨b,0,none⟩) l.length cp)]) (Conv.mk kr) ?_
    refine Cg (Γ' := [(5,[],.int .i64 ((kN D l j).length : Int)),(0,[],.slice (some ⟨b,0,none⟩) l.length cp)]) ?_
    refine Cfg.setG (congrArg (fun (xq : Int) => ([(5,[],.int .i64 xq),(0,[],.slice (some ⟨b,0,none⟩) l.length cp)] : Env)) (show _ = ((kN D l l.length).length : Int) from by rw [hje])) ?_
    refine Cfg.setO (congrArg (fun (xq : Array Value) => ([(b,.cells xq 79 (0,0))] : List (Nat × Obj))) (show _ = ((delJ D l l.length oj).toArray) from by rw [hje])) ?_
    rw [hje] at hlt
    have hcp : l.length ≤ cp := (hok.some _ rfl).2
    have hfit : (if cp = (kN D l l.length).length then 0 else ((kN D l l.length).length * 513)) + (l.length - (kN D l l.length).length) * (Value.cells (.agg (jc wz).toArray)).size ≤ ((delJ D l l.length oj).toArray).size := by
     rw [if_neg om,show (Value.cells (.agg (jc wz).toArray)).size = 513 from (by show (jc wz).toArray.size = _; rw [List.size_toArray,jc_len zb_len]),List.size_toArray,delJ_size hW l.length (Nat.le_refl _)]; omega
    refine Cfg.begL rfl ?_
    refine Lp 3 [] (some [0,5,38]) (fun _ => [(0 ≤ ((kN D l l.length).length : Int)),(((kN D l l.length).length) ≤ l.length ∧ l.length ≤ cp)]) ⟨om,om,trivial⟩ ?_
    refine Le (Eff.clearC rfl Tryz.underlying28 (z := (.agg (jc wz).toArray)) kr (b := b) (off := (if cp = ((kN D l l.length).length) then 0 else ((((kN D l l.length).length)) * 513))) (n := (l.length - (((kN D l l.length).length)))) (c := (cp - (((kN D l l.length).length)))) kr om 0 (cs := (delJ D l l.length oj).toArray) (te := 79) kr (zrj_all _) hfit) ?_
    rintro ⟨⟩ -
    refine CfgL.done rfl ?_
    refine Cg (Γ' := [(5,[],.int .i64 ((kN D l l.length).length : Int)),(0,[],.slice (some ⟨b,0,none⟩) l.length cp)]) ?_
    refine Rg [4] [] (fun _ => [(0 ≤ ((kN D l l.length).length : Int)),(((kN D l l.length).length) ≤ cp)]) ⟨om,om,trivial⟩ ?_
    refine Cfg.ret rfl (rs := [.tmp 4]) rfl [.slice (some ⟨b,0,none⟩) (((kN D l l.length).length)) cp] ⟨kr,trivial⟩ (fun w1 hp => ?_)
    have hle := kN_le D l l.length
    have hcl := delJ_clear (D := D) hW oj (n := l.length - (kN D l l.length).length) rfl
    rw [if_neg om,hcl] at hp
    rw [← kN_all]
    have hlen := jv_len (kN_w hW D l.length)
    have hz := zrj_len (l.length - (kN D l l.length).length)
    have hsm := (hok.some _ rfl).1
    have hlv := jv_len hW
    simp only at hsm
    exact ⟨some (b,cp,(Builtin.zeroCells (Value.cells (.agg (jc wz).toArray)) (l.length - (kN D l l.length).length)).toList ++ oj),⟨hlen,fun h => (by cases h),fun p hp9 => by cases hp9; exact ⟨by simp only [List.length_append]; omega,by simp only; omega⟩⟩,rfl,_,hp⟩
end Go.Proofs.YtohjpggjgomgoaaGreatDoor
namespace Go.Proofs.YtohjpggjgomgoaaGreatDoor
open K
set_option linter.unusedVariables false
set_option maxRecDepth 100000 in
set_option maxHeartbeats 4000000 in
theorem refParse4 (H : List UInt8) (la : Option Addr) (cap : Nat) (bs : List (List UInt8)) (Rl : List (Nat × Obj)) (w : World) (hH : H.length = 512) (hI : InB Rl la bs) (hB : W5 bs) (hn : bs.length ≤ maxLen) (hR : Has w Rl) :
  Calls Tryz.prog 10 #[.agg (bv H),.slice la bs.length cap] w fun e w' => ∃ o : K.Own,OwnOk o 513 (parL H bs).length (jv (parL H bs)) ∧ e = .returned (.tuple #[.int .u64 (parN H bs : Int),.slice (Own.a o) (parL H bs).length (Own.c o),.bool (parG H bs)]) ∧ ∃ R1,HP w [] R1 (Own.o 36 (jv (parL H bs)) o) w' := by
 unfold maxLen at hn
 have hIq : InB Rl la bs := hI
 have hnl := numP_lt H
 have hcl := cnt_lt H
 refine enter (vs := [.agg (bv H),.slice la bs.length cap]) [] Rl [] Tryz.func10 rfl kr (HP.ofHas hR) ?_
 refine Cfg.begL rfl ?_
 refine Le (Eff.box (v := .agg (bv H)) rfl kr) ?_
 rintro hx ⟨hhx,nhx⟩
 refine Lp 3 [] (some [1,2]) n0 trivial ?_
 refine CfgL.done rfl ?_
 refine Cfg.begL rfl ?_
 refine Lp 1 [(0,false,some (.agg (bv H)))] none (fun S => [(∀ w1,S w1 → (loadVar 25 ⟨hx,0,none⟩).run Tryz.prog w1 = .ok (.agg (bv H)) w1)]) ⟨(fun w1 h => h.oload 0 rfl Tryz.underlying25 rfl (n := 512) kr ((bv_size _).trans hH)),trivial⟩ ?_
 refine Le (Eff.callA (vs := [.agg (bv H)]) (.string (tx H)) rfl Tryz.func38 rfl rfl kr (fun w1 _ => rText4 H w1 hH)) ?_
 rintro ⟨⟩ -
 refine Lp 1 [(0,false,some (.agg (inR (aD H 0))))] (some [1,2,14]) (fun S => [(∀ w1,S w1 → (Instr.build 108 #[(0,.string (tx H))]).run Tryz.prog w1 = .ok (.agg (inR (aD H 0))) w1)]) ⟨(fun _ _ => kr),trivial⟩ ?_
 refine Le (Eff.box (v := .agg (inR (aD H 0))) rfl kr) ?_
 rintro ib ⟨hib,nib⟩
 refine Lp 1 [] (some [1,2,7]) n0 trivial ?_
 refine CfgL.done rfl ?_
 refine Cfg.begL rfl ?_
 refine Lp 1 [] none n0 trivial ?_
 refine Le (Eff.callM (vs := [.pointer (some ⟨ib,0,none⟩),.int .i64 4]) (.string (tx (H.take 4))) 0 (b := ib) (ob := Obj.cells (inR (aD H 0)) 108 (0,0)) (Obj.cells (inR (aD H 4)) 108 (0,0)) rfl Tryz.func47 rfl rfl kr kr (fun w1 h => jRawR ib H w1 hH (h.own (ib,Obj.cells (inR (aD H 0)) 108 (0,0)) (show (ib,Obj.cells (inR (aD H 0)) 108 (0,0)) ∈ [(ib,Obj.cells (inR (aD H 0)) 108 (0,0)),(hx,Obj.cells (bv H) 25 (0,0))] from (List.mem_of_getElem? (i := 0) rfl))))) ?_
 rintro ⟨⟩ -
 refine Lp 1 [] (some [1,2,7,18]) n0 trivial ?_
 refine CfgL.done rfl ?_
 refine Cfg.cond rfl (b := (!((tx (H.take 4)).toList == (⟨#[80,82,84,82]⟩ : ByteArray).toList))) kr (fun c1r => ?_) (fun c1r => ?_)
 ·have c1 : (((tx (H.take 4)).toList == (⟨#[80,82,84,82]⟩ : ByteArray).toList) = false) := (notT c1r)
  have hmk : ¬ H.take 4 = mkL := by have h0 := c1r; rw [mark_eq] at h0; simpa using h0
  refine Rg [4,5,6] [] n0 trivial ?_
  refine Cfg.ret rfl (rs := [.tmp 4,.tmp 5,.tmp 6]) rfl [.int .u64 0,.slice none 0 0,.bool false] ⟨kr,by kernel_rfl,by kernel_rfl,trivial⟩ (fun w1 hp => ?_)
  exact par_ret0 (par_no1 hmk) hp
 ·have c1 : (((tx (H.take 4)).toList == (⟨#[80,82,84,82]⟩ : ByteArray).toList) = true) := (notF c1r)
  have hmk : H.take 4 = mkL := by have h0 := c1r; rw [mark_eq] at h0; simpa using h0
  refine Cfg.begL rfl ?_
  refine CfgL.pure 1 [] (some [1,2,7,19]) (Γ' := [(19,[],.pointer (some ⟨ib,0,none⟩)),(7,[],.pointer (some ⟨ib,0,none⟩)),(2,[],.pointer (some ⟨hx,0,none⟩)),(1,[],.slice la bs.length cap)]) (nd := (fun _ => [])) kr (fun _ => kr) trivial ?_
  refine Le (Eff.callM (vs := [.pointer (some ⟨ib,0,none⟩),.int .i64 8]) (.int .u64 ((numP H) : Int)) 0 (b := ib) (ob := Obj.cells (inR (aD H 4)) 108 (0,0)) (Obj.cells (inR (aD H 12)) 108 (0,0)) rfl Tryz.func48 rfl rfl kr kr (fun w1 h => jNum ib H 4 8 w1 om (by decide) (h.own (ib,Obj.cells (inR (aD H 4)) 108 (0,0)) (show (ib,Obj.cells (inR (aD H 4)) 108 (0,0)) ∈ [(ib,Obj.cells (inR (aD H 4)) 108 (0,0)),(hx,Obj.cells (bv H) 25 (0,0))] from (List.mem_of_getElem? (i := 0) rfl))))) ?_
  rintro ⟨⟩ -
  refine Lp 1 [] (some [1,2,7,8]) n0 trivial ?_
  refine CfgL.done rfl ?_
  refine Cfg.begL rfl ?_
  refine Lp 1 [] none n0 trivial ?_
  refine Le (Eff.callM (vs := [.pointer (some ⟨ib,0,none⟩),.int .i64 4]) (.int .u64 ((cntP H) : Int)) 0 (b := ib) (ob := Obj.cells (inR (aD H 12)) 108 (0,0)) (Obj.cells (inR (aD H 16)) 108 (0,0)) rfl Tryz.func48 rfl rfl kr kr (fun w1 h => jNum ib H 12 4 w1 om (by decide) (h.own (ib,Obj.cells (inR (aD H 12)) 108 (0,0)) (show (ib,Obj.cells (inR (aD H 12)) 108 (0,0)) ∈ [(ib,Obj.cells (inR (aD H 12)) 108 (0,0)),(hx,Obj.cells (bv H) 25 (0,0))] from (List.mem_of_getElem? (i := 0) rfl))))) ?_
  rintro ⟨⟩ -
  refine Lp 1 [] (some [1,2,7,8,9]) n0 trivial ?_
  refine CfgL.done rfl ?_
  refine Rg [1,2,7,8,9,31] [] n0 trivial ?_
  refine Cfg.cond rfl (b := ((decide (((cntP H) : Int) > (96 : Int))) || (decide (((cntP H) : Int) > ((bs.length : Int) % 18446744073709551616))))) kr (fun c2r => ?_) (fun c2r => ?_)
  ·have c2 : ((((cntP H) : Int) > (96 : Int)) ∨ (((cntP H) : Int) > ((bs.length : Int) % 18446744073709551616))) := ((orT c2r).elim (fun h => Or.inl (of_decide_eq_true h)) (fun h => Or.inr (of_decide_eq_true h)))
   refine Rg [4,5,6] [] n0 trivial ?_
   refine Cfg.ret rfl (rs := [.tmp 4,.tmp 5,.tmp 6]) rfl [.int .u64 0,.slice none 0 0,.bool false] ⟨kr,by kernel_rfl,by kernel_rfl,trivial⟩ (fun w1 hp => ?_)
   exact par_ret0 (par_no2 om) hp
  ·have c2 : ((¬ (((cntP H) : Int) > (96 : Int))) ∧ (¬ (((cntP H) : Int) > ((bs.length : Int) % 18446744073709551616)))) := ⟨(of_decide_eq_false (orF1 c2r)),(of_decide_eq_false (orF2 c2r))⟩
   refine Rg [1,2,7,8,9,10] [] n0 trivial ?_
   refine Rg [1,2,7,8,9,10,11] [] n0 trivial ?_
   refine Cfg.setO (congrArg (fun (xq : Array Value) => ([(ib,.cells xq 108 (0,0)),(hx,.cells (bv H) 25 (0,0))] : List (Nat × Obj))) (show _ = (inR (aD H (16 + 2 * 0))) from rfl)) ?_
   refine Cfg.loop rfl (ι := Nat × K.Own) (fun (xz : Nat × K.Own) => match xz with | (k,own) => [(11,[],.int .i64 (k : Int)),(10,[],.slice (Own.a own) k (Own.c own)),(9,[],.int .u64 ((cntP H) : Int)),(8,[],.int .u64 ((numP H) : Int)),(7,[],.pointer (some ⟨ib,0,none⟩)),(2,[],.pointer (some ⟨hx,0,none⟩)),(1,[],.slice la bs.length cap)]) (fun (xz : Nat × K.Own) => match xz with | (k,own) => ([(ib,.cells (inR (aD H (16 + 2 * k))) 108 (0,0)),(hx,.cells (bv H) 25 (0,0))] ++ (Own.o 36 (jv (rowP H bs k)) own ++ []))) (fun (xz : Nat × K.Own) => match xz with | (k,own) => (k ≤ cntP H) ∧ (OwnOk own 513 k (jv (rowP H bs k)))) (fun (xz : Nat × K.Own) => match xz with | (k,own) => cntP H - k) (0,none) ?_ (Conv.mk kr) (.cons_cons _ (.cons_cons _ (List.Sublist.refl _))) ?_
   ·exact ⟨Nat.zero_le _,OwnOk.none _⟩
   ·rintro ⟨k,own⟩ ⟨hk,hok⟩
    refine Cfg.reg rfl [1,2,7,8,9,10,11,35] [] (Γ' := [(35,[],.bool (decide ((k : Int) < ((cntP H) : Int)))),(11,[],.int .i64 (k : Int)),(10,[],.slice (Own.a own) k (Own.c own)),(9,[],.int .u64 ((cntP H) : Int)),(8,[],.int .u64 ((numP H) : Int)),(7,[],.pointer (some ⟨ib,0,none⟩)),(2,[],.pointer (some ⟨hx,0,none⟩)),(1,[],.slice la bs.length cap)]) (nd := (fun _ => [((-9223372036854775808 : Int) ≤ ((cntP H) : Int) ∧ ((cntP H) : Int) ≤ 9223372036854775807)])) (fun _ => kr) ⟨om,trivial⟩ ?_
    refine Cfg.cond rfl (b := (decide ((k : Int) < ((cntP H) : Int)))) kr (fun c3r => ?_) (fun c3r => ?_)
    ·have c3 := (of_decide_eq_true c3r)
     obtain ⟨sb,off,cs,te,fre,rfl,hmem,hcs⟩ := hIq om
     refine Conv.cfg (Γ' := [(35,[],.bool (decide ((k : Int) < ((cntP H) : Int)))),(11,[],.int .i64 (k : Int)),(10,[],.slice (Own.a own) k (Own.c own)),(9,[],.int .u64 ((cntP H) : Int)),(8,[],.int .u64 ((numP H) : Int)),(7,[],.pointer (some ⟨ib,0,none⟩)),(2,[],.pointer (some ⟨hx,0,none⟩)),(1,[],.slice (some ⟨sb,off,none⟩) bs.length cap)]) (Conv.mk kr) ?_
     refine Cfg.begA rfl kr [(hx,.cells (bv H) 25 (0,0))] ?_
     refine Ap [0,1,4,5,6] [] (some [1,2,7,8,9,10,11,38,39,44]) #[true,true,false,false,true,true,true,false,false,false,false,false] (.cons _ (.cons_cons _ (List.nil_sublist _))) 7 (fun _ => [(0 ≤ (k : Int) ∧ (k : Int) < (bs.length : Int))]) ⟨om,trivial⟩ ?_
     refine CfgA.two 2 7 kr (fuel' := 6) rfl ?_ ?_
     ·
      refine Ie rfl  (Eff.callM (vs := [.pointer (some ⟨ib,0,none⟩),.int .i64 2]) (.int .u64 ((atP H k) : Int)) 0 (b := ib) (ob := Obj.cells (inR (aD H (16 + 2 * k))) 108 (0,0)) (Obj.cells (inR (aD H (16 + 2 * k + 2))) 108 (0,0)) rfl Tryz.func48 rfl rfl kr kr (fun w1 h => (by have h9 := jNum ib H (16 + 2 * k) 2 w1 om (by decide) (h.own (ib,Obj.cells (inR (aD H (16 + 2 * k))) 108 (0,0)) (show (ib,Obj.cells (inR (aD H (16 + 2 * k))) 108 (0,0)) ∈ ([(ib,Obj.cells (inR (aD H (16 + 2 * k))) 108 (0,0)),(hx,Obj.cells (bv H) 25 (0,0))] ++ (Own.o 36 (jv (rowP H bs k)) own ++ [])) from (List.mem_append_left _ (List.mem_of_getElem? (i := 0) rfl)))); rw [val_two om] at h9; exact h9))) (fun _ _ => (.cons _ (.cons_cons _ (List.nil_sublist _)))) ?_
      rintro ⟨⟩ -
      refine Ap [3] [] (some [1,2,7,8,9,10,11,38,41,44]) #[true,true,true,true,true,true,true,false,false,false,false,false] (.cons _ (.cons_cons _ (List.nil_sublist _))) 5 (fun _ => [((-9223372036854775808 : Int) ≤ ((atP H k) : Int) ∧ ((atP H k) : Int) ≤ 9223372036854775807)]) ⟨(by have hq1 := atP_lt H k; omega),trivial⟩ ?_
      refine Ae 7 rfl 4  (Eff.quiet (raw := false) (orc := some (.agg (bv (bs.getD k zb)))) (v := .agg (bv (bs.getD k zb))) (nd := (fun S => [(∀ w1,S w1 → (loadVar 25 ⟨sb,(addO off (k * 512)),none⟩).run Tryz.prog w1 = .ok (.agg (bv (bs.getD k zb))) w1)])) (fun _ => kr) ⟨(fun w1 h => load_bytes Tryz.underlying25 rfl kr (hB.at' k) (fun j hj => by rw [addO_eq]; exact (cell_cells (h.ro _ hmem)).trans (blk_cell hB hcs om hj))),trivial⟩ kr) (fun _ _ => (.cons _ (.cons_cons _ (List.nil_sublist _)))) ?_
      rintro ⟨⟩ -
      refine Ap [8] [(0,false,some (.agg (jc (((atP H k) : Int),bs.getD k zb)).toArray))] (some [1,2,7,8,9,10,11,38,46]) #[true,true,true,true,true,true,true,true,true,false,false,false] (.cons _ (.cons_cons _ (List.nil_sublist _))) 3 (fun S => [(∀ w1,S w1 → (Instr.build 36 #[(0,.int .i64 ((atP H k) : Int)),(1,.agg (bv (bs.getD k zb)))]).run Tryz.prog w1 = .ok (.agg (jc (((atP H k) : Int),bs.getD k zb)).toArray) w1)]) ⟨(fun w1 _ => build_rw ((atP H k) : Int) (hB.at' k) w1),trivial⟩ ?_
      refine Ae 9 rfl 2  (Eff.buildAgg (vs := (jc (((atP H k) : Int),bs.getD k zb)).toArray) (n := 513) rfl kr Tryz.underlying29 kr (z := (.agg (jc wz).toArray)) kr (by rw [List.size_toArray]; exact jc_len (hB.at' k)) (by decide) (by decide)) (fun _ _ => (.cons _ (.cons _ (.cons_cons _ (List.nil_sublist _))))) ?_
      rintro x3 ⟨hx3,nx3⟩
      refine Ae 10 rfl 1  (Eff.appendF rfl 513 520 Tryz.underlying29 kr (z := (.agg (jc wz).toArray)) kr kr own (xs := (jv (rowP H bs k))) hok kr (b2 := x3) (off2 := 0) (m := 1) (c2 := 1) kr (jc (((atP H k) : Int),bs.getD k zb)) (jc_len (hB.at' k)) (jc_all _) [(x3,.cells ((jc (((atP H k) : Int),bs.getD k zb)).toArray) 36 (0,0)),(ib,.cells (inR (aD H (16 + 2 * k + 2))) 108 (0,0)),(hx,.cells (bv H) 25 (0,0))] [] (by rfl) (fun w1 h j v hj => wr_src h 0 rfl hj) om om) (fun _ _ => (.cons _ (.cons _ (.cons_cons _ (List.nil_sublist _))))) ?_
      rintro o6 ko6
      refine Ap [11] [] (some [1,2,7,8,9,10,11]) #[true,true,true,true,true,true,true,true,true,true,true,true] (.cons _ (.cons _ (.cons_cons _ (List.nil_sublist _)))) 0 n0 trivial ?_
      refine CfgA.done kr ?_
      refine Rg [1,2,7,8,9,10,11] [] (fun _ => [((-9223372036854775808 : Int) ≤ ((k : Int) + 1) ∧ ((k : Int) + 1) ≤ 9223372036854775807)]) ⟨om,trivial⟩ ?_
      have hrv : ((jv (rowP H bs k)) ++ (jc (((atP H k) : Int),bs.getD k zb))) = jv (rowP H bs (k + 1)) := by rw [rowP_succ,jv_app,jv_one,show (atP H k : Int) = _ from rfl]
      refine Cfg.setO (congrArg (fun (xq : Array Value) => (([(x3,.cells ((jc (((atP H k) : Int),bs.getD k zb)).toArray) 36 (0,0)),(ib,.cells xq 108 (0,0)),(hx,.cells (bv H) 25 (0,0))] ++ (Own.o 36 ((jv (rowP H bs k)) ++ (jc (((atP H k) : Int),bs.getD k zb))) o6 ++ [])) : List (Nat × Obj))) (show _ = (inR (aD H (16 + 2 * (k + 1)))) from rfl)) ?_
      refine Cfg.setO (congrArg (fun (xq : List Value) => (([(x3,.cells ((jc (((atP H k) : Int),bs.getD k zb)).toArray) 36 (0,0)),(ib,.cells (inR (aD H (16 + 2 * (k + 1)))) 108 (0,0)),(hx,.cells (bv H) 25 (0,0))] ++ (Own.o 36 xq o6 ++ [])) : List (Nat × Obj))) (show _ = (jv (rowP H bs (k + 1))) from hrv)) ?_
      refine Cfg.again rfl (k + 1,o6) ⟨by omega,hrv ▸ ko6⟩ (by show cntP H - (k + 1) < cntP H - k; omega) (Conv.mk kr) (.cons _ (.cons_cons _ (.cons_cons _ (List.Sublist.refl _))))
     ·
      refine Ie rfl  (Eff.quiet (raw := false) (orc := some (.agg (bv (bs.getD k zb)))) (v := .agg (bv (bs.getD k zb))) (nd := (fun S => [(∀ w1,S w1 → (loadVar 25 ⟨sb,(addO off (k * 512)),none⟩).run Tryz.prog w1 = .ok (.agg (bv (bs.getD k zb))) w1)])) (fun _ => kr) ⟨(fun w1 h => load_bytes Tryz.underlying25 rfl kr (hB.at' k) (fun j hj => by rw [addO_eq]; exact (cell_cells (h.ro _ hmem)).trans (blk_cell hB hcs om hj))),trivial⟩ kr) (fun _ _ => (.cons _ (.cons_cons _ (List.nil_sublist _)))) ?_
      rintro ⟨⟩ -
      refine Ae 2 rfl 5  (Eff.callM (vs := [.pointer (some ⟨ib,0,none⟩),.int .i64 2]) (.int .u64 ((atP H k) : Int)) 0 (b := ib) (ob := Obj.cells (inR (aD H (16 + 2 * k))) 108 (0,0)) (Obj.cells (inR (aD H (16 + 2 * k + 2))) 108 (0,0)) rfl Tryz.func48 rfl rfl kr kr (fun w1 h => (by have h9 := jNum ib H (16 + 2 * k) 2 w1 om (by decide) (h.own (ib,Obj.cells (inR (aD H (16 + 2 * k))) 108 (0,0)) (show (ib,Obj.cells (inR (aD H (16 + 2 * k))) 108 (0,0)) ∈ ([(ib,Obj.cells (inR (aD H (16 + 2 * k))) 108 (0,0)),(hx,Obj.cells (bv H) 25 (0,0))] ++ (Own.o 36 (jv (rowP H bs k)) own ++ [])) from (List.mem_append_left _ (List.mem_of_getElem? (i := 0) rfl)))); rw [val_two om] at h9; exact h9))) (fun _ _ => (.cons _ (.cons_cons _ (List.nil_sublist _)))) ?_
      rintro ⟨⟩ -
      refine Ap [3,8] [dZ,(0,false,some (.agg (jc (((atP H k) : Int),bs.getD k zb)).toArray))] (some [1,2,7,8,9,10,11,38,46]) #[true,true,true,true,true,true,true,true,true,false,false,false] (.cons _ (.cons_cons _ (List.nil_sublist _))) 3 (fun S => [((-9223372036854775808 : Int) ≤ ((atP H k) : Int) ∧ ((atP H k) : Int) ≤ 9223372036854775807),(∀ w1,S w1 → (Instr.build 36 #[(0,.int .i64 ((atP H k) : Int)),(1,.agg (bv (bs.getD k zb)))]).run Tryz.prog w1 = .ok (.agg (jc (((atP H k) : Int),bs.getD k zb)).toArray) w1)]) ⟨(by have hq1 := atP_lt H k; omega),(fun w1 _ => build_rw ((atP H k) : Int) (hB.at' k) w1),trivial⟩ ?_
      refine Ae 9 rfl 2  (Eff.buildAgg (vs := (jc (((atP H k) : Int),bs.getD k zb)).toArray) (n := 513) rfl kr Tryz.underlying29 kr (z := (.agg (jc wz).toArray)) kr (by rw [List.size_toArray]; exact jc_len (hB.at' k)) (by decide) (by decide)) (fun _ _ => (.cons _ (.cons _ (.cons_cons _ (List.nil_sublist _))))) ?_
      rintro x4 ⟨hx4,nx4⟩
      refine Ae 10 rfl 1  (Eff.appendF rfl 513 520 Tryz.underlying29 kr (z := (.agg (jc wz).toArray)) kr kr own (xs := (jv (rowP H bs k))) hok kr (b2 := x4) (off2 := 0) (m := 1) (c2 := 1) kr (jc (((atP H k) : Int),bs.getD k zb)) (jc_len (hB.at' k)) (jc_all _) [(x4,.cells ((jc (((atP H k) : Int),bs.getD k zb)).toArray) 36 (0,0)),(ib,.cells (inR (aD H (16 + 2 * k + 2))) 108 (0,0)),(hx,.cells (bv H) 25 (0,0))] [] (by rfl) (fun w1 h j v hj => wr_src h 0 rfl hj) om om) (fun _ _ => (.cons _ (.cons _ (.cons_cons _ (List.nil_sublist _))))) ?_
      rintro o8 ko8
      refine Ap [11] [] (some [1,2,7,8,9,10,11]) #[true,true,true,true,true,true,true,true,true,true,true,true] (.cons _ (.cons _ (.cons_cons _ (List.nil_sublist _)))) 0 n0 trivial ?_
      refine CfgA.done kr ?_
      refine Cfg.reg rfl [1,2,7,8,9,10,11] [] (Γ' := [(11,[],.int .i64 ((k : Int) + 1)),(10,[],.slice (Own.a o8) ((k + 1)) (Own.c o8)),(9,[],.int .u64 ((cntP H) : Int)),(8,[],.int .u64 ((numP H) : Int)),(7,[],.pointer (some ⟨ib,0,none⟩)),(2,[],.pointer (some ⟨hx,0,none⟩)),(1,[],.slice (some ⟨sb,off,none⟩) bs.length cap)]) (nd := (fun _ => [((-9223372036854775808 : Int) ≤ ((k : Int) + 1) ∧ ((k : Int) + 1) ≤ 9223372036854775807)])) (fun _ => kr) ⟨om,trivial⟩ ?_
      have hrv : ((jv (rowP H bs k)) ++ (jc (((atP H k) : Int),bs.getD k zb))) = jv (rowP H bs (k + 1)) := by rw [rowP_succ,jv_app,jv_one,show (atP H k : Int) = _ from rfl]
      refine Cfg.setO (congrArg (fun (xq : Array Value) => (([(x4,.cells ((jc (((atP H k) : Int),bs.getD k zb)).toArray) 36 (0,0)),(ib,.cells xq 108 (0,0)),(hx,.cells (bv H) 25 (0,0))] ++ (Own.o 36 ((jv (rowP H bs k)) ++ (jc (((atP H k) : Int),bs.getD k zb))) o8 ++ [])) : List (Nat × Obj))) (show _ = (inR (aD H (16 + 2 * (k + 1)))) from rfl)) ?_
      refine Cfg.setO (congrArg (fun (xq : List Value) => (([(x4,.cells ((jc (((atP H k) : Int),bs.getD k zb)).toArray) 36 (0,0)),(ib,.cells (inR (aD H (16 + 2 * (k + 1)))) 108 (0,0)),(hx,.cells (bv H) 25 (0,0))] ++ (Own.o 36 xq o8 ++ [])) : List (Nat × Obj))) (show _ = (jv (rowP H bs (k + 1))) from hrv)) ?_
      refine Cfg.again rfl (k + 1,o8) ⟨by omega,hrv ▸ ko8⟩ (by show cntP H - (k + 1) < cntP H - k; omega) (Conv.mk kr) (.cons _ (.cons_cons _ (.cons_cons _ (List.Sublist.refl _))))
    ·have c3 := (of_decide_eq_false c3r)
     obtain rfl : k = cntP H := by omega
     have hokc : OwnOk own 513 (rowP H bs (cntP H)).length (jv (rowP H bs (cntP H))) := by rw [rowP_len]; exact hok
     refine Conv.cfg (Γ' := [(10,[],.slice (Own.a own) ((cntP H)) (Own.c own)),(8,[],.int .u64 ((numP H) : Int)),(2,[],.pointer (some ⟨hx,0,none⟩))]) (Conv.mk kr) ?_
     refine Cfg.begA rfl kr [(hx,.cells (bv H) 25 (0,0))] ?_
     refine Ap [0,1,3] [dZ,dZ,(0,false,some (.agg (bv H)))] (some [8,10,49,50,52]) #[true,true,false,true,false] (.cons _ (.cons_cons _ (List.nil_sublist _))) 2 (fun S => [(∀ w1,S w1 → (loadVar 25 ⟨hx,0,none⟩).run Tryz.prog w1 = .ok (.agg (bv H)) w1)]) ⟨(fun w1 h => h.oload 0 rfl Tryz.underlying25 rfl (n := 512) kr ((bv_size _).trans hH)),trivial⟩ ?_
     refine Ae 2 rfl 1  (Eff.callA (vs := [.int .u64 ((numP H) : Int),.slice (Own.a own) ((cntP H)) (Own.c own)]) (.agg (bv (headF (numP H) (rowP H bs (cntP H))))) rfl Tryz.func8 rfl rfl kr (fun w1 h => by have h9 := refHead4 (numP H) (Own.a own) (Own.c own) (rowP H bs (cntP H)) (Own.o 36 (jv (rowP H bs (cntP H))) own) w1 hnl (inW_own hokc) (rowP_w hB H _) (by rw [rowP_len]; unfold maxLen; omega) (own_le hokc) (fun e he => (fun h1 => h.own e (show e ∈ ([(ib,Obj.cells (inR (aD H (16 + 2 * cntP H))) 108 (0,0)),(hx,Obj.cells (bv H) 25 (0,0))] ++ (Own.o 36 (jv (rowP H bs (cntP H))) own ++ [])) from (List.mem_append_right _ (List.mem_append_left _ h1)))) he); rw [rowP_len] at h9; exact h9)) (fun _ _ => (.cons _ (.cons_cons _ (List.nil_sublist _)))) ?_
     rintro ⟨⟩ -
     refine Ap [4] [(0,false,some (.bool ((headF (numP H) (rowP H bs (cntP H))) == H)))] (some [8,10,53]) #[true,true,true,true,true] (.cons _ (.cons_cons _ (List.nil_sublist _))) 0 (fun S => [(∀ w1,S w1 → (Op.equal 25 (.agg (bv (headF (numP H) (rowP H bs (cntP H))))) (.agg (bv H))).run Tryz.prog w1 = .ok ((headF (numP H) (rowP H bs (cntP H))) == H) w1)]) ⟨(fun _ _ => equal_bv Tryz.underlying25 Tryz.underlying5 kr (headF_len _ _) hH),trivial⟩ ?_
     refine CfgA.done kr ?_
     refine Cfg.cond rfl (b := (!((headF (numP H) (rowP H bs (cntP H))) == H))) kr (fun c4r => ?_) (fun c4r => ?_)
     ·have c4 : (((headF (numP H) (rowP H bs (cntP H))) == H) = false) := (notT c4r)
      refine Rg [4,5,6] [] n0 trivial ?_
      refine Cfg.ret rfl (rs := [.tmp 4,.tmp 5,.tmp 6]) rfl [.int .u64 0,.slice none 0 0,.bool false] ⟨kr,by kernel_rfl,by kernel_rfl,trivial⟩ (fun w1 hp => ?_)
      exact par_ret0 (par_no3 (by simpa using c4r)) hp
     ·have c4 : (((headF (numP H) (rowP H bs (cntP H))) == H) = true) := (notF c4r)
      refine Rg [4,5,6] [] n0 trivial ?_
      refine Cfg.ret rfl (rs := [.tmp 4,.tmp 5,.tmp 6]) rfl [.int .u64 ((numP H) : Int),.slice (Own.a own) ((cntP H)) (Own.c own),.bool true] ⟨kr,by kernel_rfl,by kernel_rfl,trivial⟩ (fun w1 hp => ?_)
      have hG : parG H bs = true := par_ok hmk om (by simpa using c4r)
      exact par_ret own hG hokc hp rfl
end Go.Proofs.YtohjpggjgomgoaaGreatDoor
namespace Go.Proofs.YtohjpggjgomgoaaGreatDoor
namespace K
theorem foldl_splK (off : Nat) : ∀ (vs : List Value) (k : Nat) (cs : Array Value),(vs.zipIdx k).foldl (fun (cs : Array Value) (p : Value × Nat) => cs.setIfInBounds (off + p.2) p.1) cs = spl cs (off + k) vs
 | [],k,cs => rfl
 | v :: vs,k,cs => by
  rw [List.zipIdx_cons,List.foldl_cons,foldl_splK off vs (k + 1),spl]
  rfl
theorem foldl_arr (off : Nat) (vs cs : Array Value) : vs.zipIdx.foldl (fun (cs : Array Value) (p : Value × Nat) => cs.setIfInBounds (off + p.2) p.1) cs = spl cs off vs.toList := by
 rw [← Array.foldl_toList,Array.toList_zipIdx,foldl_splK off vs.toList 0]; rfl
theorem fill_two {X u v : Array Value} {n : Nat} (hX : X.size = 2 * n) (hu : u.size = n) (hv : v.size = n) : Instr.fill (fun i => some (i * n,n)) X [(0,.agg u),(1,.agg v)] = some (u.toList ++ v.toList).toArray := by
 have hul : u.toList.length = n := by rw [Array.length_toList]; exact hu
 have hvl : v.toList.length = n := by rw [Array.length_toList]; exact hv
 have hXl : X.toList.length = 2 * n := by rw [Array.length_toList]; exact hX
 have a1 : spl X (0 * n) u.toList = (u.toList ++ X.toList.drop n).toArray := by
  have h := spl_at (L := X.toList) (A := []) (B := X.toList.take n) (T := X.toList.drop n) (vs := u.toList) (off := 0) (by rw [List.nil_append,List.take_append_drop]) rfl (by rw [List.length_take]; omega)
  rw [Nat.zero_mul]
  simpa using h
 have a2 : spl (u.toList ++ X.toList.drop n).toArray (1 * n) v.toList = (u.toList ++ v.toList).toArray := by
  have h := spl_at (L := u.toList ++ X.toList.drop n) (A := u.toList) (B := X.toList.drop n) (T := []) (vs := v.toList) (off := n) (by rw [List.append_nil]) hul (by rw [List.length_drop]; omega)
  rw [Nat.one_mul,h,List.append_nil]
 have e1 := (foldl_arr (0 * n) u X).trans a1
 have e2 := (foldl_arr (1 * n) v (u.toList ++ X.toList.drop n).toArray).trans a2
 have hYs : (u.toList ++ X.toList.drop n).toArray.size = 2 * n := by rw [List.size_toArray,List.length_append,List.length_drop]; omega
 have h3 : ¬ (u.size ≠ n) := by omega
 have h4 : ¬ (0 * n + u.size > X.size) := by omega
 have h5 : ¬ (v.size ≠ n) := by omega
 have h6 : ¬ (1 * n + v.size > (u.toList ++ X.toList.drop n).toArray.size) := by omega
 unfold Instr.fill
 simp only [Value.cells,h3,h4,decide_false,Bool.or_self,Bool.false_eq_true,if_false]
 rw [show Array.foldl (fun cs x => match x with | (c,j) => cs.setIfInBounds (0 * n + j) c) X u.zipIdx = (u.toList ++ X.toList.drop n).toArray from e1]
 unfold Instr.fill
 simp only [Value.cells,h5,h6,decide_false,Bool.or_self,Bool.false_eq_true,if_false]
 rw [show Array.foldl (fun cs x => match x with | (c,j) => cs.setIfInBounds (1 * n + j) c) (u.toList ++ X.toList.drop n).toArray v.zipIdx = (u.toList ++ v.toList).toArray from e2]
 rfl
theorem run_buildSlice_agg2 {P : Program} {w : World} {t e : TypeId} {u v : Array Value} {inf : TypeInfo} {z : Value} (ht : P.underlying t = some (.slice e)) (hi : P.info? e = some inf) (hz : inf.zero = some z) (hu : u.size = inf.size) (hv : v.size = inf.size) (h0 : 0 < inf.size) (h1 : inf.size ≤ 8388608) :
  (Instr.buildSlice t 2 #[(0,.agg u),(1,.agg v)]).run P w = .ok (.slice (some ⟨w.heap.size,0,none⟩) 2 2) (w.alloc (.cells (u.toList ++ v.toList).toArray e (0,0))) := by
 have hn : ¬ 2 * inf.size > 2 ^ 24 := by omega
 have hn0 : ¬ 2 * inf.size = 0 := by omega
 have hf := fill_two (X := (Array.range (2 * inf.size)).map (z.cells[· % z.cells.size]!)) (u := u) (v := v) (n := inf.size) (by simp) hu hv
 have e : (u.toList ++ v.toList).toArray = u ++ v := by apply Array.ext'; simp
 rw [e] at hf ⊢
 simp [Instr.buildSlice,run_underlying' ht,run_sizeOf' hi,hn,hn0,zeroValue,typeInfo,program,Sem.run,hi,hz,hf,newRow,newObj]
theorem Eff.buildAgg2 {C : Cx} {R O : List (Nat × Obj)} {Γ : Env} {op : Oper} {t e : TypeId} {x y : Operand} {u v : Array Value} (ho : op.op = .buildSlice t 2 #[(0,x),(1,y)]) (hx : opd Γ [] x = some (.agg u)) (hy : opd Γ [] y = some (.agg v)) (ht : C.P.underlying t = some (.slice e)) {n : Nat} (hsz : (C.P.info? e).map (·.size) = some n) {z : Value} (hz0 : (C.P.info? e).bind (·.zero) = some z)
  (hu : u.size = n) (hv : v.size = n) (h0 : 0 < n) (h1 : n ≤ 8388608) :
  Eff C R O Γ op Nat (fun b => .slice (some ⟨b,0,none⟩) 2 2) (fun b => (b,.cells (u.toList ++ v.toList).toArray e (0,0)) :: O) (fun b => C.w0.heap.size ≤ b ∧ b ∉ O.map (·.1)) := by
 refine Eff.of_run fun a w hs hp => ⟨w.heap.size,w.alloc (.cells (u.toList ++ v.toList).toArray e (0,0)),⟨hp.ext.size,hp.fresh (Nat.le_refl _)⟩,?_,hp.alloc _⟩
 obtain ⟨inf,hi,hse⟩ := Option.map_eq_some_iff.1 hsz
 obtain ⟨inf',hi',hz⟩ := Option.bind_eq_some_iff.1 hz0
 rw [hi] at hi'
 simp only [Option.some.injEq] at hi'
 subst hi'
 subst hse
 have hr := run_buildSlice_agg2 (P := C.P) (w := w) ht hi hz hu hv h0 h1
 have e : (u.toList ++ v.toList).toArray = u ++ v := by apply Array.ext'; simp
 rw [e] at hr ⊢
 simp [execOp,ho,opd_ok hs (holds_nil _) hx,opd_ok hs (holds_nil _) hy,hr]
end K
end Go.Proofs.YtohjpggjgomgoaaGreatDoor
namespace Go.Proofs.YtohjpggjgomgoaaGreatDoor
def roundsL : List Int := [1116352408,1899447441,3049323471,3921009573,961987163,1508970993,2453635748,2870763221,3624381080,310598401,607225278,1426881987,1925078388,2162078206,2614888103,3248222580,3835390401,4022224774,264347078,604807628,770255983,1249150122,1555081692,1996064986,2554220882,2821834349,2952996808,3210313671,3336571891,3584528711,113926993,338241895,666307205,773529912,1294757372,1396182291,1695183700,1986661051,2177026350,2456956037,2730485921,2820302411,3259730800,3345764771,3516065817,3600352804,4094571909,275423344,430227734,506948616,659060556,883997877,958139571,1322822218,1537002063,1747873779,1955562222,2024104815,2227730452,2361852424,2428436474,2756734187,3204031479,3329325298]
end Go.Proofs.YtohjpggjgomgoaaGreatDoor
namespace Go.Proofs.YtohjpggjgomgoaaGreatDoor
open K
set_option linter.unusedVariables false
theorem rows_app (a b : List (List UInt8)) : rows (a ++ b) = rows a ++ rows b := by simp [rows]
theorem rows_one (b : List UInt8) : rows [b] = (bv b).toList := by simp [rows]
theorem parL_w {H : List UInt8} {bs : List (List UInt8)} (h : W5 bs) : WW (parL H bs) := by
 unfold parL; split
 ·exact rowP_w h _ _
 ·exact WW.nil
theorem inB_own {o : K.Own} {e : TypeId} {l : List (List UInt8)} (hok : OwnOk o 512 l.length (rows l)) : InB (o.o e (rows l)) o.a l := by
 intro hn
 obtain ⟨p,rfl⟩ := own_some hok om
 refine ⟨p.1,0,_,e,(0,0),rfl,List.mem_cons_self ..,fun j hj => ?_⟩
 have hl := hok.len
 rw [Nat.zero_add]
 simp only [List.getElem?_toArray]
 rw [List.getElem?_append_left om,List.getD_eq_getElem?_getD,List.getElem?_eq_getElem om]; rfl
end Go.Proofs.YtohjpggjgomgoaaGreatDoor
