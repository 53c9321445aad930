/- disk: an act, on both disks. -/
import Derived.Test.YtnoipbbcpiaemaaDkB
namespace Go.Proofs.Ytnoipbbcpiaemaa
open K
set_option linter.unusedVariables false

/-- An act. -/
structure AK where
  d : Int
  q : Int
  b : UInt8
  la : Option Addr
  cap : Nat
  kept : List Bool
  Rl : List (Nat × Obj)
def ac (a : AK) : List Value := [.int .i64 a.d, .int .i64 a.q, .int .u8 (a.b.toNat : Int), .slice a.la a.kept.length a.cap]
def blkK (b : UInt8) (k : Nat) : List UInt8 := (List.range 512).map fun i => if i < k then b + UInt8.ofNat i else 0
theorem blkK_len (b : UInt8) (k : Nat) : (blkK b k).length = 512 := by simp [blkK]
theorem blkK_zero (b : UInt8) : blkK b 0 = List.replicate 512 0 := by
  unfold blkK
  rw [show (fun i : Nat => if i < 0 then b + UInt8.ofNat i else 0) = fun _ => (0 : UInt8) from funext fun i => if_neg (Nat.not_lt_zero i)]
  rw [List.map_const', List.length_range]
theorem blkK_set {b : UInt8} {k : Nat} (h : k < 512) : (blkK b k).set k (b + UInt8.ofNat k) = blkK b (k + 1) := by
  refine ext_getD (d := 0) (by rw [List.length_set, blkK_len, blkK_len]) (fun i hi => ?_)
  rw [List.length_set, blkK_len] at hi
  rw [getD_set _ _ _ _ (by rw [blkK_len]; exact h)]
  unfold blkK
  rw [getD_mapr _ _ _ hi, getD_mapr _ _ _ hi]
  by_cases h1 : i = k
  · subst h1; rw [if_pos rfl, if_pos (by omega)]
  · rw [if_neg h1]
    by_cases h2 : i < k
    · rw [if_pos h2, if_pos (by omega)]
    · rw [if_neg h2, if_neg (by omega)]
theorem u8_sum (b : UInt8) (k : Nat) (h : k < 512) : UInt8.ofNat ((((b.toNat : Int) + ((k : Int) % 256)) % 256)).toNat = b + UInt8.ofNat k := by
  apply UInt8.toNat_inj.1
  rw [UInt8.toNat_add, UInt8.toNat_ofNat', UInt8.toNat_ofNat']
  have := b.toNat_lt
  omega
/-- A disk behind an act. -/
def doF (a : AK) (D : DK) : DK :=
  if a.d.tmod 5 = 1 ∨ a.d.tmod 5 = -1 then (barF D).2 else if a.d.tmod 5 = 2 ∨ a.d.tmod 5 = -2 then D
  else if a.d.tmod 5 = 3 ∨ a.d.tmod 5 = -3 then { D with fuse := if -1 > a.q then -1 else a.q } else if a.d.tmod 5 = 4 ∨ a.d.tmod 5 = -4 then crashF a.kept D
  else (writeF D a.q (blkK a.b 512)).2
theorem DG.fuse {D : DK} (h : DG D) {q : Int} (hq : q ≤ 9223372036854775807) : DG { D with fuse := if -1 > q then -1 else q } :=
  ⟨h.w, h.ww, h.k, h.n, h.nd, by show -1 ≤ (if -1 > q then -1 else q) ∧ (if -1 > q then -1 else q) ≤ _; split <;> omega⟩
theorem DG.act {D : DK} (h : DG D) {a : AK} (hq : a.q ≤ 9223372036854775807) : DG (doF a D) := by
  unfold doF
  split
  · exact h.bar
  · split
    · exact h
    · split
      · exact h.fuse hq
      · split
        · exact h.crash _
        · exact h.write _ (blkK_len _ _)
theorem doF_steps (a : AK) (D : DK) : D.steps ≤ (doF a D).steps ∧ (doF a D).steps ≤ D.steps + 1 := by
  unfold doF
  split
  · exact barF_steps D
  · split
    · exact ⟨by omega, by omega⟩
    · split
      · exact ⟨by simp only; omega, by simp only; omega⟩
      · split
        · exact ⟨by show D.steps ≤ D.steps; omega, by show D.steps ≤ D.steps + 1; omega⟩
        · exact writeF_steps _ _ _
theorem dFuseH (m : DM) (x : MX) (D : DK) (q : Int) (w : World) (hA : Has w (dO D m x)) (hd : ((dO D m x).map (·.1)).Nodup) :
    Calls Try.prog 14 #[.pointer (some ⟨m.d, 0, none⟩), .int .i64 q] w fun e w' => e = .returned (.tuple #[]) ∧ ∃ R1, HP w ((dO D m x).map (·.1)) R1 (dO { D with fuse := if -1 > q then -1 else q } m x) w' := by
  refine (dFuse m D q w (hA (m.d, _) (List.mem_cons_self ..))).mono ?_
  rintro e w' ⟨rfl, hx, hb⟩
  exact ⟨rfl, [], (HP.ofL hA hd (fun e he => by cases he) (fun e he => by cases he)).mut 0 rfl hx hb⟩
theorem perm_mid (L A B : List (Nat × Obj)) : (L ++ (A ++ (B ++ []))).Perm ((L ++ B) ++ (A ++ [])) := by
  rw [List.append_nil, List.append_nil, List.append_assoc]
  exact List.Perm.append_left _ List.perm_append_comm
theorem mem_has {w0 w : World} {M : List Nat} {R O L : List (Nat × Obj)} (h : HP w0 M R O w) (hL : L.Sublist O) : Has w L := fun e he => h.own e (hL.subset he)
theorem apart {w0 w : World} {M : List Nat} {R Fl A T L : List (Nat × Obj)} (h : HP w0 M R (Fl ++ (A ++ T)) w) (hL : ∀ e ∈ L, e ∈ R) : ∀ e ∈ L, e.1 ∉ A.map (·.1) := fun e he hm => by
  obtain ⟨e2, h2, h3⟩ := List.mem_map.1 hm
  exact h.away (List.mem_append_right _ (List.mem_append_left _ h2)) (hL e he) h3

set_option maxRecDepth 100000 in
theorem dLight (a : AK) (w : World) :
    Calls Try.prog 19 #[.agg (ac a).toArray] w fun e w' => e = .returned (.bool (decide ((a.kept.length : Int) ≤ 500))) ∧ Ext [] w w' := by
  refine enter (vs := [.agg (ac a).toArray]) [] [] [] Try.func19 rfl (by kernel_rfl) (HP.start w) ?_
  refine Cfg.begL rfl ?_
  refine CfgL.eff (o := _) rfl (by kernel_rfl) (by kernel_rfl) (Eff.box (v := .agg (ac a).toArray) rfl (by kernel_rfl)) ?_
  rintro b1 ⟨hb1, nb1⟩
  refine CfgL.pure 1 [] (some [1]) (Γ' := [(1, [], .pointer (some ⟨b1, 0, none⟩))]) (nd := (fun _ => [])) (by kernel_rfl) (fun _ => by kernel_rfl) trivial ?_
  refine CfgL.done rfl ?_
  refine Cfg.reg rfl [2] [(0, false, none), (0, false, some (.slice a.la a.kept.length a.cap))] (Γ' := [(2, [], .bool (decide ((a.kept.length : Int) ≤ (500 : Int))))]) (nd := (fun S => [(∀ w1, S w1 → w1.cell? ⟨b1, 3, none⟩ = some (.slice a.la a.kept.length a.cap))])) (fun _ => by kernel_rfl) ⟨(fun w1 h => h.ocell 0 rfl rfl), trivial⟩ ?_
  refine Cfg.ret rfl (rs := [.tmp 2]) rfl [.bool (decide ((a.kept.length : Int) ≤ (500 : Int)))] ⟨by kernel_rfl, trivial⟩ (fun w1 hp => ?_)
  exact ⟨rfl, hp.ext⟩

set_option maxRecDepth 100000 in
theorem dDo (m : DM) (r : RM) (x : MX) (D : DK) (a : AK) (w : World) (hg : DG D) (hmo : MapOk x.1 x.2 (wv2 D.wait)) (hst : 0 ≤ D.steps ∧ D.steps ≤ 4611686018427387904) (hq : a.q ≤ 9223372036854775807) (hI : InS a.Rl a.la a.kept.length (fun j => .bool (a.kept.getD j false))) (hl : a.kept.length ≤ maxLen) (hR : Has w a.Rl) (hA : Has w (dO D m x ++ rO (toR D) r)) (hd : ((dO D m x ++ rO (toR D) r).map (·.1)).Nodup) (hnr : ∀ e ∈ a.Rl, e.1 ∉ (dO D m x ++ rO (toR D) r).map (·.1)) :
    Calls Try.prog 20 #[.pointer (some ⟨m.d, 0, none⟩), .pointer (some ⟨r.r, 0, none⟩), .agg (ac a).toArray] w fun e w' => ∃ x2 : MX, MapOk x2.1 x2.2 (wv2 (doF a D).wait) ∧ e = .returned (.bool true) ∧ ∃ R1, HP w ((dO D m x ++ rO (toR D) r).map (·.1)) R1 (dO (doF a D) m x2 ++ rO (toR (doF a D)) r) w' := by
  refine enter (vs := [.pointer (some ⟨m.d, 0, none⟩), .pointer (some ⟨r.r, 0, none⟩), .agg (ac a).toArray]) ((dO D m x ++ rO (toR D) r).map (·.1)) a.Rl ([] ++ (dO D m x ++ (rO (toR D) r ++ []))) Try.func20 rfl (by kernel_rfl) (by rw [List.append_nil]; exact HP.ofL hA hd hR hnr) ?_
  refine Cfg.begL rfl ?_
  refine CfgL.eff (o := _) rfl (by kernel_rfl) (by kernel_rfl) (Eff.box (v := .agg (ac a).toArray) rfl (by kernel_rfl)) ?_
  rintro bx ⟨hbx, nbx⟩
  refine CfgL.pure 1 [] (some [0, 1, 5]) (Γ' := [(5, [], .pointer (some ⟨bx, 0, none⟩)), (0, [], .pointer (some ⟨m.d, 0, none⟩)), (1, [], .pointer (some ⟨r.r, 0, none⟩))]) (nd := (fun _ => [])) (by kernel_rfl) (fun _ => by kernel_rfl) trivial ?_
  refine CfgL.done rfl ?_
  refine Cfg.begL rfl ?_
  refine CfgL.pure 2 [(0, false, none), (0, false, some (.int .i64 a.d))] none (Γ' := [(14, [], .int .i64 a.d), (13, [], .pointer (some ⟨bx, 0, none⟩)), (5, [], .pointer (some ⟨bx, 0, none⟩)), (0, [], .pointer (some ⟨m.d, 0, none⟩)), (1, [], .pointer (some ⟨r.r, 0, none⟩))]) (nd := (fun S => [(∀ w1, S w1 → w1.cell? ⟨bx, 0, none⟩ = some (.int .i64 a.d))])) (by kernel_rfl) (fun _ => by kernel_rfl) ⟨(fun w1 h => h.ocell 0 rfl rfl), trivial⟩ ?_
  refine CfgL.eff (o := _) rfl (by kernel_rfl) (by kernel_rfl) (Eff.remI (k := .i64) (a := a.d) (b := 5) rfl (by kernel_rfl) (by kernel_rfl) (by decide)) ?_
  rintro ⟨⟩ -
  refine CfgL.done rfl ?_
  refine Conv.cfg (Γ' := [(15, [], .int .i64 (a.d.tmod 5)), (5, [], .pointer (some ⟨bx, 0, none⟩)), (0, [], .pointer (some ⟨m.d, 0, none⟩)), (1, [], .pointer (some ⟨r.r, 0, none⟩))]) (Conv.mk (by kernel_rfl)) ?_
  refine Cfg.reg rfl [0, 1, 5, 15, 38] [] (Γ' := [(38, [], .bool ((a.d.tmod 5) == (1 : Int))), (15, [], .int .i64 (a.d.tmod 5)), (5, [], .pointer (some ⟨bx, 0, none⟩)), (0, [], .pointer (some ⟨m.d, 0, none⟩)), (1, [], .pointer (some ⟨r.r, 0, none⟩))]) (nd := (fun _ => [])) (fun _ => by kernel_rfl) trivial ?_
  refine Cfg.cond rfl (b := ((a.d.tmod 5) == (1 : Int))) (by kernel_rfl) (fun c1r => ?_) (fun c1r => ?_)
  · have c1 : ((a.d.tmod 5) = (1 : Int)) := (beq_iff_eq.1 c1r)
    refine Cfg.condT rfl (b := ((a.d.tmod 5) == (1 : Int))) (by kernel_rfl) c1r ?_
    refine Cfg.begL rfl ?_
    refine CfgL.pure 1 [] none (Γ' := [(41, [], .pointer (some ⟨m.d, 0, none⟩)), (38, [], .bool ((a.d.tmod 5) == (1 : Int))), (15, [], .int .i64 (a.d.tmod 5)), (5, [], .pointer (some ⟨bx, 0, none⟩)), (0, [], .pointer (some ⟨m.d, 0, none⟩)), (1, [], .pointer (some ⟨r.r, 0, none⟩))]) (nd := (fun _ => [])) (by kernel_rfl) (fun _ => by kernel_rfl) trivial ?_
    refine CfgL.eff (o := _) rfl (by kernel_rfl) (by kernel_rfl) (Eff.callH (vs := [.pointer (some ⟨m.d, 0, none⟩)]) (fun _ : MX => .int .i64 ((barF D).1)) (dO D m x) (fun y => dO ((barF D).2) m y) (fun y => MapOk y.1 y.2 (wv2 ((barF D).2).wait)) [(bx, .cells ((ac a).toArray) 30 (0, 0))] ([] ++ (rO (toR D) r ++ [])) rfl rfl Try.func9 rfl rfl (by kernel_rfl) (fun w1 h hA hd => dBarrier m x D w1 hg hmo hA hd hst)) ?_
    rintro x1 hmo_x1
    refine CfgL.pure 1 [] none (Γ' := [(43, [], .pointer (some ⟨r.r, 0, none⟩)), (42, [], .int .i64 ((barF D).1)), (41, [], .pointer (some ⟨m.d, 0, none⟩)), (38, [], .bool ((a.d.tmod 5) == (1 : Int))), (15, [], .int .i64 (a.d.tmod 5)), (5, [], .pointer (some ⟨bx, 0, none⟩)), (0, [], .pointer (some ⟨m.d, 0, none⟩)), (1, [], .pointer (some ⟨r.r, 0, none⟩))]) (nd := (fun _ => [])) (by kernel_rfl) (fun _ => by kernel_rfl) trivial ?_
    refine CfgL.eff (o := _) rfl (by kernel_rfl) (by kernel_rfl) (Eff.callH (vs := [.pointer (some ⟨r.r, 0, none⟩)]) (fun _ : Unit => .int .i64 ((barF D).1)) (rO (toR D) r) (fun _ => rO (toR ((barF D).2)) r) (fun _ => True) ([(bx, .cells ((ac a).toArray) 30 (0, 0))] ++ (dO ((barF D).2) m x1)) [] rfl rfl Try.func30 rfl rfl (by kernel_rfl) (fun w1 h hA hd => (by have h9 := rBarrier r (toR D) w1 (toR_ok hg) hA hd hst; rw [toR_bar hg] at h9; exact h9.mono fun e w2 hx => ⟨(), trivial, hx⟩))) ?_
    rintro ⟨⟩ -
    refine CfgL.pure 2 [] (some [6]) (Γ' := [(6, [], .bool (((barF D).1) == ((barF D).1)))]) (nd := (fun _ => [])) (by kernel_rfl) (fun _ => by kernel_rfl) trivial ?_
    refine CfgL.done rfl ?_
    refine Cfg.ret rfl (rs := [.tmp 6]) rfl [.bool (((barF D).1) == ((barF D).1))] ⟨by kernel_rfl, trivial⟩ (fun w1 hp => ?_)
    have H1 : a.d.tmod 5 = 1 ∨ a.d.tmod 5 = -1 := by omega
    have hx : doF a D = (barF D).2 := by unfold doF; rw [if_pos H1]
    rw [hx]
    have h8 : HP w ((dO D m x ++ rO (toR D) r).map (·.1)) a.Rl ([(bx, Obj.cells ((ac a).toArray) 30 (0, 0))] ++ (dO ((barF D).2) m x1 ++ (rO (toR ((barF D).2)) r ++ []))) w1 := hp
    rw [List.append_nil] at h8
    exact ⟨x1, hmo_x1, by simp [resOf], _, h8.sub (List.sublist_append_right _ _)⟩
  · have c1 : ((a.d.tmod 5) ≠ (1 : Int)) := (beq_eq_false_iff_ne.1 c1r)
    refine Cfg.reg rfl [0, 1, 5, 15, 38] [] (Γ' := [(38, [], .bool ((a.d.tmod 5) == ((-1) : Int))), (15, [], .int .i64 (a.d.tmod 5)), (5, [], .pointer (some ⟨bx, 0, none⟩)), (0, [], .pointer (some ⟨m.d, 0, none⟩)), (1, [], .pointer (some ⟨r.r, 0, none⟩))]) (nd := (fun _ => [])) (fun _ => by kernel_rfl) trivial ?_
    refine Cfg.cond rfl (b := ((a.d.tmod 5) == ((-1) : Int))) (by kernel_rfl) (fun c3r => ?_) (fun c3r => ?_)
    · have c3 : ((a.d.tmod 5) = ((-1) : Int)) := (beq_iff_eq.1 c3r)
      refine Cfg.begL rfl ?_
      refine CfgL.pure 1 [] none (Γ' := [(41, [], .pointer (some ⟨m.d, 0, none⟩)), (38, [], .bool ((a.d.tmod 5) == ((-1) : Int))), (15, [], .int .i64 (a.d.tmod 5)), (5, [], .pointer (some ⟨bx, 0, none⟩)), (0, [], .pointer (some ⟨m.d, 0, none⟩)), (1, [], .pointer (some ⟨r.r, 0, none⟩))]) (nd := (fun _ => [])) (by kernel_rfl) (fun _ => by kernel_rfl) trivial ?_
      refine CfgL.eff (o := _) rfl (by kernel_rfl) (by kernel_rfl) (Eff.callH (vs := [.pointer (some ⟨m.d, 0, none⟩)]) (fun _ : MX => .int .i64 ((barF D).1)) (dO D m x) (fun y => dO ((barF D).2) m y) (fun y => MapOk y.1 y.2 (wv2 ((barF D).2).wait)) [(bx, .cells ((ac a).toArray) 30 (0, 0))] ([] ++ (rO (toR D) r ++ [])) rfl rfl Try.func9 rfl rfl (by kernel_rfl) (fun w1 h hA hd => dBarrier m x D w1 hg hmo hA hd hst)) ?_
      rintro x2 hmo_x2
      refine CfgL.pure 1 [] none (Γ' := [(43, [], .pointer (some ⟨r.r, 0, none⟩)), (42, [], .int .i64 ((barF D).1)), (41, [], .pointer (some ⟨m.d, 0, none⟩)), (38, [], .bool ((a.d.tmod 5) == ((-1) : Int))), (15, [], .int .i64 (a.d.tmod 5)), (5, [], .pointer (some ⟨bx, 0, none⟩)), (0, [], .pointer (some ⟨m.d, 0, none⟩)), (1, [], .pointer (some ⟨r.r, 0, none⟩))]) (nd := (fun _ => [])) (by kernel_rfl) (fun _ => by kernel_rfl) trivial ?_
      refine CfgL.eff (o := _) rfl (by kernel_rfl) (by kernel_rfl) (Eff.callH (vs := [.pointer (some ⟨r.r, 0, none⟩)]) (fun _ : Unit => .int .i64 ((barF D).1)) (rO (toR D) r) (fun _ => rO (toR ((barF D).2)) r) (fun _ => True) ([(bx, .cells ((ac a).toArray) 30 (0, 0))] ++ (dO ((barF D).2) m x2)) [] rfl rfl Try.func30 rfl rfl (by kernel_rfl) (fun w1 h hA hd => (by have h9 := rBarrier r (toR D) w1 (toR_ok hg) hA hd hst; rw [toR_bar hg] at h9; exact h9.mono fun e w2 hx => ⟨(), trivial, hx⟩))) ?_
      rintro ⟨⟩ -
      refine CfgL.pure 2 [] (some [6]) (Γ' := [(6, [], .bool (((barF D).1) == ((barF D).1)))]) (nd := (fun _ => [])) (by kernel_rfl) (fun _ => by kernel_rfl) trivial ?_
      refine CfgL.done rfl ?_
      refine Cfg.ret rfl (rs := [.tmp 6]) rfl [.bool (((barF D).1) == ((barF D).1))] ⟨by kernel_rfl, trivial⟩ (fun w1 hp => ?_)
      have H1 : a.d.tmod 5 = 1 ∨ a.d.tmod 5 = -1 := by omega
      have hx : doF a D = (barF D).2 := by unfold doF; rw [if_pos H1]
      rw [hx]
      have h8 : HP w ((dO D m x ++ rO (toR D) r).map (·.1)) a.Rl ([(bx, Obj.cells ((ac a).toArray) 30 (0, 0))] ++ (dO ((barF D).2) m x2 ++ (rO (toR ((barF D).2)) r ++ []))) w1 := hp
      rw [List.append_nil] at h8
      exact ⟨x2, hmo_x2, by simp [resOf], _, h8.sub (List.sublist_append_right _ _)⟩
    · have c3 : ((a.d.tmod 5) ≠ ((-1) : Int)) := (beq_eq_false_iff_ne.1 c3r)
      refine Cfg.reg rfl [0, 1, 5, 15, 46] [] (Γ' := [(46, [], .bool ((a.d.tmod 5) == (2 : Int))), (15, [], .int .i64 (a.d.tmod 5)), (5, [], .pointer (some ⟨bx, 0, none⟩)), (0, [], .pointer (some ⟨m.d, 0, none⟩)), (1, [], .pointer (some ⟨r.r, 0, none⟩))]) (nd := (fun _ => [])) (fun _ => by kernel_rfl) trivial ?_
      refine Cfg.cond rfl (b := ((a.d.tmod 5) == (2 : Int))) (by kernel_rfl) (fun c4r => ?_) (fun c4r => ?_)
      · have c4 : ((a.d.tmod 5) = (2 : Int)) := (beq_iff_eq.1 c4r)
        refine Cfg.condT rfl (b := ((a.d.tmod 5) == (2 : Int))) (by kernel_rfl) c4r ?_
        refine Cfg.begL rfl ?_
        refine CfgL.pure 3 [(0, false, none), (0, false, none), (0, false, some (.int .i64 a.q))] none (Γ' := [(52, [], .int .i64 a.q), (51, [], .pointer (some ⟨bx, 1, none⟩)), (50, [], .pointer (some ⟨m.d, 0, none⟩)), (46, [], .bool ((a.d.tmod 5) == (2 : Int))), (15, [], .int .i64 (a.d.tmod 5)), (5, [], .pointer (some ⟨bx, 0, none⟩)), (0, [], .pointer (some ⟨m.d, 0, none⟩)), (1, [], .pointer (some ⟨r.r, 0, none⟩))]) (nd := (fun S => [(∀ w1, S w1 → w1.cell? ⟨bx, 1, none⟩ = some (.int .i64 a.q))])) (by kernel_rfl) (fun _ => by kernel_rfl) ⟨(fun w1 h => h.ocell 0 rfl rfl), trivial⟩ ?_
        refine CfgL.eff (o := _) rfl (by kernel_rfl) (by kernel_rfl) (Eff.callA (vs := [.pointer (some ⟨m.d, 0, none⟩), .int .i64 a.q]) (.tuple #[.agg (bv (readF D a.q)), .int .i64 (fltF D a.q)]) rfl Try.func13 rfl rfl (by kernel_rfl) (fun w1 h => dRead m x D a.q w1 hg hmo (mem_has h (List.Sublist.trans (List.sublist_append_left (dO D m x) _) (List.sublist_append_right [(bx, Obj.cells ((ac a).toArray) 30 (0, 0))] _))))) ?_
        rintro ⟨⟩ -
        refine CfgL.pure 3 [] none (Γ' := [(55, [], .int .i64 (fltF D a.q)), (54, [], .agg (bv (readF D a.q))), (49, [], .tuple #[.agg (bv (readF D a.q)), .int .i64 (fltF D a.q)]), (53, [], .tuple #[.agg (bv (readF D a.q)), .int .i64 (fltF D a.q)]), (52, [], .int .i64 a.q), (51, [], .pointer (some ⟨bx, 1, none⟩)), (50, [], .pointer (some ⟨m.d, 0, none⟩)), (46, [], .bool ((a.d.tmod 5) == (2 : Int))), (15, [], .int .i64 (a.d.tmod 5)), (5, [], .pointer (some ⟨bx, 0, none⟩)), (0, [], .pointer (some ⟨m.d, 0, none⟩)), (1, [], .pointer (some ⟨r.r, 0, none⟩))]) (nd := (fun _ => [])) (by kernel_rfl) (fun _ => by kernel_rfl) trivial ?_
        refine CfgL.eff (o := _) rfl (by kernel_rfl) (by kernel_rfl) (Eff.alloc (z := (.agg (bv (List.replicate 512 0)))) rfl (by kernel_rfl)) ?_
        rintro b2 ⟨hb2, nb2⟩
        refine CfgL.eff (o := _) rfl (by kernel_rfl) (by kernel_rfl) (Eff.storeN (b := b2) (off := 0) (vs := (bv (readF D a.q))) (n := 512) rfl (by kernel_rfl) (by kernel_rfl) (by kernel_rfl) ((bv_size _).trans (readF_len hg _)) (all_bv _) 0 (cs := (bv (List.replicate 512 0))) (e := 33) (by kernel_rfl) (by rw [zsz512]; omega)) ?_
        rintro ⟨⟩ -
        refine CfgL.setO (O' := ([(b2, .cells (bv (readF D a.q)) 33 (0, 0)), (bx, .cells ((ac a).toArray) 30 (0, 0))] ++ (dO D m x ++ (rO (toR D) r ++ [])))) (congrArg (fun (xq : Array Value) => (([(b2, .cells xq 33 (0, 0)), (bx, .cells ((ac a).toArray) 30 (0, 0))] ++ (dO D m x ++ (rO (toR D) r ++ []))) : List (Nat × Obj))) (spl_all (((bv_size _).trans (readF_len hg _)).trans zsz512.symm))) ?_
        refine CfgL.pure 1 [] (some [1, 5, 7, 8]) (Γ' := [(8, [], .int .i64 (fltF D a.q)), (7, [], .pointer (some ⟨b2, 0, none⟩)), (5, [], .pointer (some ⟨bx, 0, none⟩)), (1, [], .pointer (some ⟨r.r, 0, none⟩))]) (nd := (fun _ => [])) (by kernel_rfl) (fun _ => by kernel_rfl) trivial ?_
        refine CfgL.done rfl ?_
        refine Cfg.begL rfl ?_
        refine CfgL.pure 3 [(0, false, none), (0, false, none), (0, false, some (.int .i64 a.q))] none (Γ' := [(59, [], .int .i64 a.q), (58, [], .pointer (some ⟨bx, 1, none⟩)), (57, [], .pointer (some ⟨r.r, 0, none⟩)), (8, [], .int .i64 (fltF D a.q)), (7, [], .pointer (some ⟨b2, 0, none⟩)), (5, [], .pointer (some ⟨bx, 0, none⟩)), (1, [], .pointer (some ⟨r.r, 0, none⟩))]) (nd := (fun S => [(∀ w1, S w1 → w1.cell? ⟨bx, 1, none⟩ = some (.int .i64 a.q))])) (by kernel_rfl) (fun _ => by kernel_rfl) ⟨(fun w1 h => h.ocell 1 rfl rfl), trivial⟩ ?_
        refine CfgL.eff (o := _) rfl (by kernel_rfl) (by kernel_rfl) (Eff.callA (vs := [.pointer (some ⟨r.r, 0, none⟩), .int .i64 a.q]) (.tuple #[.agg (bv (readF D a.q)), .int .i64 (fltF D a.q)]) rfl Try.func31 rfl rfl (by kernel_rfl) (fun w1 h => (by have h9 := rRead r (toR D) a.q w1 (toR_ok hg) (mem_has h (List.Sublist.trans (List.Sublist.trans (List.sublist_append_left (rO (toR D) r) _) (List.sublist_append_right (dO D m x) _)) (List.sublist_append_right [(b2, Obj.cells (bv (readF D a.q)) 33 (0, 0)), (bx, Obj.cells ((ac a).toArray) 30 (0, 0))] _))); rw [toR_readE, toR_readB] at h9; exact h9))) ?_
        rintro ⟨⟩ -
        refine CfgL.pure 3 [] none (Γ' := [(62, [], .int .i64 (fltF D a.q)), (61, [], .agg (bv (readF D a.q))), (56, [], .tuple #[.agg (bv (readF D a.q)), .int .i64 (fltF D a.q)]), (60, [], .tuple #[.agg (bv (readF D a.q)), .int .i64 (fltF D a.q)]), (59, [], .int .i64 a.q), (58, [], .pointer (some ⟨bx, 1, none⟩)), (57, [], .pointer (some ⟨r.r, 0, none⟩)), (8, [], .int .i64 (fltF D a.q)), (7, [], .pointer (some ⟨b2, 0, none⟩)), (5, [], .pointer (some ⟨bx, 0, none⟩)), (1, [], .pointer (some ⟨r.r, 0, none⟩))]) (nd := (fun _ => [])) (by kernel_rfl) (fun _ => by kernel_rfl) trivial ?_
        refine CfgL.eff (o := _) rfl (by kernel_rfl) (by kernel_rfl) (Eff.alloc (z := (.agg (bv (List.replicate 512 0)))) rfl (by kernel_rfl)) ?_
        rintro b3 ⟨hb3, nb3⟩
        refine CfgL.eff (o := _) rfl (by kernel_rfl) (by kernel_rfl) (Eff.storeN (b := b3) (off := 0) (vs := (bv (readF D a.q))) (n := 512) rfl (by kernel_rfl) (by kernel_rfl) (by kernel_rfl) ((bv_size _).trans (readF_len hg _)) (all_bv _) 0 (cs := (bv (List.replicate 512 0))) (e := 33) (by kernel_rfl) (by rw [zsz512]; omega)) ?_
        rintro ⟨⟩ -
        refine CfgL.setO (O' := ([(b3, .cells (bv (readF D a.q)) 33 (0, 0)), (b2, .cells (bv (readF D a.q)) 33 (0, 0)), (bx, .cells ((ac a).toArray) 30 (0, 0))] ++ (dO D m x ++ (rO (toR D) r ++ [])))) (congrArg (fun (xq : Array Value) => (([(b3, .cells xq 33 (0, 0)), (b2, .cells (bv (readF D a.q)) 33 (0, 0)), (bx, .cells ((ac a).toArray) 30 (0, 0))] ++ (dO D m x ++ (rO (toR D) r ++ []))) : List (Nat × Obj))) (spl_all (((bv_size _).trans (readF_len hg _)).trans zsz512.symm))) ?_
        refine CfgL.pure 1 [] (some [7, 8, 9, 10]) (Γ' := [(10, [], .int .i64 (fltF D a.q)), (9, [], .pointer (some ⟨b3, 0, none⟩)), (8, [], .int .i64 (fltF D a.q)), (7, [], .pointer (some ⟨b2, 0, none⟩))]) (nd := (fun _ => [])) (by kernel_rfl) (fun _ => by kernel_rfl) trivial ?_
        refine CfgL.done rfl ?_
        refine Cfg.reg rfl [6] [(0, false, some (.agg (bv (readF D a.q)))), (0, false, some (.agg (bv (readF D a.q)))), (0, false, some (.bool ((readF D a.q) == (readF D a.q))))] (Γ' := [(6, [], .bool (((readF D a.q) == (readF D a.q)) && ((fltF D a.q) == (fltF D a.q))))]) (nd := (fun S => [(∀ w1, S w1 → (loadVar 33 ⟨b2, 0, none⟩).run Try.prog w1 = .ok (.agg (bv (readF D a.q))) w1), (∀ w1, S w1 → (loadVar 33 ⟨b3, 0, none⟩).run Try.prog w1 = .ok (.agg (bv (readF D a.q))) w1), (∀ w1, S w1 → (Op.equal 33 (.agg (bv (readF D a.q))) (.agg (bv (readF D a.q)))).run Try.prog w1 = .ok ((readF D a.q) == (readF D a.q)) w1)])) (fun _ => by kernel_rfl) ⟨(fun w1 h => h.oload 1 rfl Try.underlying33 rfl (n := 512) (by kernel_rfl) ((bv_size _).trans (readF_len hg _))), (fun w1 h => h.oload 0 rfl Try.underlying33 rfl (n := 512) (by kernel_rfl) ((bv_size _).trans (readF_len hg _))), (fun _ _ => equal_bv Try.underlying33 Try.underlying5 (by kernel_rfl) (readF_len hg _) (readF_len hg _)), trivial⟩ ?_
        refine Cfg.ret rfl (rs := [.tmp 6]) rfl [.bool (((readF D a.q) == (readF D a.q)) && ((fltF D a.q) == (fltF D a.q)))] ⟨by kernel_rfl, trivial⟩ (fun w1 hp => ?_)
        have H1 : ¬ (a.d.tmod 5 = 1 ∨ a.d.tmod 5 = -1) := by omega
        have H2 : a.d.tmod 5 = 2 ∨ a.d.tmod 5 = -2 := by omega
        have hx : doF a D = D := by unfold doF; rw [if_neg H1, if_pos H2]
        rw [hx]
        have h8 : HP w ((dO D m x ++ rO (toR D) r).map (·.1)) a.Rl ([(b3, Obj.cells (bv (readF D a.q)) 33 (0, 0)), (b2, Obj.cells (bv (readF D a.q)) 33 (0, 0)), (bx, Obj.cells ((ac a).toArray) 30 (0, 0))] ++ (dO D m x ++ (rO (toR D) r ++ []))) w1 := hp
        rw [List.append_nil] at h8
        exact ⟨x, hmo, by simp [resOf], _, h8.sub (List.sublist_append_right _ _)⟩
      · have c4 : ((a.d.tmod 5) ≠ (2 : Int)) := (beq_eq_false_iff_ne.1 c4r)
        refine Cfg.reg rfl [0, 1, 5, 15, 46] [] (Γ' := [(46, [], .bool ((a.d.tmod 5) == ((-2) : Int))), (15, [], .int .i64 (a.d.tmod 5)), (5, [], .pointer (some ⟨bx, 0, none⟩)), (0, [], .pointer (some ⟨m.d, 0, none⟩)), (1, [], .pointer (some ⟨r.r, 0, none⟩))]) (nd := (fun _ => [])) (fun _ => by kernel_rfl) trivial ?_
        refine Cfg.cond rfl (b := ((a.d.tmod 5) == ((-2) : Int))) (by kernel_rfl) (fun c6r => ?_) (fun c6r => ?_)
        · have c6 : ((a.d.tmod 5) = ((-2) : Int)) := (beq_iff_eq.1 c6r)
          refine Cfg.begL rfl ?_
          refine CfgL.pure 3 [(0, false, none), (0, false, none), (0, false, some (.int .i64 a.q))] none (Γ' := [(52, [], .int .i64 a.q), (51, [], .pointer (some ⟨bx, 1, none⟩)), (50, [], .pointer (some ⟨m.d, 0, none⟩)), (46, [], .bool ((a.d.tmod 5) == ((-2) : Int))), (15, [], .int .i64 (a.d.tmod 5)), (5, [], .pointer (some ⟨bx, 0, none⟩)), (0, [], .pointer (some ⟨m.d, 0, none⟩)), (1, [], .pointer (some ⟨r.r, 0, none⟩))]) (nd := (fun S => [(∀ w1, S w1 → w1.cell? ⟨bx, 1, none⟩ = some (.int .i64 a.q))])) (by kernel_rfl) (fun _ => by kernel_rfl) ⟨(fun w1 h => h.ocell 0 rfl rfl), trivial⟩ ?_
          refine CfgL.eff (o := _) rfl (by kernel_rfl) (by kernel_rfl) (Eff.callA (vs := [.pointer (some ⟨m.d, 0, none⟩), .int .i64 a.q]) (.tuple #[.agg (bv (readF D a.q)), .int .i64 (fltF D a.q)]) rfl Try.func13 rfl rfl (by kernel_rfl) (fun w1 h => dRead m x D a.q w1 hg hmo (mem_has h (List.Sublist.trans (List.sublist_append_left (dO D m x) _) (List.sublist_append_right [(bx, Obj.cells ((ac a).toArray) 30 (0, 0))] _))))) ?_
          rintro ⟨⟩ -
          refine CfgL.pure 3 [] none (Γ' := [(55, [], .int .i64 (fltF D a.q)), (54, [], .agg (bv (readF D a.q))), (49, [], .tuple #[.agg (bv (readF D a.q)), .int .i64 (fltF D a.q)]), (53, [], .tuple #[.agg (bv (readF D a.q)), .int .i64 (fltF D a.q)]), (52, [], .int .i64 a.q), (51, [], .pointer (some ⟨bx, 1, none⟩)), (50, [], .pointer (some ⟨m.d, 0, none⟩)), (46, [], .bool ((a.d.tmod 5) == ((-2) : Int))), (15, [], .int .i64 (a.d.tmod 5)), (5, [], .pointer (some ⟨bx, 0, none⟩)), (0, [], .pointer (some ⟨m.d, 0, none⟩)), (1, [], .pointer (some ⟨r.r, 0, none⟩))]) (nd := (fun _ => [])) (by kernel_rfl) (fun _ => by kernel_rfl) trivial ?_
          refine CfgL.eff (o := _) rfl (by kernel_rfl) (by kernel_rfl) (Eff.alloc (z := (.agg (bv (List.replicate 512 0)))) rfl (by kernel_rfl)) ?_
          rintro b4 ⟨hb4, nb4⟩
          refine CfgL.eff (o := _) rfl (by kernel_rfl) (by kernel_rfl) (Eff.storeN (b := b4) (off := 0) (vs := (bv (readF D a.q))) (n := 512) rfl (by kernel_rfl) (by kernel_rfl) (by kernel_rfl) ((bv_size _).trans (readF_len hg _)) (all_bv _) 0 (cs := (bv (List.replicate 512 0))) (e := 33) (by kernel_rfl) (by rw [zsz512]; omega)) ?_
          rintro ⟨⟩ -
          refine CfgL.setO (O' := ([(b4, .cells (bv (readF D a.q)) 33 (0, 0)), (bx, .cells ((ac a).toArray) 30 (0, 0))] ++ (dO D m x ++ (rO (toR D) r ++ [])))) (congrArg (fun (xq : Array Value) => (([(b4, .cells xq 33 (0, 0)), (bx, .cells ((ac a).toArray) 30 (0, 0))] ++ (dO D m x ++ (rO (toR D) r ++ []))) : List (Nat × Obj))) (spl_all (((bv_size _).trans (readF_len hg _)).trans zsz512.symm))) ?_
          refine CfgL.pure 1 [] (some [1, 5, 7, 8]) (Γ' := [(8, [], .int .i64 (fltF D a.q)), (7, [], .pointer (some ⟨b4, 0, none⟩)), (5, [], .pointer (some ⟨bx, 0, none⟩)), (1, [], .pointer (some ⟨r.r, 0, none⟩))]) (nd := (fun _ => [])) (by kernel_rfl) (fun _ => by kernel_rfl) trivial ?_
          refine CfgL.done rfl ?_
          refine Cfg.begL rfl ?_
          refine CfgL.pure 3 [(0, false, none), (0, false, none), (0, false, some (.int .i64 a.q))] none (Γ' := [(59, [], .int .i64 a.q), (58, [], .pointer (some ⟨bx, 1, none⟩)), (57, [], .pointer (some ⟨r.r, 0, none⟩)), (8, [], .int .i64 (fltF D a.q)), (7, [], .pointer (some ⟨b4, 0, none⟩)), (5, [], .pointer (some ⟨bx, 0, none⟩)), (1, [], .pointer (some ⟨r.r, 0, none⟩))]) (nd := (fun S => [(∀ w1, S w1 → w1.cell? ⟨bx, 1, none⟩ = some (.int .i64 a.q))])) (by kernel_rfl) (fun _ => by kernel_rfl) ⟨(fun w1 h => h.ocell 1 rfl rfl), trivial⟩ ?_
          refine CfgL.eff (o := _) rfl (by kernel_rfl) (by kernel_rfl) (Eff.callA (vs := [.pointer (some ⟨r.r, 0, none⟩), .int .i64 a.q]) (.tuple #[.agg (bv (readF D a.q)), .int .i64 (fltF D a.q)]) rfl Try.func31 rfl rfl (by kernel_rfl) (fun w1 h => (by have h9 := rRead r (toR D) a.q w1 (toR_ok hg) (mem_has h (List.Sublist.trans (List.Sublist.trans (List.sublist_append_left (rO (toR D) r) _) (List.sublist_append_right (dO D m x) _)) (List.sublist_append_right [(b4, Obj.cells (bv (readF D a.q)) 33 (0, 0)), (bx, Obj.cells ((ac a).toArray) 30 (0, 0))] _))); rw [toR_readE, toR_readB] at h9; exact h9))) ?_
          rintro ⟨⟩ -
          refine CfgL.pure 3 [] none (Γ' := [(62, [], .int .i64 (fltF D a.q)), (61, [], .agg (bv (readF D a.q))), (56, [], .tuple #[.agg (bv (readF D a.q)), .int .i64 (fltF D a.q)]), (60, [], .tuple #[.agg (bv (readF D a.q)), .int .i64 (fltF D a.q)]), (59, [], .int .i64 a.q), (58, [], .pointer (some ⟨bx, 1, none⟩)), (57, [], .pointer (some ⟨r.r, 0, none⟩)), (8, [], .int .i64 (fltF D a.q)), (7, [], .pointer (some ⟨b4, 0, none⟩)), (5, [], .pointer (some ⟨bx, 0, none⟩)), (1, [], .pointer (some ⟨r.r, 0, none⟩))]) (nd := (fun _ => [])) (by kernel_rfl) (fun _ => by kernel_rfl) trivial ?_
          refine CfgL.eff (o := _) rfl (by kernel_rfl) (by kernel_rfl) (Eff.alloc (z := (.agg (bv (List.replicate 512 0)))) rfl (by kernel_rfl)) ?_
          rintro b5 ⟨hb5, nb5⟩
          refine CfgL.eff (o := _) rfl (by kernel_rfl) (by kernel_rfl) (Eff.storeN (b := b5) (off := 0) (vs := (bv (readF D a.q))) (n := 512) rfl (by kernel_rfl) (by kernel_rfl) (by kernel_rfl) ((bv_size _).trans (readF_len hg _)) (all_bv _) 0 (cs := (bv (List.replicate 512 0))) (e := 33) (by kernel_rfl) (by rw [zsz512]; omega)) ?_
          rintro ⟨⟩ -
          refine CfgL.setO (O' := ([(b5, .cells (bv (readF D a.q)) 33 (0, 0)), (b4, .cells (bv (readF D a.q)) 33 (0, 0)), (bx, .cells ((ac a).toArray) 30 (0, 0))] ++ (dO D m x ++ (rO (toR D) r ++ [])))) (congrArg (fun (xq : Array Value) => (([(b5, .cells xq 33 (0, 0)), (b4, .cells (bv (readF D a.q)) 33 (0, 0)), (bx, .cells ((ac a).toArray) 30 (0, 0))] ++ (dO D m x ++ (rO (toR D) r ++ []))) : List (Nat × Obj))) (spl_all (((bv_size _).trans (readF_len hg _)).trans zsz512.symm))) ?_
          refine CfgL.pure 1 [] (some [7, 8, 9, 10]) (Γ' := [(10, [], .int .i64 (fltF D a.q)), (9, [], .pointer (some ⟨b5, 0, none⟩)), (8, [], .int .i64 (fltF D a.q)), (7, [], .pointer (some ⟨b4, 0, none⟩))]) (nd := (fun _ => [])) (by kernel_rfl) (fun _ => by kernel_rfl) trivial ?_
          refine CfgL.done rfl ?_
          refine Cfg.reg rfl [6] [(0, false, some (.agg (bv (readF D a.q)))), (0, false, some (.agg (bv (readF D a.q)))), (0, false, some (.bool ((readF D a.q) == (readF D a.q))))] (Γ' := [(6, [], .bool (((readF D a.q) == (readF D a.q)) && ((fltF D a.q) == (fltF D a.q))))]) (nd := (fun S => [(∀ w1, S w1 → (loadVar 33 ⟨b4, 0, none⟩).run Try.prog w1 = .ok (.agg (bv (readF D a.q))) w1), (∀ w1, S w1 → (loadVar 33 ⟨b5, 0, none⟩).run Try.prog w1 = .ok (.agg (bv (readF D a.q))) w1), (∀ w1, S w1 → (Op.equal 33 (.agg (bv (readF D a.q))) (.agg (bv (readF D a.q)))).run Try.prog w1 = .ok ((readF D a.q) == (readF D a.q)) w1)])) (fun _ => by kernel_rfl) ⟨(fun w1 h => h.oload 1 rfl Try.underlying33 rfl (n := 512) (by kernel_rfl) ((bv_size _).trans (readF_len hg _))), (fun w1 h => h.oload 0 rfl Try.underlying33 rfl (n := 512) (by kernel_rfl) ((bv_size _).trans (readF_len hg _))), (fun _ _ => equal_bv Try.underlying33 Try.underlying5 (by kernel_rfl) (readF_len hg _) (readF_len hg _)), trivial⟩ ?_
          refine Cfg.ret rfl (rs := [.tmp 6]) rfl [.bool (((readF D a.q) == (readF D a.q)) && ((fltF D a.q) == (fltF D a.q)))] ⟨by kernel_rfl, trivial⟩ (fun w1 hp => ?_)
          have H1 : ¬ (a.d.tmod 5 = 1 ∨ a.d.tmod 5 = -1) := by omega
          have H2 : a.d.tmod 5 = 2 ∨ a.d.tmod 5 = -2 := by omega
          have hx : doF a D = D := by unfold doF; rw [if_neg H1, if_pos H2]
          rw [hx]
          have h8 : HP w ((dO D m x ++ rO (toR D) r).map (·.1)) a.Rl ([(b5, Obj.cells (bv (readF D a.q)) 33 (0, 0)), (b4, Obj.cells (bv (readF D a.q)) 33 (0, 0)), (bx, Obj.cells ((ac a).toArray) 30 (0, 0))] ++ (dO D m x ++ (rO (toR D) r ++ []))) w1 := hp
          rw [List.append_nil] at h8
          exact ⟨x, hmo, by simp [resOf], _, h8.sub (List.sublist_append_right _ _)⟩
        · have c6 : ((a.d.tmod 5) ≠ ((-2) : Int)) := (beq_eq_false_iff_ne.1 c6r)
          refine Cfg.reg rfl [0, 1, 5, 15, 71] [] (Γ' := [(71, [], .bool ((a.d.tmod 5) == (3 : Int))), (15, [], .int .i64 (a.d.tmod 5)), (5, [], .pointer (some ⟨bx, 0, none⟩)), (0, [], .pointer (some ⟨m.d, 0, none⟩)), (1, [], .pointer (some ⟨r.r, 0, none⟩))]) (nd := (fun _ => [])) (fun _ => by kernel_rfl) trivial ?_
          refine Cfg.cond rfl (b := ((a.d.tmod 5) == (3 : Int))) (by kernel_rfl) (fun c7r => ?_) (fun c7r => ?_)
          · have c7 : ((a.d.tmod 5) = (3 : Int)) := (beq_iff_eq.1 c7r)
            refine Cfg.condT rfl (b := ((a.d.tmod 5) == (3 : Int))) (by kernel_rfl) c7r ?_
            refine Cfg.begL rfl ?_
            refine CfgL.pure 3 [(0, false, none), (0, false, none), (0, false, some (.int .i64 a.q))] none (Γ' := [(76, [], .int .i64 a.q), (75, [], .pointer (some ⟨bx, 1, none⟩)), (74, [], .pointer (some ⟨m.d, 0, none⟩)), (71, [], .bool ((a.d.tmod 5) == (3 : Int))), (15, [], .int .i64 (a.d.tmod 5)), (5, [], .pointer (some ⟨bx, 0, none⟩)), (0, [], .pointer (some ⟨m.d, 0, none⟩)), (1, [], .pointer (some ⟨r.r, 0, none⟩))]) (nd := (fun S => [(∀ w1, S w1 → w1.cell? ⟨bx, 1, none⟩ = some (.int .i64 a.q))])) (by kernel_rfl) (fun _ => by kernel_rfl) ⟨(fun w1 h => h.ocell 0 rfl rfl), trivial⟩ ?_
            refine CfgL.eff (o := _) rfl (by kernel_rfl) (by kernel_rfl) (Eff.callH (vs := [.pointer (some ⟨m.d, 0, none⟩), .int .i64 a.q]) (fun _ : MX => .tuple #[]) (dO D m x) (fun y => dO ({ D with fuse := if -1 > a.q then -1 else a.q }) m y) (fun y => MapOk y.1 y.2 (wv2 ({ D with fuse := if -1 > a.q then -1 else a.q }).wait)) [(bx, .cells ((ac a).toArray) 30 (0, 0))] ([] ++ (rO (toR D) r ++ [])) rfl rfl Try.func14 rfl rfl (by kernel_rfl) (fun w1 h hA hd => (dFuseH m x D a.q w1 hA hd).mono fun e w2 hx => ⟨x, hmo, hx⟩)) ?_
            rintro x3 hmo_x3
            refine CfgL.done rfl ?_
            refine Conv.cfg (Γ' := [(5, [], .pointer (some ⟨bx, 0, none⟩)), (1, [], .pointer (some ⟨r.r, 0, none⟩))]) (Conv.mk (by kernel_rfl)) ?_
            refine Cfg.setO (O' := [(bx, Obj.cells ((ac a).toArray) 30 (0, 0))] ++ (dO ({ D with fuse := if -1 > a.q then -1 else a.q }) m x3 ++ (rO (toR D) r ++ []))) rfl ?_
            refine Cfg.permO (O' := ([(bx, .cells ((ac a).toArray) 30 (0, 0)), (r.r, .cells #[.slice (some ⟨r.sb, 0, none⟩) (toR D).shown.length (toR D).shown.length, .slice (some ⟨r.lb, 0, none⟩) (toR D).last.length (toR D).last.length, .slice (some ⟨r.wb, 0, none⟩) (toR D).waits.length (toR D).waits.length, .int .i64 ((toR D).done), .int .i64 ((toR D).fuse), .bool (toR D).down] 51 (0, 0)), (r.sb, .cells ((rows (toR D).shown).toArray) 33 (0, 0)), (r.lb, .cells ((rows (toR D).last).toArray) 33 (0, 0)), (r.wb, .cells ((rb (toR D).waits).toArray) 4 (0, 0))] ++ (dO ({ D with fuse := if -1 > a.q then -1 else a.q }) m x3 ++ []))) (perm_mid [(bx, Obj.cells ((ac a).toArray) 30 (0, 0))] (dO ({ D with fuse := if -1 > a.q then -1 else a.q }) m x3) (rO (toR D) r)) ?_
            refine Cfg.begL rfl ?_
            refine CfgL.pure 3 [(0, false, none), (0, false, none), (0, false, some (.int .i64 a.q))] none (Γ' := [(80, [], .int .i64 a.q), (79, [], .pointer (some ⟨bx, 1, none⟩)), (78, [], .pointer (some ⟨r.r, 0, none⟩)), (5, [], .pointer (some ⟨bx, 0, none⟩)), (1, [], .pointer (some ⟨r.r, 0, none⟩))]) (nd := (fun S => [(∀ w1, S w1 → w1.cell? ⟨bx, 1, none⟩ = some (.int .i64 a.q))])) (by kernel_rfl) (fun _ => by kernel_rfl) ⟨(fun w1 h => h.ocell 0 rfl rfl), trivial⟩ ?_
            refine CfgL.eff (o := _) rfl (by kernel_rfl) (by kernel_rfl) (Eff.maxI (k := .i64) (a := a.q) (b := -1) rfl (by kernel_rfl) (by kernel_rfl)) ?_
            rintro ⟨⟩ -
            refine CfgL.pure 2 [] none (Γ' := [(83, [], .pointer (some ⟨r.r, 4, none⟩)), (82, [], .pointer (some ⟨r.r, 0, none⟩)), (81, [], .int .i64 (if -1 > a.q then -1 else a.q)), (80, [], .int .i64 a.q), (79, [], .pointer (some ⟨bx, 1, none⟩)), (78, [], .pointer (some ⟨r.r, 0, none⟩)), (5, [], .pointer (some ⟨bx, 0, none⟩)), (1, [], .pointer (some ⟨r.r, 0, none⟩))]) (nd := (fun _ => [])) (by kernel_rfl) (fun _ => by kernel_rfl) trivial ?_
            refine CfgL.eff (o := _) rfl (by kernel_rfl) (by kernel_rfl) (Eff.store1 (b := r.r) (off := 4) (v := .int .i64 (if -1 > a.q then -1 else a.q)) rfl (by kernel_rfl) (by kernel_rfl) rfl (by kernel_rfl) 1 (cs := #[.slice (some ⟨r.sb, 0, none⟩) (toR D).shown.length (toR D).shown.length, .slice (some ⟨r.lb, 0, none⟩) (toR D).last.length (toR D).last.length, .slice (some ⟨r.wb, 0, none⟩) (toR D).waits.length (toR D).waits.length, .int .i64 ((toR D).done), .int .i64 ((toR D).fuse), .bool (toR D).down]) (e := 51) (by kernel_rfl) (by simp)) ?_
            rintro ⟨⟩ -
            refine CfgL.done rfl ?_
            refine Conv.cfg (Γ' := []) (Conv.mk (by kernel_rfl)) ?_
            refine Cfg.reg rfl [6] [] (Γ' := [(6, [], .bool true)]) (nd := (fun _ => [])) (fun _ => by kernel_rfl) trivial ?_
            refine Cfg.ret rfl (rs := [.tmp 6]) rfl [.bool true] ⟨by kernel_rfl, trivial⟩ (fun w1 hp => ?_)
            have H1 : ¬ (a.d.tmod 5 = 1 ∨ a.d.tmod 5 = -1) := by omega
            have H2 : ¬ (a.d.tmod 5 = 2 ∨ a.d.tmod 5 = -2) := by omega
            have H3 : a.d.tmod 5 = 3 ∨ a.d.tmod 5 = -3 := by omega
            have hx : doF a D = { D with fuse := if -1 > a.q then -1 else a.q } := by unfold doF; rw [if_neg H1, if_neg H2, if_pos H3]
            rw [hx]
            have h8 : HP w ((dO D m x ++ rO (toR D) r).map (·.1)) a.Rl ([(bx, Obj.cells ((ac a).toArray) 30 (0, 0))] ++ (dO ({ D with fuse := if -1 > a.q then -1 else a.q }) m x3 ++ (rO (toR ({ D with fuse := if -1 > a.q then -1 else a.q })) r ++ []))) w1 := hp.perm (perm_mid [(bx, Obj.cells ((ac a).toArray) 30 (0, 0))] (dO ({ D with fuse := if -1 > a.q then -1 else a.q }) m x3) (rO (toR ({ D with fuse := if -1 > a.q then -1 else a.q })) r)).symm
            rw [List.append_nil] at h8
            exact ⟨x3, hmo_x3, by simp [resOf], _, h8.sub (List.sublist_append_right _ _)⟩
          · have c7 : ((a.d.tmod 5) ≠ (3 : Int)) := (beq_eq_false_iff_ne.1 c7r)
            refine Cfg.reg rfl [0, 1, 5, 15, 71] [] (Γ' := [(71, [], .bool ((a.d.tmod 5) == ((-3) : Int))), (15, [], .int .i64 (a.d.tmod 5)), (5, [], .pointer (some ⟨bx, 0, none⟩)), (0, [], .pointer (some ⟨m.d, 0, none⟩)), (1, [], .pointer (some ⟨r.r, 0, none⟩))]) (nd := (fun _ => [])) (fun _ => by kernel_rfl) trivial ?_
            refine Cfg.cond rfl (b := ((a.d.tmod 5) == ((-3) : Int))) (by kernel_rfl) (fun c9r => ?_) (fun c9r => ?_)
            · have c9 : ((a.d.tmod 5) = ((-3) : Int)) := (beq_iff_eq.1 c9r)
              refine Cfg.begL rfl ?_
              refine CfgL.pure 3 [(0, false, none), (0, false, none), (0, false, some (.int .i64 a.q))] none (Γ' := [(76, [], .int .i64 a.q), (75, [], .pointer (some ⟨bx, 1, none⟩)), (74, [], .pointer (some ⟨m.d, 0, none⟩)), (71, [], .bool ((a.d.tmod 5) == ((-3) : Int))), (15, [], .int .i64 (a.d.tmod 5)), (5, [], .pointer (some ⟨bx, 0, none⟩)), (0, [], .pointer (some ⟨m.d, 0, none⟩)), (1, [], .pointer (some ⟨r.r, 0, none⟩))]) (nd := (fun S => [(∀ w1, S w1 → w1.cell? ⟨bx, 1, none⟩ = some (.int .i64 a.q))])) (by kernel_rfl) (fun _ => by kernel_rfl) ⟨(fun w1 h => h.ocell 0 rfl rfl), trivial⟩ ?_
              refine CfgL.eff (o := _) rfl (by kernel_rfl) (by kernel_rfl) (Eff.callH (vs := [.pointer (some ⟨m.d, 0, none⟩), .int .i64 a.q]) (fun _ : MX => .tuple #[]) (dO D m x) (fun y => dO ({ D with fuse := if -1 > a.q then -1 else a.q }) m y) (fun y => MapOk y.1 y.2 (wv2 ({ D with fuse := if -1 > a.q then -1 else a.q }).wait)) [(bx, .cells ((ac a).toArray) 30 (0, 0))] ([] ++ (rO (toR D) r ++ [])) rfl rfl Try.func14 rfl rfl (by kernel_rfl) (fun w1 h hA hd => (dFuseH m x D a.q w1 hA hd).mono fun e w2 hx => ⟨x, hmo, hx⟩)) ?_
              rintro x4 hmo_x4
              refine CfgL.done rfl ?_
              refine Conv.cfg (Γ' := [(5, [], .pointer (some ⟨bx, 0, none⟩)), (1, [], .pointer (some ⟨r.r, 0, none⟩))]) (Conv.mk (by kernel_rfl)) ?_
              refine Cfg.setO (O' := [(bx, Obj.cells ((ac a).toArray) 30 (0, 0))] ++ (dO ({ D with fuse := if -1 > a.q then -1 else a.q }) m x4 ++ (rO (toR D) r ++ []))) rfl ?_
              refine Cfg.permO (O' := ([(bx, .cells ((ac a).toArray) 30 (0, 0)), (r.r, .cells #[.slice (some ⟨r.sb, 0, none⟩) (toR D).shown.length (toR D).shown.length, .slice (some ⟨r.lb, 0, none⟩) (toR D).last.length (toR D).last.length, .slice (some ⟨r.wb, 0, none⟩) (toR D).waits.length (toR D).waits.length, .int .i64 ((toR D).done), .int .i64 ((toR D).fuse), .bool (toR D).down] 51 (0, 0)), (r.sb, .cells ((rows (toR D).shown).toArray) 33 (0, 0)), (r.lb, .cells ((rows (toR D).last).toArray) 33 (0, 0)), (r.wb, .cells ((rb (toR D).waits).toArray) 4 (0, 0))] ++ (dO ({ D with fuse := if -1 > a.q then -1 else a.q }) m x4 ++ []))) (perm_mid [(bx, Obj.cells ((ac a).toArray) 30 (0, 0))] (dO ({ D with fuse := if -1 > a.q then -1 else a.q }) m x4) (rO (toR D) r)) ?_
              refine Cfg.begL rfl ?_
              refine CfgL.pure 3 [(0, false, none), (0, false, none), (0, false, some (.int .i64 a.q))] none (Γ' := [(80, [], .int .i64 a.q), (79, [], .pointer (some ⟨bx, 1, none⟩)), (78, [], .pointer (some ⟨r.r, 0, none⟩)), (5, [], .pointer (some ⟨bx, 0, none⟩)), (1, [], .pointer (some ⟨r.r, 0, none⟩))]) (nd := (fun S => [(∀ w1, S w1 → w1.cell? ⟨bx, 1, none⟩ = some (.int .i64 a.q))])) (by kernel_rfl) (fun _ => by kernel_rfl) ⟨(fun w1 h => h.ocell 0 rfl rfl), trivial⟩ ?_
              refine CfgL.eff (o := _) rfl (by kernel_rfl) (by kernel_rfl) (Eff.maxI (k := .i64) (a := a.q) (b := -1) rfl (by kernel_rfl) (by kernel_rfl)) ?_
              rintro ⟨⟩ -
              refine CfgL.pure 2 [] none (Γ' := [(83, [], .pointer (some ⟨r.r, 4, none⟩)), (82, [], .pointer (some ⟨r.r, 0, none⟩)), (81, [], .int .i64 (if -1 > a.q then -1 else a.q)), (80, [], .int .i64 a.q), (79, [], .pointer (some ⟨bx, 1, none⟩)), (78, [], .pointer (some ⟨r.r, 0, none⟩)), (5, [], .pointer (some ⟨bx, 0, none⟩)), (1, [], .pointer (some ⟨r.r, 0, none⟩))]) (nd := (fun _ => [])) (by kernel_rfl) (fun _ => by kernel_rfl) trivial ?_
              refine CfgL.eff (o := _) rfl (by kernel_rfl) (by kernel_rfl) (Eff.store1 (b := r.r) (off := 4) (v := .int .i64 (if -1 > a.q then -1 else a.q)) rfl (by kernel_rfl) (by kernel_rfl) rfl (by kernel_rfl) 1 (cs := #[.slice (some ⟨r.sb, 0, none⟩) (toR D).shown.length (toR D).shown.length, .slice (some ⟨r.lb, 0, none⟩) (toR D).last.length (toR D).last.length, .slice (some ⟨r.wb, 0, none⟩) (toR D).waits.length (toR D).waits.length, .int .i64 ((toR D).done), .int .i64 ((toR D).fuse), .bool (toR D).down]) (e := 51) (by kernel_rfl) (by simp)) ?_
              rintro ⟨⟩ -
              refine CfgL.done rfl ?_
              refine Conv.cfg (Γ' := []) (Conv.mk (by kernel_rfl)) ?_
              refine Cfg.reg rfl [6] [] (Γ' := [(6, [], .bool true)]) (nd := (fun _ => [])) (fun _ => by kernel_rfl) trivial ?_
              refine Cfg.ret rfl (rs := [.tmp 6]) rfl [.bool true] ⟨by kernel_rfl, trivial⟩ (fun w1 hp => ?_)
              have H1 : ¬ (a.d.tmod 5 = 1 ∨ a.d.tmod 5 = -1) := by omega
              have H2 : ¬ (a.d.tmod 5 = 2 ∨ a.d.tmod 5 = -2) := by omega
              have H3 : a.d.tmod 5 = 3 ∨ a.d.tmod 5 = -3 := by omega
              have hx : doF a D = { D with fuse := if -1 > a.q then -1 else a.q } := by unfold doF; rw [if_neg H1, if_neg H2, if_pos H3]
              rw [hx]
              have h8 : HP w ((dO D m x ++ rO (toR D) r).map (·.1)) a.Rl ([(bx, Obj.cells ((ac a).toArray) 30 (0, 0))] ++ (dO ({ D with fuse := if -1 > a.q then -1 else a.q }) m x4 ++ (rO (toR ({ D with fuse := if -1 > a.q then -1 else a.q })) r ++ []))) w1 := hp.perm (perm_mid [(bx, Obj.cells ((ac a).toArray) 30 (0, 0))] (dO ({ D with fuse := if -1 > a.q then -1 else a.q }) m x4) (rO (toR ({ D with fuse := if -1 > a.q then -1 else a.q })) r)).symm
              rw [List.append_nil] at h8
              exact ⟨x4, hmo_x4, by simp [resOf], _, h8.sub (List.sublist_append_right _ _)⟩
            · have c9 : ((a.d.tmod 5) ≠ ((-3) : Int)) := (beq_eq_false_iff_ne.1 c9r)
              refine Cfg.reg rfl [0, 1, 5, 15, 84] [] (Γ' := [(84, [], .bool ((a.d.tmod 5) == (4 : Int))), (15, [], .int .i64 (a.d.tmod 5)), (5, [], .pointer (some ⟨bx, 0, none⟩)), (0, [], .pointer (some ⟨m.d, 0, none⟩)), (1, [], .pointer (some ⟨r.r, 0, none⟩))]) (nd := (fun _ => [])) (fun _ => by kernel_rfl) trivial ?_
              refine Cfg.cond rfl (b := ((a.d.tmod 5) == (4 : Int))) (by kernel_rfl) (fun c10r => ?_) (fun c10r => ?_)
              · have c10 : ((a.d.tmod 5) = (4 : Int)) := (beq_iff_eq.1 c10r)
                refine Cfg.condT rfl (b := ((a.d.tmod 5) == (4 : Int))) (by kernel_rfl) c10r ?_
                refine Cfg.begL rfl ?_
                refine CfgL.pure 3 [(0, false, none), (0, false, none), (0, false, some (.slice a.la a.kept.length a.cap))] none (Γ' := [(89, [], .slice a.la a.kept.length a.cap), (88, [], .pointer (some ⟨bx, 3, none⟩)), (87, [], .pointer (some ⟨m.d, 0, none⟩)), (84, [], .bool ((a.d.tmod 5) == (4 : Int))), (15, [], .int .i64 (a.d.tmod 5)), (5, [], .pointer (some ⟨bx, 0, none⟩)), (0, [], .pointer (some ⟨m.d, 0, none⟩)), (1, [], .pointer (some ⟨r.r, 0, none⟩))]) (nd := (fun S => [(∀ w1, S w1 → w1.cell? ⟨bx, 3, none⟩ = some (.slice a.la a.kept.length a.cap))])) (by kernel_rfl) (fun _ => by kernel_rfl) ⟨(fun w1 h => h.ocell 0 rfl rfl), trivial⟩ ?_
                refine CfgL.eff (o := _) rfl (by kernel_rfl) (by kernel_rfl) (Eff.callH (vs := [.pointer (some ⟨m.d, 0, none⟩), .slice a.la a.kept.length a.cap]) (fun _ : MX => .tuple #[]) (dO D m x) (fun y => dO (crashF a.kept D) m y) (fun y => MapOk y.1 y.2 (wv2 (crashF a.kept D).wait)) [(bx, .cells ((ac a).toArray) 30 (0, 0))] ([] ++ (rO (toR D) r ++ [])) rfl rfl Try.func12 rfl rfl (by kernel_rfl) (fun w1 h hA hd => dCrash m x D a.la a.cap a.kept a.Rl w1 hg hmo hA hd hI hl (h.hasR (fun e he => he)) (apart (Fl := [(bx, Obj.cells ((ac a).toArray) 30 (0, 0))]) (A := dO D m x) (T := ([] ++ (rO (toR D) r ++ []))) h (fun e he => he)))) ?_
                rintro x5 hmo_x5
                refine CfgL.done rfl ?_
                refine Conv.cfg (Γ' := [(5, [], .pointer (some ⟨bx, 0, none⟩)), (1, [], .pointer (some ⟨r.r, 0, none⟩))]) (Conv.mk (by kernel_rfl)) ?_
                refine Cfg.begL rfl ?_
                refine CfgL.pure 3 [(0, false, none), (0, false, none), (0, false, some (.slice a.la a.kept.length a.cap))] none (Γ' := [(93, [], .slice a.la a.kept.length a.cap), (92, [], .pointer (some ⟨bx, 3, none⟩)), (91, [], .pointer (some ⟨r.r, 0, none⟩)), (5, [], .pointer (some ⟨bx, 0, none⟩)), (1, [], .pointer (some ⟨r.r, 0, none⟩))]) (nd := (fun S => [(∀ w1, S w1 → w1.cell? ⟨bx, 3, none⟩ = some (.slice a.la a.kept.length a.cap))])) (by kernel_rfl) (fun _ => by kernel_rfl) ⟨(fun w1 h => h.ocell 0 rfl rfl), trivial⟩ ?_
                refine CfgL.eff (o := _) rfl (by kernel_rfl) (by kernel_rfl) (Eff.callH (vs := [.pointer (some ⟨r.r, 0, none⟩), .slice a.la a.kept.length a.cap]) (fun _ : Unit => .tuple #[]) (rO (toR D) r) (fun _ => rO (toR (crashF a.kept D)) r) (fun _ => True) ([(bx, .cells ((ac a).toArray) 30 (0, 0))] ++ (dO (crashF a.kept D) m x5)) [] rfl rfl Try.func32 rfl rfl (by kernel_rfl) (fun w1 h hA hd => (by have h9 := rCrash r (toR D) a.la a.cap a.kept a.Rl w1 (toR_ok hg) hA hd hI hl (h.hasR (fun e he => he)) (apart (Fl := ([(bx, Obj.cells ((ac a).toArray) 30 (0, 0))] ++ (dO (crashF a.kept D) m x5))) (A := rO (toR D) r) (T := []) h (fun e he => he)); rw [toR_crash hg] at h9; exact h9.mono fun e w2 hx => ⟨(), trivial, hx⟩))) ?_
                rintro ⟨⟩ -
                refine CfgL.done rfl ?_
                refine Conv.cfg (Γ' := []) (Conv.mk (by kernel_rfl)) ?_
                refine Cfg.reg rfl [6] [] (Γ' := [(6, [], .bool true)]) (nd := (fun _ => [])) (fun _ => by kernel_rfl) trivial ?_
                refine Cfg.ret rfl (rs := [.tmp 6]) rfl [.bool true] ⟨by kernel_rfl, trivial⟩ (fun w1 hp => ?_)
                have H1 : ¬ (a.d.tmod 5 = 1 ∨ a.d.tmod 5 = -1) := by omega
                have H2 : ¬ (a.d.tmod 5 = 2 ∨ a.d.tmod 5 = -2) := by omega
                have H3 : ¬ (a.d.tmod 5 = 3 ∨ a.d.tmod 5 = -3) := by omega
                have H4 : a.d.tmod 5 = 4 ∨ a.d.tmod 5 = -4 := by omega
                have hx : doF a D = (crashF a.kept D) := by unfold doF; rw [if_neg H1, if_neg H2, if_neg H3, if_pos H4]
                rw [hx]
                have h8 : HP w ((dO D m x ++ rO (toR D) r).map (·.1)) a.Rl ([(bx, Obj.cells ((ac a).toArray) 30 (0, 0))] ++ (dO (crashF a.kept D) m x5 ++ (rO (toR (crashF a.kept D)) r ++ []))) w1 := hp
                rw [List.append_nil] at h8
                exact ⟨x5, hmo_x5, by simp [resOf], _, h8.sub (List.sublist_append_right _ _)⟩
              · have c10 : ((a.d.tmod 5) ≠ (4 : Int)) := (beq_eq_false_iff_ne.1 c10r)
                refine Cfg.reg rfl [0, 1, 5, 84] [] (Γ' := [(84, [], .bool ((a.d.tmod 5) == ((-4) : Int))), (5, [], .pointer (some ⟨bx, 0, none⟩)), (0, [], .pointer (some ⟨m.d, 0, none⟩)), (1, [], .pointer (some ⟨r.r, 0, none⟩))]) (nd := (fun _ => [])) (fun _ => by kernel_rfl) trivial ?_
                refine Cfg.cond rfl (b := ((a.d.tmod 5) == ((-4) : Int))) (by kernel_rfl) (fun c12r => ?_) (fun c12r => ?_)
                · have c12 : ((a.d.tmod 5) = ((-4) : Int)) := (beq_iff_eq.1 c12r)
                  refine Cfg.begL rfl ?_
                  refine CfgL.pure 3 [(0, false, none), (0, false, none), (0, false, some (.slice a.la a.kept.length a.cap))] none (Γ' := [(89, [], .slice a.la a.kept.length a.cap), (88, [], .pointer (some ⟨bx, 3, none⟩)), (87, [], .pointer (some ⟨m.d, 0, none⟩)), (84, [], .bool ((a.d.tmod 5) == ((-4) : Int))), (5, [], .pointer (some ⟨bx, 0, none⟩)), (0, [], .pointer (some ⟨m.d, 0, none⟩)), (1, [], .pointer (some ⟨r.r, 0, none⟩))]) (nd := (fun S => [(∀ w1, S w1 → w1.cell? ⟨bx, 3, none⟩ = some (.slice a.la a.kept.length a.cap))])) (by kernel_rfl) (fun _ => by kernel_rfl) ⟨(fun w1 h => h.ocell 0 rfl rfl), trivial⟩ ?_
                  refine CfgL.eff (o := _) rfl (by kernel_rfl) (by kernel_rfl) (Eff.callH (vs := [.pointer (some ⟨m.d, 0, none⟩), .slice a.la a.kept.length a.cap]) (fun _ : MX => .tuple #[]) (dO D m x) (fun y => dO (crashF a.kept D) m y) (fun y => MapOk y.1 y.2 (wv2 (crashF a.kept D).wait)) [(bx, .cells ((ac a).toArray) 30 (0, 0))] ([] ++ (rO (toR D) r ++ [])) rfl rfl Try.func12 rfl rfl (by kernel_rfl) (fun w1 h hA hd => dCrash m x D a.la a.cap a.kept a.Rl w1 hg hmo hA hd hI hl (h.hasR (fun e he => he)) (apart (Fl := [(bx, Obj.cells ((ac a).toArray) 30 (0, 0))]) (A := dO D m x) (T := ([] ++ (rO (toR D) r ++ []))) h (fun e he => he)))) ?_
                  rintro x6 hmo_x6
                  refine CfgL.done rfl ?_
                  refine Conv.cfg (Γ' := [(5, [], .pointer (some ⟨bx, 0, none⟩)), (1, [], .pointer (some ⟨r.r, 0, none⟩))]) (Conv.mk (by kernel_rfl)) ?_
                  refine Cfg.begL rfl ?_
                  refine CfgL.pure 3 [(0, false, none), (0, false, none), (0, false, some (.slice a.la a.kept.length a.cap))] none (Γ' := [(93, [], .slice a.la a.kept.length a.cap), (92, [], .pointer (some ⟨bx, 3, none⟩)), (91, [], .pointer (some ⟨r.r, 0, none⟩)), (5, [], .pointer (some ⟨bx, 0, none⟩)), (1, [], .pointer (some ⟨r.r, 0, none⟩))]) (nd := (fun S => [(∀ w1, S w1 → w1.cell? ⟨bx, 3, none⟩ = some (.slice a.la a.kept.length a.cap))])) (by kernel_rfl) (fun _ => by kernel_rfl) ⟨(fun w1 h => h.ocell 0 rfl rfl), trivial⟩ ?_
                  refine CfgL.eff (o := _) rfl (by kernel_rfl) (by kernel_rfl) (Eff.callH (vs := [.pointer (some ⟨r.r, 0, none⟩), .slice a.la a.kept.length a.cap]) (fun _ : Unit => .tuple #[]) (rO (toR D) r) (fun _ => rO (toR (crashF a.kept D)) r) (fun _ => True) ([(bx, .cells ((ac a).toArray) 30 (0, 0))] ++ (dO (crashF a.kept D) m x6)) [] rfl rfl Try.func32 rfl rfl (by kernel_rfl) (fun w1 h hA hd => (by have h9 := rCrash r (toR D) a.la a.cap a.kept a.Rl w1 (toR_ok hg) hA hd hI hl (h.hasR (fun e he => he)) (apart (Fl := ([(bx, Obj.cells ((ac a).toArray) 30 (0, 0))] ++ (dO (crashF a.kept D) m x6))) (A := rO (toR D) r) (T := []) h (fun e he => he)); rw [toR_crash hg] at h9; exact h9.mono fun e w2 hx => ⟨(), trivial, hx⟩))) ?_
                  rintro ⟨⟩ -
                  refine CfgL.done rfl ?_
                  refine Conv.cfg (Γ' := []) (Conv.mk (by kernel_rfl)) ?_
                  refine Cfg.reg rfl [6] [] (Γ' := [(6, [], .bool true)]) (nd := (fun _ => [])) (fun _ => by kernel_rfl) trivial ?_
                  refine Cfg.ret rfl (rs := [.tmp 6]) rfl [.bool true] ⟨by kernel_rfl, trivial⟩ (fun w1 hp => ?_)
                  have H1 : ¬ (a.d.tmod 5 = 1 ∨ a.d.tmod 5 = -1) := by omega
                  have H2 : ¬ (a.d.tmod 5 = 2 ∨ a.d.tmod 5 = -2) := by omega
                  have H3 : ¬ (a.d.tmod 5 = 3 ∨ a.d.tmod 5 = -3) := by omega
                  have H4 : a.d.tmod 5 = 4 ∨ a.d.tmod 5 = -4 := by omega
                  have hx : doF a D = (crashF a.kept D) := by unfold doF; rw [if_neg H1, if_neg H2, if_neg H3, if_pos H4]
                  rw [hx]
                  have h8 : HP w ((dO D m x ++ rO (toR D) r).map (·.1)) a.Rl ([(bx, Obj.cells ((ac a).toArray) 30 (0, 0))] ++ (dO (crashF a.kept D) m x6 ++ (rO (toR (crashF a.kept D)) r ++ []))) w1 := hp
                  rw [List.append_nil] at h8
                  exact ⟨x6, hmo_x6, by simp [resOf], _, h8.sub (List.sublist_append_right _ _)⟩
                · have c12 : ((a.d.tmod 5) ≠ ((-4) : Int)) := (beq_eq_false_iff_ne.1 c12r)
                  refine Cfg.begL rfl ?_
                  refine CfgL.eff (o := _) rfl (by kernel_rfl) (by kernel_rfl) (Eff.alloc (z := (.agg (bv (List.replicate 512 0)))) rfl (by kernel_rfl)) ?_
                  rintro b6 ⟨hb6, nb6⟩
                  refine CfgL.done rfl ?_
                  refine Conv.cfg (Γ' := [(11, [], .pointer (some ⟨b6, 0, none⟩)), (5, [], .pointer (some ⟨bx, 0, none⟩)), (0, [], .pointer (some ⟨m.d, 0, none⟩)), (1, [], .pointer (some ⟨r.r, 0, none⟩))]) (Conv.mk (by kernel_rfl)) ?_
                  refine Cfg.reg rfl [0, 1, 5, 11, 16] [] (Γ' := [(16, [], .int .i64 0), (11, [], .pointer (some ⟨b6, 0, none⟩)), (5, [], .pointer (some ⟨bx, 0, none⟩)), (0, [], .pointer (some ⟨m.d, 0, none⟩)), (1, [], .pointer (some ⟨r.r, 0, none⟩))]) (nd := (fun _ => [])) (fun _ => by kernel_rfl) trivial ?_
                  refine Cfg.setO (O' := ([(b6, .cells (bv (blkK a.b 0)) 33 (0, 0)), (bx, .cells ((ac a).toArray) 30 (0, 0))] ++ (dO D m x ++ (rO (toR D) r ++ [])))) (congrArg (fun (xq : Array Value) => (([(b6, .cells xq 33 (0, 0)), (bx, .cells ((ac a).toArray) 30 (0, 0))] ++ (dO D m x ++ (rO (toR D) r ++ []))) : List (Nat × Obj))) (by show bv (List.replicate 512 0) = _; rw [blkK_zero])) ?_
                  refine Cfg.loop rfl (ι := Nat) (fun (k : Nat) => [(16, [], .int .i64 (k : Int)), (11, [], .pointer (some ⟨b6, 0, none⟩)), (5, [], .pointer (some ⟨bx, 0, none⟩)), (0, [], .pointer (some ⟨m.d, 0, none⟩)), (1, [], .pointer (some ⟨r.r, 0, none⟩))]) (fun (k : Nat) => ([(b6, .cells (bv (blkK a.b k)) 33 (0, 0)), (bx, .cells ((ac a).toArray) 30 (0, 0))] ++ (dO D m x ++ (rO (toR D) r ++ [])))) (fun (k : Nat) => (k ≤ 512)) (fun (k : Nat) => 512 - k) 0 ?_ (Conv.mk (by kernel_rfl)) (.cons_cons _ (.cons_cons _ (List.Sublist.refl _))) ?_
                  · exact Nat.zero_le _
                  · rintro k hk
                    refine Cfg.reg rfl [0, 1, 5, 11, 16, 17] [] (Γ' := [(17, [], .bool (decide ((k : Int) < (512 : Int)))), (16, [], .int .i64 (k : Int)), (11, [], .pointer (some ⟨b6, 0, none⟩)), (5, [], .pointer (some ⟨bx, 0, none⟩)), (0, [], .pointer (some ⟨m.d, 0, none⟩)), (1, [], .pointer (some ⟨r.r, 0, none⟩))]) (nd := (fun _ => [])) (fun _ => by kernel_rfl) trivial ?_
                    refine Cfg.cond rfl (b := (decide ((k : Int) < (512 : Int)))) (by kernel_rfl) (fun c13r => ?_) (fun c13r => ?_)
                    · have c13 : ((k : Int) < (512 : Int)) := (of_decide_eq_true c13r)
                      refine Cfg.reg rfl [0, 1, 5, 11, 12, 16] [] (Γ' := [(12, [], .int .i64 (k : Int)), (16, [], .int .i64 (k : Int)), (11, [], .pointer (some ⟨b6, 0, none⟩)), (5, [], .pointer (some ⟨bx, 0, none⟩)), (0, [], .pointer (some ⟨m.d, 0, none⟩)), (1, [], .pointer (some ⟨r.r, 0, none⟩))]) (nd := (fun _ => [])) (fun _ => by kernel_rfl) trivial ?_
                      refine Cfg.begL rfl ?_
                      refine CfgL.pure 7 [(0, false, none), (0, false, none), (0, false, some (.int .u8 (a.b.toNat : Int)))] none (Γ' := [(25, [], .pointer (some ⟨b6, k, none⟩)), (24, [], .int .u8 (((a.b.toNat : Int) + ((k : Int) % 256)) % 256)), (23, [], .int .u8 ((k : Int) % 256)), (22, [], .int .i64 (k : Int)), (21, [], .int .u8 (a.b.toNat : Int)), (20, [], .pointer (some ⟨bx, 2, none⟩)), (19, [], .int .i64 (k : Int)), (12, [], .int .i64 (k : Int)), (16, [], .int .i64 (k : Int)), (11, [], .pointer (some ⟨b6, 0, none⟩)), (5, [], .pointer (some ⟨bx, 0, none⟩)), (0, [], .pointer (some ⟨m.d, 0, none⟩)), (1, [], .pointer (some ⟨r.r, 0, none⟩))]) (nd := (fun S => [(∀ w1, S w1 → w1.cell? ⟨bx, 2, none⟩ = some (.int .u8 (a.b.toNat : Int))), (0 ≤ (k : Int) ∧ (k : Int) < (512 : Int))])) (by kernel_rfl) (fun _ => by kernel_rfl) ⟨(fun w1 h => h.ocell 1 rfl rfl), (by omega), trivial⟩ ?_
                      refine CfgL.eff (o := _) rfl (by kernel_rfl) (by kernel_rfl) (Eff.store1 (b := b6) (off := k) (v := .int .u8 (((a.b.toNat : Int) + ((k : Int) % 256)) % 256)) rfl (by kernel_rfl) (by kernel_rfl) rfl (by kernel_rfl) 0 (cs := (bv (blkK a.b k))) (e := 33) (by kernel_rfl) (by rw [bv_size, blkK_len]; omega)) ?_
                      rintro ⟨⟩ -
                      refine CfgL.done rfl ?_
                      refine Conv.cfg (Γ' := [(16, [], .int .i64 (k : Int)), (11, [], .pointer (some ⟨b6, 0, none⟩)), (5, [], .pointer (some ⟨bx, 0, none⟩)), (0, [], .pointer (some ⟨m.d, 0, none⟩)), (1, [], .pointer (some ⟨r.r, 0, none⟩))]) (Conv.mk (by kernel_rfl)) ?_
                      refine Cfg.reg rfl [0, 1, 5, 11, 16] [] (Γ' := [(16, [], .int .i64 ((k : Int) + 1)), (11, [], .pointer (some ⟨b6, 0, none⟩)), (5, [], .pointer (some ⟨bx, 0, none⟩)), (0, [], .pointer (some ⟨m.d, 0, none⟩)), (1, [], .pointer (some ⟨r.r, 0, none⟩))]) (nd := (fun _ => [((-9223372036854775808 : Int) ≤ ((k : Int) + 1) ∧ ((k : Int) + 1) ≤ 9223372036854775807)])) (fun _ => by kernel_rfl) ⟨(by omega), trivial⟩ ?_
                      refine Cfg.setO (O' := ([(b6, .cells (bv (blkK a.b (k + 1))) 33 (0, 0)), (bx, .cells ((ac a).toArray) 30 (0, 0))] ++ (dO D m x ++ (rO (toR D) r ++ [])))) (congrArg (fun (xq : Array Value) => (([(b6, .cells xq 33 (0, 0)), (bx, .cells ((ac a).toArray) 30 (0, 0))] ++ (dO D m x ++ (rO (toR D) r ++ []))) : List (Nat × Obj))) (by rw [bv_set (by omega) (by omega), u8_sum _ _ (by omega), blkK_set (by omega)])) ?_
                      refine Cfg.again rfl (k + 1) (by show k + 1 ≤ 512; omega) (by show 512 - (k + 1) < 512 - k; omega) (Conv.mk (by kernel_rfl)) (.cons_cons _ (.cons_cons _ (List.Sublist.refl _)))
                    · have c13 : (¬ ((k : Int) < (512 : Int))) := (of_decide_eq_false c13r)
                      refine Cfg.begA rfl (by kernel_rfl) [(b6, .cells (bv (blkK a.b k)) 33 (0, 0)), (bx, .cells ((ac a).toArray) 30 (0, 0))] ?_
                      refine CfgA.pure [0, 1, 2, 3, 5, 6, 7, 8] [(0, false, none), (0, false, none), (0, false, some (.int .i64 a.q)), (0, false, some (.agg (bv (blkK a.b k)))), (0, false, none), (0, false, none), (0, false, some (.int .i64 a.q)), (0, false, some (.agg (bv (blkK a.b k))))] none (l' := #[true, true, true, true, false, true, true, true, true, false, false, false]) (by kernel_rfl) (by kernel_rfl) (.cons_cons _ (.cons_cons _ (List.Sublist.trans (List.Sublist.trans (List.Sublist.refl _) (List.sublist_append_right _ _)) (List.sublist_append_right _ _)))) 4 rfl (Γ' := [(35, [], .agg (bv (blkK a.b k))), (34, [], .int .i64 a.q), (33, [], .pointer (some ⟨bx, 1, none⟩)), (32, [], .pointer (some ⟨r.r, 0, none⟩)), (30, [], .agg (bv (blkK a.b k))), (29, [], .int .i64 a.q), (28, [], .pointer (some ⟨bx, 1, none⟩)), (27, [], .pointer (some ⟨m.d, 0, none⟩)), (17, [], .bool (decide ((k : Int) < (512 : Int)))), (16, [], .int .i64 (k : Int)), (11, [], .pointer (some ⟨b6, 0, none⟩)), (5, [], .pointer (some ⟨bx, 0, none⟩)), (0, [], .pointer (some ⟨m.d, 0, none⟩)), (1, [], .pointer (some ⟨r.r, 0, none⟩))]) (nd := (fun S => [(∀ w1, S w1 → w1.cell? ⟨bx, 1, none⟩ = some (.int .i64 a.q)), (∀ w1, S w1 → (loadVar 33 ⟨b6, 0, none⟩).run Try.prog w1 = .ok (.agg (bv (blkK a.b k))) w1), (∀ w1, S w1 → w1.cell? ⟨bx, 1, none⟩ = some (.int .i64 a.q)), (∀ w1, S w1 → (loadVar 33 ⟨b6, 0, none⟩).run Try.prog w1 = .ok (.agg (bv (blkK a.b k))) w1)])) (fun _ => by kernel_rfl) ⟨(fun w1 h => h.ocell 1 rfl rfl), (fun w1 h => h.oload 0 rfl Try.underlying33 rfl (n := 512) (by kernel_rfl) ((bv_size _).trans (blkK_len _ _))), (fun w1 h => h.ocell 1 rfl rfl), (fun w1 h => h.oload 0 rfl Try.underlying33 rfl (n := 512) (by kernel_rfl) ((bv_size _).trans (blkK_len _ _))), trivial⟩ ?_
                      refine CfgA.eff 4 (o := _) rfl (by kernel_rfl) (fuel' := 3) rfl (by kernel_rfl) (by kernel_rfl) (Eff.callH (vs := [.pointer (some ⟨m.d, 0, none⟩), .int .i64 a.q, .agg (bv (blkK a.b k))]) (fun _ : MX => .int .i64 ((writeF D a.q (blkK a.b k)).1)) (dO D m x) (fun y => dO ((writeF D a.q (blkK a.b k)).2) m y) (fun y => MapOk y.1 y.2 (wv2 ((writeF D a.q (blkK a.b k)).2).wait)) [(b6, .cells (bv (blkK a.b k)) 33 (0, 0)), (bx, .cells ((ac a).toArray) 30 (0, 0))] ([] ++ (rO (toR D) r ++ [])) rfl rfl Try.func8 rfl rfl (by kernel_rfl) (fun w1 h hA hd => dWrite m x D a.q (blkK a.b k) w1 hg hmo hA hd (blkK_len _ _) hst)) (fun _ _ => (.cons_cons _ (.cons_cons _ (List.Sublist.trans (List.Sublist.trans (List.Sublist.refl _) (List.sublist_append_right _ _)) (List.sublist_append_right _ _))))) ?_
                      rintro x7 hmo_x7
                      refine CfgA.eff 9 (o := _) rfl (by kernel_rfl) (fuel' := 2) rfl (by kernel_rfl) (by kernel_rfl) (Eff.callH (vs := [.pointer (some ⟨r.r, 0, none⟩), .int .i64 a.q, .agg (bv (blkK a.b k))]) (fun _ : Unit => .int .i64 ((writeF D a.q (blkK a.b k)).1)) (rO (toR D) r) (fun _ => rO (toR ((writeF D a.q (blkK a.b k)).2)) r) (fun _ => True) ([(b6, .cells (bv (blkK a.b k)) 33 (0, 0)), (bx, .cells ((ac a).toArray) 30 (0, 0))] ++ (dO ((writeF D a.q (blkK a.b k)).2) m x7)) [] rfl rfl Try.func33 rfl rfl (by kernel_rfl) (fun w1 h hA hd => (by have h9 := rWrite r (toR D) a.q (blkK a.b k) w1 (toR_ok hg) hA hd (blkK_len _ _) hst; rw [toR_write hg] at h9; exact h9.mono fun e w2 hx => ⟨(), trivial, hx⟩))) (fun _ _ => (.cons_cons _ (.cons_cons _ (List.Sublist.trans (List.Sublist.trans (List.Sublist.refl _) (List.sublist_append_right _ _)) (List.sublist_append_right _ _))))) ?_
                      rintro ⟨⟩ -
                      refine CfgA.pure [10, 11] [] (some [6]) (l' := #[true, true, true, true, true, true, true, true, true, true, true, true]) (by kernel_rfl) (by kernel_rfl) (.cons_cons _ (.cons_cons _ (List.Sublist.trans (List.Sublist.trans (List.Sublist.refl _) (List.sublist_append_right _ _)) (List.sublist_append_right _ _)))) 0 rfl (Γ' := [(6, [], .bool (((writeF D a.q (blkK a.b k)).1) == ((writeF D a.q (blkK a.b k)).1)))]) (nd := (fun _ => [])) (fun _ => by kernel_rfl) trivial ?_
                      refine CfgA.done (by kernel_rfl) ?_
                      refine Cfg.ret rfl (rs := [.tmp 6]) rfl [.bool (((writeF D a.q (blkK a.b k)).1) == ((writeF D a.q (blkK a.b k)).1))] ⟨by kernel_rfl, trivial⟩ (fun w1 hp => ?_)
                      have H1 : ¬ (a.d.tmod 5 = 1 ∨ a.d.tmod 5 = -1) := by omega
                      have H2 : ¬ (a.d.tmod 5 = 2 ∨ a.d.tmod 5 = -2) := by omega
                      have H3 : ¬ (a.d.tmod 5 = 3 ∨ a.d.tmod 5 = -3) := by omega
                      have H4 : ¬ (a.d.tmod 5 = 4 ∨ a.d.tmod 5 = -4) := by omega
                      obtain rfl : k = 512 := by omega
                      have hx : doF a D = (writeF D a.q (blkK a.b 512)).2 := by unfold doF; rw [if_neg H1, if_neg H2, if_neg H3, if_neg H4]
                      rw [hx]
                      have h8 : HP w ((dO D m x ++ rO (toR D) r).map (·.1)) a.Rl ([(b6, Obj.cells (bv (blkK a.b 512)) 33 (0, 0)), (bx, Obj.cells ((ac a).toArray) 30 (0, 0))] ++ (dO ((writeF D a.q (blkK a.b 512)).2) m x7 ++ (rO (toR ((writeF D a.q (blkK a.b 512)).2)) r ++ []))) w1 := hp
                      rw [List.append_nil] at h8
                      exact ⟨x7, hmo_x7, by simp [resOf], _, h8.sub (List.sublist_append_right _ _)⟩

end Go.Proofs.Ytnoipbbcpiaemaa
