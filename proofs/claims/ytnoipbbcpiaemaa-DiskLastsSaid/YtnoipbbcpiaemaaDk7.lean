/- disk: New; the document's disk. -/
import Derived.Test.YtnoipbbcpiaemaaDk6
namespace Go.Proofs.Ytnoipbbcpiaemaa
open K
set_option linter.unusedVariables false

def newD (n : Nat) : DK := { fuse := -1, steps := 0, down := false, last := List.replicate n zb, wait := [] }
theorem w5_rep (n : Nat) : W5 (List.replicate n zb) := fun b hb => by rw [List.eq_of_mem_replicate hb]; exact zb_len
theorem DG.new {n : Nat} (hn : n ≤ 4096) : DG (newD n) :=
  ⟨w5_rep n, (fun _ hp => by cases hp), (fun _ hp => by cases hp), by show (List.replicate n zb).length ≤ _; rw [List.length_replicate]; exact hn, List.nodup_nil, ⟨by show (-1 : Int) ≤ -1; decide, by show (-1 : Int) ≤ 9223372036854775807; decide⟩⟩
theorem rep_rows_len (n : Nat) : (rows (List.replicate n zb)).length = n * 512 := by rw [rows_len (w5_rep n), List.length_replicate]
theorem rep_rows_get {n i : Nat} (h : i < n * 512) : (rows (List.replicate n zb))[i]? = some (.int .u8 0) := by
  have h1 := rows_get (w5_rep n) (i := i / 512) (j := i % 512) (by rw [List.length_replicate]; omega) (by omega)
  rw [show i / 512 * 512 + i % 512 = i by omega] at h1
  rw [h1]
  have e1 : (List.replicate n zb).getD (i / 512) zb = zb := by
    rw [List.getD_eq_getElem?_getD, List.getElem?_replicate]; split <;> rfl
  have e2 : ∀ j : Nat, zb.getD j 0 = 0 := fun j => by
    unfold zb; rw [List.getD_eq_getElem?_getD, List.getElem?_replicate]; split <;> rfl
  rw [e1, e2]; rfl
theorem bvz_get : ∀ j : Nat, j < 512 → (Value.agg (bv (List.replicate 512 0))).cells[j]! = .int .u8 0 := fun j hj => by
  show (bv (List.replicate 512 0))[j]! = _
  have h1 := bv_get (l := List.replicate 512 0) (n := 512) (by exact List.length_replicate) hj
  rw [getElem!_def, h1]
  have e2 : (List.replicate 512 (0 : UInt8)).getD j 0 = 0 := by
    rw [List.getD_eq_getElem?_getD, List.getElem?_replicate]; split <;> rfl
  rw [e2]; rfl
theorem run_mkRows {w : World} {n : Nat} (h0 : 0 < n) (hn : n ≤ 4096) : (Instr.makeSlice 49 (.int .i64 (n : Int)) (.int .i64 (n : Int))).run Try.prog w = .ok (.slice (some ⟨w.heap.size, 0, none⟩) n n) (w.alloc (.cells (rows (List.replicate n zb)).toArray 33 (0, 0))) := by
  have hi : (Try.prog.info? 33).map (fun i => (i.size, i.zero)) = some (512, some (.agg (bv (List.replicate 512 0)))) := by kernel_rfl
  have hby : (Try.prog.info? 33).map (fun i => i.bytes) = some 512 := by kernel_rfl
  obtain ⟨inf, hinf, he⟩ := Option.map_eq_some_iff.1 hi
  rw [hinf] at hby
  simp only [Prod.mk.injEq] at he
  have hb : inf.bytes = 512 := Option.some.inj hby
  refine run_mkZ (L := rows (List.replicate n zb)) (z := .agg (bv (List.replicate 512 0))) Try.underlying49 hinf he.2 (by rw [he.1]; exact (bv_size _).trans List.length_replicate) (by rw [he.1]; omega) (by omega) (by omega) (by rw [he.1]; exact rep_rows_len n) (fun i hi => ?_)
  rw [he.1] at hi ⊢
  rw [rep_rows_get hi, bvz_get _ (by omega)]
def rb (fr : List Bool) : List Value := fr.map Value.bool
theorem rb_len (fr : List Bool) : (rb fr).length = fr.length := by simp [rb]
theorem run_mkBs {w : World} {n : Nat} (h0 : 0 < n) (hn : n ≤ 4096) : (Instr.makeSlice 23 (.int .i64 (n : Int)) (.int .i64 (n : Int))).run Try.prog w = .ok (.slice (some ⟨w.heap.size, 0, none⟩) n n) (w.alloc (.cells (rb (List.replicate n false)).toArray 4 (0, 0))) := by
  have hi : (Try.prog.info? 4).map (fun i => (i.size, i.zero)) = some (1, some (.bool false)) := by kernel_rfl
  have hby : (Try.prog.info? 4).map (fun i => i.bytes) = some 1 := by kernel_rfl
  obtain ⟨inf, hinf, he⟩ := Option.map_eq_some_iff.1 hi
  rw [hinf] at hby
  simp only [Prod.mk.injEq] at he
  have hb : inf.bytes = 1 := Option.some.inj hby
  refine run_mkZ (L := rb (List.replicate n false)) (z := .bool false) Try.underlying23 hinf he.2 (by rw [he.1]; rfl) (by rw [he.1]; omega) (by omega) (by omega) (by rw [he.1, rb_len, List.length_replicate]; omega) (fun i hi => ?_)
  rw [he.1, Nat.mul_one] at hi
  rw [he.1, Nat.mod_one]
  simp [rb, hi, Value.cells]
/-- The document's disk. -/
structure RK where
  shown : List (List UInt8)
  last : List (List UInt8)
  waits : List Bool
  done : Int
  fuse : Int
  down : Bool
structure RM where
  r : Nat
  sb : Nat
  lb : Nat
  wb : Nat
def rC (Q : RK) (m : RM) : Array Value := #[.slice (some ⟨m.sb, 0, none⟩) Q.shown.length Q.shown.length, .slice (some ⟨m.lb, 0, none⟩) Q.last.length Q.last.length, .slice (some ⟨m.wb, 0, none⟩) Q.waits.length Q.waits.length, .int .i64 Q.done, .int .i64 Q.fuse, .bool Q.down]
def rO (Q : RK) (m : RM) : List (Nat × Obj) := [(m.r, .cells (rC Q m) 51 (0, 0)), (m.sb, .cells (rows Q.shown).toArray 33 (0, 0)), (m.lb, .cells (rows Q.last).toArray 33 (0, 0)), (m.wb, .cells (rb Q.waits).toArray 4 (0, 0))]
structure RG (Q : RK) : Prop where
  ws : W5 Q.shown
  wl : W5 Q.last
  n : Q.last.length ≤ 4096
  sl : Q.shown.length = Q.last.length
  tl : Q.waits.length = Q.last.length
  f : -1 ≤ Q.fuse ∧ Q.fuse ≤ 9223372036854775807
def rReadE (Q : RK) (q : Int) : Int := if Q.down = true then 13 else if q < 0 ∨ q ≥ (Q.last.length : Int) then 2 else 0
def rReadB (Q : RK) (q : Int) : List UInt8 := if rReadE Q q = 0 then Q.shown.getD q.toNat zb else zb
theorem rReadB_len {Q : RK} (h : RG Q) (q : Int) : (rReadB Q q).length = 512 := by unfold rReadB; split; exact h.ws.at' _; exact zb_len
theorem rReadE_cases (Q : RK) (q : Int) : (rReadE Q q = 0 ∧ 0 ≤ q ∧ q < (Q.last.length : Int)) ∨ rReadE Q q = 2 ∨ rReadE Q q = 13 := by
  unfold rReadE
  split
  · exact .inr (.inr rfl)
  · split
    · exact .inr (.inl rfl)
    · exact .inl ⟨rfl, by omega⟩
def stF (Q : RK) : Bool × RK := if Q.fuse = 0 then (false, { Q with down := true }) else (true, { Q with fuse := if Q.fuse > 0 then Q.fuse - 1 else Q.fuse, done := Q.done + 1 })
theorem stF_same (Q : RK) : (stF Q).2.shown = Q.shown ∧ (stF Q).2.last = Q.last ∧ (stF Q).2.waits = Q.waits := by unfold stF; split <;> exact ⟨rfl, rfl, rfl⟩
def rWriteF (Q : RK) (q : Int) (b : List UInt8) : Int × RK :=
  if rReadE Q q ≠ 0 then (rReadE Q q, Q) else if (stF Q).1 = true then (0, { (stF Q).2 with shown := Q.shown.set q.toNat b, waits := Q.waits.set q.toNat true }) else (13, (stF Q).2)
def rBarF (Q : RK) : Int × RK :=
  if Q.down = true then (13, Q) else if (stF Q).1 = true then (0, { (stF Q).2 with last := Q.shown, waits := List.replicate Q.waits.length false }) else (13, (stF Q).2)
def lisF (ws : List Bool) (k : Nat) : List Int := ((List.range k).filter fun i => ws.getD i false).map fun i : Nat => (i : Int)
theorem lisF_yes {ws : List Bool} {k : Nat} (h : ws.getD k false = true) : lisF ws (k + 1) = lisF ws k ++ [(k : Int)] := by
  unfold lisF; rw [List.range_succ, List.filter_append, List.filter_cons_of_pos (by simpa using h)]; simp
theorem lisF_no {ws : List Bool} {k : Nat} (h : ws.getD k false = false) : lisF ws (k + 1) = lisF ws k := by
  unfold lisF; rw [List.range_succ, List.filter_append, List.filter_cons_of_neg (by simp only [h]; decide)]; simp
theorem lisF_len (ws : List Bool) (k : Nat) : (lisF ws k).length ≤ k := by
  unfold lisF; rw [List.length_map]
  exact Nat.le_trans (List.length_filter_le _ _) (by simp)
theorem rb_cell {w : World} {b k : Nat} {fr : List Bool} {t : TypeId} {f : Nat × Nat} (h : w.heap[b]? = some (.cells (rb fr).toArray t f)) (hk : k < fr.length) : w.cell? ⟨b, k, none⟩ = some (.bool (fr.getD k false)) := by
  rw [cell_cells h, List.getElem?_toArray]; unfold rb
  rw [List.getElem?_map, List.getD_eq_getElem?_getD, List.getElem?_eq_getElem hk]; rfl
theorem rb_set (fr : List Bool) (k : Nat) (b : Bool) : (rb fr).toArray.setIfInBounds k (.bool b) = (rb (fr.set k b)).toArray := by
  apply Array.ext'; simp [rb, List.map_set]
/-- Behind a crash of the document's disk, place by place. -/
def crl (kept : List Bool) : Nat → List Int → List (List UInt8) → List (List UInt8) → List Bool → List (List UInt8) × List (List UInt8) × List Bool
  | _, [], s, l, ws => (s, l, ws)
  | k, i :: is, s, l, ws => crl kept (k + 1) is (s.set i.toNat ((if kept.getD k false = true then l.set i.toNat (s.getD i.toNat zb) else l).getD i.toNat zb)) (if kept.getD k false = true then l.set i.toNat (s.getD i.toNat zb) else l) (ws.set i.toNat false)
def rCrashF (kept : List Bool) (Q : RK) : RK :=
  { Q with shown := (crl kept 0 (lisF Q.waits Q.waits.length) Q.shown Q.last Q.waits).1, last := (crl kept 0 (lisF Q.waits Q.waits.length) Q.shown Q.last Q.waits).2.1, waits := (crl kept 0 (lisF Q.waits Q.waits.length) Q.shown Q.last Q.waits).2.2, fuse := -1, down := false }
theorem lis_in {ws : List Bool} {n k : Nat} (hk : k < (lisF ws n).length) : 0 ≤ (lisF ws n).getD k 0 ∧ (lisF ws n).getD k 0 < (n : Int) := by
  have h2 : (lisF ws n).getD k 0 ∈ lisF ws n := by rw [List.getD_eq_getElem?_getD, List.getElem?_eq_getElem hk]; exact List.getElem_mem hk
  unfold lisF at h2
  obtain ⟨x, hx, e⟩ := List.mem_map.1 h2
  have := List.mem_range.1 (List.mem_filter.1 hx).1
  unfold lisF
  omega
theorem crl_step {kept : List Bool} {k : Nat} {is : List Int} (h : k < is.length) (s l : List (List UInt8)) (ws : List Bool) : crl kept k (is.drop k) s l ws = crl kept (k + 1) (is.drop (k + 1)) (s.set (is.getD k 0).toNat ((if kept.getD k false = true then l.set (is.getD k 0).toNat (s.getD (is.getD k 0).toNat zb) else l).getD (is.getD k 0).toNat zb)) (if kept.getD k false = true then l.set (is.getD k 0).toNat (s.getD (is.getD k 0).toNat zb) else l) (ws.set (is.getD k 0).toNat false) := by
  have e : is.getD k 0 = is[k] := by rw [List.getD_eq_getElem?_getD, List.getElem?_eq_getElem h]; rfl
  rw [List.drop_eq_getElem_cons h, crl, e]

set_option maxRecDepth 100000 in
theorem dNew (n : Nat) (w : World) (hn : 64 ≤ n ∧ n ≤ 4096) :
    Calls Try.prog 7 #[.int .i64 (n : Int)] w fun e w' => ∃ y : DM × MX, MapOk y.2.1 y.2.2 [] ∧ e = .returned (.tuple #[.pointer (some ⟨y.1.d, 0, none⟩), .int .i64 0]) ∧ ∃ R1, HP w [] R1 (dO (newD n) y.1 y.2) w' := by
  refine enter (vs := [.int .i64 (n : Int)]) [] [] [] Try.func7 rfl (by kernel_rfl) (HP.start w) ?_
  refine Cfg.reg rfl [0] [] (Γ' := [(0, [], .int .i64 (n : Int))]) (nd := (fun _ => [])) (fun _ => by kernel_rfl) trivial ?_
  refine Cfg.reg rfl [0, 9] [] (Γ' := [(9, [], .bool ((decide ((n : Int) < (64 : Int))) || (decide ((n : Int) > (4096 : Int))))), (0, [], .int .i64 (n : Int))]) (nd := (fun _ => [])) (fun _ => by kernel_rfl) trivial ?_
  refine Cfg.condF rfl (b := ((decide ((n : Int) < (64 : Int))) || (decide ((n : Int) > (4096 : Int))))) (by kernel_rfl) (Bool.or_eq_false_iff.2 ⟨decide_eq_false (by omega), decide_eq_false (by omega)⟩) ?_
  refine Cfg.begL rfl ?_
  refine CfgL.pure 2 [(0, false, some (.agg #[.int .i64 (-1), .int .i64 0, .bool false]))] none (Γ' := [(11, [], .int .i64 (n : Int)), (10, [], .agg #[.int .i64 (-1), .int .i64 0, .bool false]), (9, [], .bool ((decide ((n : Int) < (64 : Int))) || (decide ((n : Int) > (4096 : Int))))), (0, [], .int .i64 (n : Int))]) (nd := (fun S => [(∀ w1, S w1 → (Instr.build 55 #[(0, .int .i64 (-1))]).run Try.prog w1 = .ok (.agg #[.int .i64 (-1), .int .i64 0, .bool false]) w1)])) (by kernel_rfl) (fun _ => by kernel_rfl) ⟨(fun _ _ => by kernel_rfl), trivial⟩ ?_
  refine CfgL.eff (o := _) rfl (by kernel_rfl) (by kernel_rfl) (Eff.makeRow (e := 33) (n := n) (cells := (rows (List.replicate n zb)).toArray) (v1 := .int .i64 (n : Int)) (v2 := .int .i64 (n : Int)) rfl (by kernel_rfl) (by kernel_rfl) (fun w1 => run_mkRows (by omega) (by omega))) ?_
  rintro lb ⟨hlb, nlb⟩
  refine CfgL.eff (o := _) rfl (by kernel_rfl) (by kernel_rfl) (Eff.mapNew rfl) ?_
  rintro mb ⟨hmb, nmb⟩
  refine CfgL.pure 2 [(0, false, some (.agg #[.slice (some ⟨lb, 0, none⟩) n n, .map (some mb)])), (0, false, some (.agg #[.int .i64 (-1), .int .i64 0, .bool false, .slice (some ⟨lb, 0, none⟩) n n, .map (some mb)]))] none (Γ' := [(15, [], .agg #[.int .i64 (-1), .int .i64 0, .bool false, .slice (some ⟨lb, 0, none⟩) n n, .map (some mb)]), (14, [], .agg #[.slice (some ⟨lb, 0, none⟩) n n, .map (some mb)]), (13, [], .map (some mb)), (12, [], .slice (some ⟨lb, 0, none⟩) n n), (11, [], .int .i64 (n : Int)), (10, [], .agg #[.int .i64 (-1), .int .i64 0, .bool false]), (9, [], .bool ((decide ((n : Int) < (64 : Int))) || (decide ((n : Int) > (4096 : Int))))), (0, [], .int .i64 (n : Int))]) (nd := (fun S => [(∀ w1, S w1 → (Instr.build 58 #[(0, .slice (some ⟨lb, 0, none⟩) n n), (1, .map (some mb))]).run Try.prog w1 = .ok (.agg #[.slice (some ⟨lb, 0, none⟩) n n, .map (some mb)]) w1), (∀ w1, S w1 → (Instr.build 60 #[(0, .agg #[.int .i64 (-1), .int .i64 0, .bool false]), (1, .agg #[.slice (some ⟨lb, 0, none⟩) n n, .map (some mb)])]).run Try.prog w1 = .ok (.agg #[.int .i64 (-1), .int .i64 0, .bool false, .slice (some ⟨lb, 0, none⟩) n n, .map (some mb)]) w1)])) (by kernel_rfl) (fun _ => by kernel_rfl) ⟨(fun _ _ => by kernel_rfl), (fun _ _ => by kernel_rfl), trivial⟩ ?_
  refine CfgL.eff (o := _) rfl (by kernel_rfl) (by kernel_rfl) (Eff.box (v := .agg #[.int .i64 (-1), .int .i64 0, .bool false, .slice (some ⟨lb, 0, none⟩) n n, .map (some mb)]) rfl (by kernel_rfl)) ?_
  rintro d ⟨hd, nd⟩
  refine CfgL.pure 2 [] (some [2, 3]) (Γ' := [(3, [], .int .i64 0), (2, [], .pointer (some ⟨d, 0, none⟩))]) (nd := (fun _ => [])) (by kernel_rfl) (fun _ => by kernel_rfl) trivial ?_
  refine CfgL.done rfl ?_
  refine Cfg.ret rfl (rs := [.tmp 2, .tmp 3]) rfl [.pointer (some ⟨d, 0, none⟩), .int .i64 0] ⟨by kernel_rfl, by kernel_rfl, trivial⟩ (fun w1 hp => ?_)
  refine ⟨(⟨d, lb, mb⟩, (#[], 0)), MapOk.empty _, rfl, [], ?_⟩
  have h9 := hp.perm (List.Perm.cons _ (List.Perm.swap _ _ _))
  show HP w [] [] [(d, Obj.cells #[.int .i64 (-1), .int .i64 0, .bool false, .slice (some ⟨lb, 0, none⟩) (List.replicate n zb).length (List.replicate n zb).length, .map (some mb)] 60 (0, 0)), (lb, Obj.cells (rows (List.replicate n zb)).toArray 33 (0, 0)), (mb, Obj.map #[] 0)] w1
  rw [show (List.replicate n zb).length = n from List.length_replicate]
  exact h9

set_option maxRecDepth 100000 in
theorem dNewN (q : Int) (w : World) (hq : q < 64 ∨ q > 4096) :
    Calls Try.prog 7 #[.int .i64 q] w fun e w' => e = .returned (.tuple #[.pointer none, .int .i64 2]) ∧ Ext [] w w' := by
  refine enter (vs := [.int .i64 q]) [] [] [] Try.func7 rfl (by kernel_rfl) (HP.start w) ?_
  refine Cfg.reg rfl [0] [] (Γ' := [(0, [], .int .i64 q)]) (nd := (fun _ => [])) (fun _ => by kernel_rfl) trivial ?_
  refine Cfg.reg rfl [0, 9] [] (Γ' := [(9, [], .bool ((decide (q < (64 : Int))) || (decide (q > (4096 : Int))))), (0, [], .int .i64 q)]) (nd := (fun _ => [])) (fun _ => by kernel_rfl) trivial ?_
  refine Cfg.condT rfl (b := ((decide (q < (64 : Int))) || (decide (q > (4096 : Int))))) (by kernel_rfl) (by rw [Bool.or_eq_true]; exact hq.elim (fun h => .inl (decide_eq_true h)) (fun h => .inr (decide_eq_true h))) ?_
  refine Cfg.reg rfl [2, 3] [] (Γ' := [(3, [], .int .i64 2), (2, [], .pointer none)]) (nd := (fun _ => [])) (fun _ => by kernel_rfl) trivial ?_
  refine Cfg.ret rfl (rs := [.tmp 2, .tmp 3]) rfl [.pointer none, .int .i64 2] ⟨by kernel_rfl, by kernel_rfl, trivial⟩ (fun w1 hp => ?_)
  exact ⟨rfl, hp.ext⟩

set_option maxRecDepth 100000 in
theorem rNew (n : Nat) (w : World) (hn : 64 ≤ n ∧ n ≤ 4096) :
    Calls Try.prog 18 #[.int .i64 (n : Int)] w fun e w' => ∃ y : RM, e = .returned (.pointer (some ⟨y.r, 0, none⟩)) ∧ ∃ R1, HP w [] R1 (rO { shown := List.replicate n zb, last := List.replicate n zb, waits := List.replicate n false, done := 0, fuse := -1, down := false } y) w' := by
  refine enter (vs := [.int .i64 (n : Int)]) [] [] [] Try.func18 rfl (by kernel_rfl) (HP.start w) ?_
  refine Cfg.reg rfl [0] [] (Γ' := [(0, [], .int .i64 (n : Int))]) (nd := (fun _ => [])) (fun _ => by kernel_rfl) trivial ?_
  refine Cfg.reg rfl [0, 8] [] (Γ' := [(8, [], .bool ((decide ((n : Int) < (64 : Int))) || (decide ((n : Int) > (4096 : Int))))), (0, [], .int .i64 (n : Int))]) (nd := (fun _ => [])) (fun _ => by kernel_rfl) trivial ?_
  refine Cfg.condF rfl (b := ((decide ((n : Int) < (64 : Int))) || (decide ((n : Int) > (4096 : Int))))) (by kernel_rfl) (Bool.or_eq_false_iff.2 ⟨decide_eq_false (by omega), decide_eq_false (by omega)⟩) ?_
  refine Cfg.begA rfl (by kernel_rfl) [] ?_
  refine CfgA.pure [0, 2, 4] [] none (l' := #[true, false, true, false, true, false, false, false, false]) (by kernel_rfl) (by kernel_rfl) .slnil 6 rfl (Γ' := [(13, [], .int .i64 (n : Int)), (11, [], .int .i64 (n : Int)), (9, [], .int .i64 (n : Int)), (8, [], .bool ((decide ((n : Int) < (64 : Int))) || (decide ((n : Int) > (4096 : Int))))), (0, [], .int .i64 (n : Int))]) (nd := (fun _ => [])) (fun _ => by kernel_rfl) trivial ?_
  refine CfgA.three 1 3 5 (by kernel_rfl) (fuel' := 5) rfl ?_ ?_ ?_
  ·
    refine CfgI.eff (o := _) rfl (by kernel_rfl) (by kernel_rfl) (Eff.makeRow (e := 33) (n := n) (cells := (rows (List.replicate n zb)).toArray) (v1 := .int .i64 (n : Int)) (v2 := .int .i64 (n : Int)) rfl (by kernel_rfl) (by kernel_rfl) (fun w1 => run_mkRows (by omega) (by omega))) (fun _ _ => List.nil_sublist _) ?_
    rintro sb ⟨hsb, nsb⟩
    refine CfgA.two 3 5 (by kernel_rfl) (fuel' := 4) rfl ?_ ?_
    ·
      refine CfgI.eff (o := _) rfl (by kernel_rfl) (by kernel_rfl) (Eff.makeRow (e := 33) (n := n) (cells := (rows (List.replicate n zb)).toArray) (v1 := .int .i64 (n : Int)) (v2 := .int .i64 (n : Int)) rfl (by kernel_rfl) (by kernel_rfl) (fun w1 => run_mkRows (by omega) (by omega))) (fun _ _ => List.nil_sublist _) ?_
      rintro lb ⟨hlb, nlb⟩
      refine CfgA.eff 5 (o := _) rfl (by kernel_rfl) (fuel' := 3) rfl (by kernel_rfl) (by kernel_rfl) (Eff.makeRow (e := 4) (n := n) (cells := (rb (List.replicate n false)).toArray) (v1 := .int .i64 (n : Int)) (v2 := .int .i64 (n : Int)) rfl (by kernel_rfl) (by kernel_rfl) (fun w1 => run_mkBs (by omega) (by omega))) (fun _ _ => List.nil_sublist _) ?_
      rintro wb ⟨hwb, nwb⟩
      refine CfgA.pure [6] [(0, false, some (.agg #[.slice (some ⟨sb, 0, none⟩) n n, .slice (some ⟨lb, 0, none⟩) n n, .slice (some ⟨wb, 0, none⟩) n n, .int .i64 0, .int .i64 (-1), .bool false]))] none (l' := #[true, true, true, true, true, true, true, false, false]) (by kernel_rfl) (by kernel_rfl) (.cons _ (.cons _ (.cons _ .slnil))) 2 rfl (Γ' := [(15, [], .agg #[.slice (some ⟨sb, 0, none⟩) n n, .slice (some ⟨lb, 0, none⟩) n n, .slice (some ⟨wb, 0, none⟩) n n, .int .i64 0, .int .i64 (-1), .bool false]), (14, [], .slice (some ⟨wb, 0, none⟩) n n), (12, [], .slice (some ⟨lb, 0, none⟩) n n), (10, [], .slice (some ⟨sb, 0, none⟩) n n), (13, [], .int .i64 (n : Int)), (11, [], .int .i64 (n : Int)), (9, [], .int .i64 (n : Int)), (8, [], .bool ((decide ((n : Int) < (64 : Int))) || (decide ((n : Int) > (4096 : Int))))), (0, [], .int .i64 (n : Int))]) (nd := (fun S => [(∀ w1, S w1 → (Instr.build 51 #[(0, .slice (some ⟨sb, 0, none⟩) n n), (1, .slice (some ⟨lb, 0, none⟩) n n), (2, .slice (some ⟨wb, 0, none⟩) n n), (3, .int .i64 0), (4, .int .i64 (-1)), (5, .bool false)]).run Try.prog w1 = .ok (.agg #[.slice (some ⟨sb, 0, none⟩) n n, .slice (some ⟨lb, 0, none⟩) n n, .slice (some ⟨wb, 0, none⟩) n n, .int .i64 0, .int .i64 (-1), .bool false]) w1)])) (fun _ => by kernel_rfl) ⟨(fun _ _ => by kernel_rfl), trivial⟩ ?_
      refine CfgA.eff 7 (o := _) rfl (by kernel_rfl) (fuel' := 1) rfl (by kernel_rfl) (by kernel_rfl) (Eff.box (v := .agg #[.slice (some ⟨sb, 0, none⟩) n n, .slice (some ⟨lb, 0, none⟩) n n, .slice (some ⟨wb, 0, none⟩) n n, .int .i64 0, .int .i64 (-1), .bool false]) rfl (by kernel_rfl)) (fun _ _ => List.nil_sublist _) ?_
      rintro r ⟨hr, nr⟩
      refine CfgA.pure [8] [] (some [2]) (l' := #[true, true, true, true, true, true, true, true, true]) (by kernel_rfl) (by kernel_rfl) (.cons _ (.cons _ (.cons _ (.cons _ .slnil)))) 0 rfl (Γ' := [(2, [], .pointer (some ⟨r, 0, none⟩))]) (nd := (fun _ => [])) (fun _ => by kernel_rfl) trivial ?_
      refine CfgA.done (by kernel_rfl) ?_
      refine Cfg.ret rfl (rs := [.tmp 2]) rfl [.pointer (some ⟨r, 0, none⟩)] ⟨by kernel_rfl, trivial⟩ (fun w1 hp => ?_)
      refine ⟨⟨r, sb, lb, wb⟩, rfl, [], ?_⟩
      show HP w [] [] [(r, Obj.cells #[.slice (some ⟨sb, 0, none⟩) (List.replicate n zb).length (List.replicate n zb).length, .slice (some ⟨lb, 0, none⟩) (List.replicate n zb).length (List.replicate n zb).length, .slice (some ⟨wb, 0, none⟩) (List.replicate n false).length (List.replicate n false).length, .int .i64 0, .int .i64 (-1), .bool false] 51 (0, 0)), (sb, Obj.cells (rows (List.replicate n zb)).toArray 33 (0, 0)), (lb, Obj.cells (rows (List.replicate n zb)).toArray 33 (0, 0)), (wb, Obj.cells (rb (List.replicate n false)).toArray 4 (0, 0))] w1
      rw [show (List.replicate n zb).length = n from List.length_replicate, show (List.replicate n false).length = n from List.length_replicate]
      exact hp.perm (List.Perm.trans (List.Perm.cons _ (List.Perm.cons _ (List.Perm.swap _ _ _))) (List.Perm.trans (List.Perm.cons _ (List.Perm.swap _ _ _)) (List.Perm.trans (List.Perm.cons _ (List.Perm.cons _ (List.Perm.swap _ _ _))) (List.Perm.refl _))))
    ·
      refine CfgI.eff (o := _) rfl (by kernel_rfl) (by kernel_rfl) (Eff.makeRow (e := 4) (n := n) (cells := (rb (List.replicate n false)).toArray) (v1 := .int .i64 (n : Int)) (v2 := .int .i64 (n : Int)) rfl (by kernel_rfl) (by kernel_rfl) (fun w1 => run_mkBs (by omega) (by omega))) (fun _ _ => List.nil_sublist _) ?_
      rintro wb ⟨hwb, nwb⟩
      refine CfgA.eff 3 (o := _) rfl (by kernel_rfl) (fuel' := 3) rfl (by kernel_rfl) (by kernel_rfl) (Eff.makeRow (e := 33) (n := n) (cells := (rows (List.replicate n zb)).toArray) (v1 := .int .i64 (n : Int)) (v2 := .int .i64 (n : Int)) rfl (by kernel_rfl) (by kernel_rfl) (fun w1 => run_mkRows (by omega) (by omega))) (fun _ _ => List.nil_sublist _) ?_
      rintro lb ⟨hlb, nlb⟩
      refine CfgA.pure [6] [(0, false, some (.agg #[.slice (some ⟨sb, 0, none⟩) n n, .slice (some ⟨lb, 0, none⟩) n n, .slice (some ⟨wb, 0, none⟩) n n, .int .i64 0, .int .i64 (-1), .bool false]))] none (l' := #[true, true, true, true, true, true, true, false, false]) (by kernel_rfl) (by kernel_rfl) (.cons _ (.cons _ (.cons _ .slnil))) 2 rfl (Γ' := [(15, [], .agg #[.slice (some ⟨sb, 0, none⟩) n n, .slice (some ⟨lb, 0, none⟩) n n, .slice (some ⟨wb, 0, none⟩) n n, .int .i64 0, .int .i64 (-1), .bool false]), (12, [], .slice (some ⟨lb, 0, none⟩) n n), (14, [], .slice (some ⟨wb, 0, none⟩) n n), (10, [], .slice (some ⟨sb, 0, none⟩) n n), (13, [], .int .i64 (n : Int)), (11, [], .int .i64 (n : Int)), (9, [], .int .i64 (n : Int)), (8, [], .bool ((decide ((n : Int) < (64 : Int))) || (decide ((n : Int) > (4096 : Int))))), (0, [], .int .i64 (n : Int))]) (nd := (fun S => [(∀ w1, S w1 → (Instr.build 51 #[(0, .slice (some ⟨sb, 0, none⟩) n n), (1, .slice (some ⟨lb, 0, none⟩) n n), (2, .slice (some ⟨wb, 0, none⟩) n n), (3, .int .i64 0), (4, .int .i64 (-1)), (5, .bool false)]).run Try.prog w1 = .ok (.agg #[.slice (some ⟨sb, 0, none⟩) n n, .slice (some ⟨lb, 0, none⟩) n n, .slice (some ⟨wb, 0, none⟩) n n, .int .i64 0, .int .i64 (-1), .bool false]) w1)])) (fun _ => by kernel_rfl) ⟨(fun _ _ => by kernel_rfl), trivial⟩ ?_
      refine CfgA.eff 7 (o := _) rfl (by kernel_rfl) (fuel' := 1) rfl (by kernel_rfl) (by kernel_rfl) (Eff.box (v := .agg #[.slice (some ⟨sb, 0, none⟩) n n, .slice (some ⟨lb, 0, none⟩) n n, .slice (some ⟨wb, 0, none⟩) n n, .int .i64 0, .int .i64 (-1), .bool false]) rfl (by kernel_rfl)) (fun _ _ => List.nil_sublist _) ?_
      rintro r ⟨hr, nr⟩
      refine CfgA.pure [8] [] (some [2]) (l' := #[true, true, true, true, true, true, true, true, true]) (by kernel_rfl) (by kernel_rfl) (.cons _ (.cons _ (.cons _ (.cons _ .slnil)))) 0 rfl (Γ' := [(2, [], .pointer (some ⟨r, 0, none⟩))]) (nd := (fun _ => [])) (fun _ => by kernel_rfl) trivial ?_
      refine CfgA.done (by kernel_rfl) ?_
      refine Cfg.ret rfl (rs := [.tmp 2]) rfl [.pointer (some ⟨r, 0, none⟩)] ⟨by kernel_rfl, trivial⟩ (fun w1 hp => ?_)
      refine ⟨⟨r, sb, lb, wb⟩, rfl, [], ?_⟩
      show HP w [] [] [(r, Obj.cells #[.slice (some ⟨sb, 0, none⟩) (List.replicate n zb).length (List.replicate n zb).length, .slice (some ⟨lb, 0, none⟩) (List.replicate n zb).length (List.replicate n zb).length, .slice (some ⟨wb, 0, none⟩) (List.replicate n false).length (List.replicate n false).length, .int .i64 0, .int .i64 (-1), .bool false] 51 (0, 0)), (sb, Obj.cells (rows (List.replicate n zb)).toArray 33 (0, 0)), (lb, Obj.cells (rows (List.replicate n zb)).toArray 33 (0, 0)), (wb, Obj.cells (rb (List.replicate n false)).toArray 4 (0, 0))] w1
      rw [show (List.replicate n zb).length = n from List.length_replicate, show (List.replicate n false).length = n from List.length_replicate]
      exact hp.perm (List.Perm.trans (List.Perm.cons _ (List.Perm.cons _ (List.Perm.swap _ _ _))) (List.Perm.trans (List.Perm.cons _ (List.Perm.swap _ _ _)) (List.Perm.refl _)))
  ·
    refine CfgI.eff (o := _) rfl (by kernel_rfl) (by kernel_rfl) (Eff.makeRow (e := 33) (n := n) (cells := (rows (List.replicate n zb)).toArray) (v1 := .int .i64 (n : Int)) (v2 := .int .i64 (n : Int)) rfl (by kernel_rfl) (by kernel_rfl) (fun w1 => run_mkRows (by omega) (by omega))) (fun _ _ => List.nil_sublist _) ?_
    rintro lb ⟨hlb, nlb⟩
    refine CfgA.two 1 5 (by kernel_rfl) (fuel' := 4) rfl ?_ ?_
    ·
      refine CfgI.eff (o := _) rfl (by kernel_rfl) (by kernel_rfl) (Eff.makeRow (e := 33) (n := n) (cells := (rows (List.replicate n zb)).toArray) (v1 := .int .i64 (n : Int)) (v2 := .int .i64 (n : Int)) rfl (by kernel_rfl) (by kernel_rfl) (fun w1 => run_mkRows (by omega) (by omega))) (fun _ _ => List.nil_sublist _) ?_
      rintro sb ⟨hsb, nsb⟩
      refine CfgA.eff 5 (o := _) rfl (by kernel_rfl) (fuel' := 3) rfl (by kernel_rfl) (by kernel_rfl) (Eff.makeRow (e := 4) (n := n) (cells := (rb (List.replicate n false)).toArray) (v1 := .int .i64 (n : Int)) (v2 := .int .i64 (n : Int)) rfl (by kernel_rfl) (by kernel_rfl) (fun w1 => run_mkBs (by omega) (by omega))) (fun _ _ => List.nil_sublist _) ?_
      rintro wb ⟨hwb, nwb⟩
      refine CfgA.pure [6] [(0, false, some (.agg #[.slice (some ⟨sb, 0, none⟩) n n, .slice (some ⟨lb, 0, none⟩) n n, .slice (some ⟨wb, 0, none⟩) n n, .int .i64 0, .int .i64 (-1), .bool false]))] none (l' := #[true, true, true, true, true, true, true, false, false]) (by kernel_rfl) (by kernel_rfl) (.cons _ (.cons _ (.cons _ .slnil))) 2 rfl (Γ' := [(15, [], .agg #[.slice (some ⟨sb, 0, none⟩) n n, .slice (some ⟨lb, 0, none⟩) n n, .slice (some ⟨wb, 0, none⟩) n n, .int .i64 0, .int .i64 (-1), .bool false]), (14, [], .slice (some ⟨wb, 0, none⟩) n n), (10, [], .slice (some ⟨sb, 0, none⟩) n n), (12, [], .slice (some ⟨lb, 0, none⟩) n n), (13, [], .int .i64 (n : Int)), (11, [], .int .i64 (n : Int)), (9, [], .int .i64 (n : Int)), (8, [], .bool ((decide ((n : Int) < (64 : Int))) || (decide ((n : Int) > (4096 : Int))))), (0, [], .int .i64 (n : Int))]) (nd := (fun S => [(∀ w1, S w1 → (Instr.build 51 #[(0, .slice (some ⟨sb, 0, none⟩) n n), (1, .slice (some ⟨lb, 0, none⟩) n n), (2, .slice (some ⟨wb, 0, none⟩) n n), (3, .int .i64 0), (4, .int .i64 (-1)), (5, .bool false)]).run Try.prog w1 = .ok (.agg #[.slice (some ⟨sb, 0, none⟩) n n, .slice (some ⟨lb, 0, none⟩) n n, .slice (some ⟨wb, 0, none⟩) n n, .int .i64 0, .int .i64 (-1), .bool false]) w1)])) (fun _ => by kernel_rfl) ⟨(fun _ _ => by kernel_rfl), trivial⟩ ?_
      refine CfgA.eff 7 (o := _) rfl (by kernel_rfl) (fuel' := 1) rfl (by kernel_rfl) (by kernel_rfl) (Eff.box (v := .agg #[.slice (some ⟨sb, 0, none⟩) n n, .slice (some ⟨lb, 0, none⟩) n n, .slice (some ⟨wb, 0, none⟩) n n, .int .i64 0, .int .i64 (-1), .bool false]) rfl (by kernel_rfl)) (fun _ _ => List.nil_sublist _) ?_
      rintro r ⟨hr, nr⟩
      refine CfgA.pure [8] [] (some [2]) (l' := #[true, true, true, true, true, true, true, true, true]) (by kernel_rfl) (by kernel_rfl) (.cons _ (.cons _ (.cons _ (.cons _ .slnil)))) 0 rfl (Γ' := [(2, [], .pointer (some ⟨r, 0, none⟩))]) (nd := (fun _ => [])) (fun _ => by kernel_rfl) trivial ?_
      refine CfgA.done (by kernel_rfl) ?_
      refine Cfg.ret rfl (rs := [.tmp 2]) rfl [.pointer (some ⟨r, 0, none⟩)] ⟨by kernel_rfl, trivial⟩ (fun w1 hp => ?_)
      refine ⟨⟨r, sb, lb, wb⟩, rfl, [], ?_⟩
      show HP w [] [] [(r, Obj.cells #[.slice (some ⟨sb, 0, none⟩) (List.replicate n zb).length (List.replicate n zb).length, .slice (some ⟨lb, 0, none⟩) (List.replicate n zb).length (List.replicate n zb).length, .slice (some ⟨wb, 0, none⟩) (List.replicate n false).length (List.replicate n false).length, .int .i64 0, .int .i64 (-1), .bool false] 51 (0, 0)), (sb, Obj.cells (rows (List.replicate n zb)).toArray 33 (0, 0)), (lb, Obj.cells (rows (List.replicate n zb)).toArray 33 (0, 0)), (wb, Obj.cells (rb (List.replicate n false)).toArray 4 (0, 0))] w1
      rw [show (List.replicate n zb).length = n from List.length_replicate, show (List.replicate n false).length = n from List.length_replicate]
      exact hp.perm (List.Perm.trans (List.Perm.cons _ (List.Perm.swap _ _ _)) (List.Perm.trans (List.Perm.cons _ (List.Perm.cons _ (List.Perm.swap _ _ _))) (List.Perm.refl _)))
    ·
      refine CfgI.eff (o := _) rfl (by kernel_rfl) (by kernel_rfl) (Eff.makeRow (e := 4) (n := n) (cells := (rb (List.replicate n false)).toArray) (v1 := .int .i64 (n : Int)) (v2 := .int .i64 (n : Int)) rfl (by kernel_rfl) (by kernel_rfl) (fun w1 => run_mkBs (by omega) (by omega))) (fun _ _ => List.nil_sublist _) ?_
      rintro wb ⟨hwb, nwb⟩
      refine CfgA.eff 1 (o := _) rfl (by kernel_rfl) (fuel' := 3) rfl (by kernel_rfl) (by kernel_rfl) (Eff.makeRow (e := 33) (n := n) (cells := (rows (List.replicate n zb)).toArray) (v1 := .int .i64 (n : Int)) (v2 := .int .i64 (n : Int)) rfl (by kernel_rfl) (by kernel_rfl) (fun w1 => run_mkRows (by omega) (by omega))) (fun _ _ => List.nil_sublist _) ?_
      rintro sb ⟨hsb, nsb⟩
      refine CfgA.pure [6] [(0, false, some (.agg #[.slice (some ⟨sb, 0, none⟩) n n, .slice (some ⟨lb, 0, none⟩) n n, .slice (some ⟨wb, 0, none⟩) n n, .int .i64 0, .int .i64 (-1), .bool false]))] none (l' := #[true, true, true, true, true, true, true, false, false]) (by kernel_rfl) (by kernel_rfl) (.cons _ (.cons _ (.cons _ .slnil))) 2 rfl (Γ' := [(15, [], .agg #[.slice (some ⟨sb, 0, none⟩) n n, .slice (some ⟨lb, 0, none⟩) n n, .slice (some ⟨wb, 0, none⟩) n n, .int .i64 0, .int .i64 (-1), .bool false]), (10, [], .slice (some ⟨sb, 0, none⟩) n n), (14, [], .slice (some ⟨wb, 0, none⟩) n n), (12, [], .slice (some ⟨lb, 0, none⟩) n n), (13, [], .int .i64 (n : Int)), (11, [], .int .i64 (n : Int)), (9, [], .int .i64 (n : Int)), (8, [], .bool ((decide ((n : Int) < (64 : Int))) || (decide ((n : Int) > (4096 : Int))))), (0, [], .int .i64 (n : Int))]) (nd := (fun S => [(∀ w1, S w1 → (Instr.build 51 #[(0, .slice (some ⟨sb, 0, none⟩) n n), (1, .slice (some ⟨lb, 0, none⟩) n n), (2, .slice (some ⟨wb, 0, none⟩) n n), (3, .int .i64 0), (4, .int .i64 (-1)), (5, .bool false)]).run Try.prog w1 = .ok (.agg #[.slice (some ⟨sb, 0, none⟩) n n, .slice (some ⟨lb, 0, none⟩) n n, .slice (some ⟨wb, 0, none⟩) n n, .int .i64 0, .int .i64 (-1), .bool false]) w1)])) (fun _ => by kernel_rfl) ⟨(fun _ _ => by kernel_rfl), trivial⟩ ?_
      refine CfgA.eff 7 (o := _) rfl (by kernel_rfl) (fuel' := 1) rfl (by kernel_rfl) (by kernel_rfl) (Eff.box (v := .agg #[.slice (some ⟨sb, 0, none⟩) n n, .slice (some ⟨lb, 0, none⟩) n n, .slice (some ⟨wb, 0, none⟩) n n, .int .i64 0, .int .i64 (-1), .bool false]) rfl (by kernel_rfl)) (fun _ _ => List.nil_sublist _) ?_
      rintro r ⟨hr, nr⟩
      refine CfgA.pure [8] [] (some [2]) (l' := #[true, true, true, true, true, true, true, true, true]) (by kernel_rfl) (by kernel_rfl) (.cons _ (.cons _ (.cons _ (.cons _ .slnil)))) 0 rfl (Γ' := [(2, [], .pointer (some ⟨r, 0, none⟩))]) (nd := (fun _ => [])) (fun _ => by kernel_rfl) trivial ?_
      refine CfgA.done (by kernel_rfl) ?_
      refine Cfg.ret rfl (rs := [.tmp 2]) rfl [.pointer (some ⟨r, 0, none⟩)] ⟨by kernel_rfl, trivial⟩ (fun w1 hp => ?_)
      refine ⟨⟨r, sb, lb, wb⟩, rfl, [], ?_⟩
      show HP w [] [] [(r, Obj.cells #[.slice (some ⟨sb, 0, none⟩) (List.replicate n zb).length (List.replicate n zb).length, .slice (some ⟨lb, 0, none⟩) (List.replicate n zb).length (List.replicate n zb).length, .slice (some ⟨wb, 0, none⟩) (List.replicate n false).length (List.replicate n false).length, .int .i64 0, .int .i64 (-1), .bool false] 51 (0, 0)), (sb, Obj.cells (rows (List.replicate n zb)).toArray 33 (0, 0)), (lb, Obj.cells (rows (List.replicate n zb)).toArray 33 (0, 0)), (wb, Obj.cells (rb (List.replicate n false)).toArray 4 (0, 0))] w1
      rw [show (List.replicate n zb).length = n from List.length_replicate, show (List.replicate n false).length = n from List.length_replicate]
      exact hp.perm (List.Perm.trans (List.Perm.cons _ (List.Perm.cons _ (List.Perm.swap _ _ _))) (List.Perm.refl _))
  ·
    refine CfgI.eff (o := _) rfl (by kernel_rfl) (by kernel_rfl) (Eff.makeRow (e := 4) (n := n) (cells := (rb (List.replicate n false)).toArray) (v1 := .int .i64 (n : Int)) (v2 := .int .i64 (n : Int)) rfl (by kernel_rfl) (by kernel_rfl) (fun w1 => run_mkBs (by omega) (by omega))) (fun _ _ => List.nil_sublist _) ?_
    rintro wb ⟨hwb, nwb⟩
    refine CfgA.two 1 3 (by kernel_rfl) (fuel' := 4) rfl ?_ ?_
    ·
      refine CfgI.eff (o := _) rfl (by kernel_rfl) (by kernel_rfl) (Eff.makeRow (e := 33) (n := n) (cells := (rows (List.replicate n zb)).toArray) (v1 := .int .i64 (n : Int)) (v2 := .int .i64 (n : Int)) rfl (by kernel_rfl) (by kernel_rfl) (fun w1 => run_mkRows (by omega) (by omega))) (fun _ _ => List.nil_sublist _) ?_
      rintro sb ⟨hsb, nsb⟩
      refine CfgA.eff 3 (o := _) rfl (by kernel_rfl) (fuel' := 3) rfl (by kernel_rfl) (by kernel_rfl) (Eff.makeRow (e := 33) (n := n) (cells := (rows (List.replicate n zb)).toArray) (v1 := .int .i64 (n : Int)) (v2 := .int .i64 (n : Int)) rfl (by kernel_rfl) (by kernel_rfl) (fun w1 => run_mkRows (by omega) (by omega))) (fun _ _ => List.nil_sublist _) ?_
      rintro lb ⟨hlb, nlb⟩
      refine CfgA.pure [6] [(0, false, some (.agg #[.slice (some ⟨sb, 0, none⟩) n n, .slice (some ⟨lb, 0, none⟩) n n, .slice (some ⟨wb, 0, none⟩) n n, .int .i64 0, .int .i64 (-1), .bool false]))] none (l' := #[true, true, true, true, true, true, true, false, false]) (by kernel_rfl) (by kernel_rfl) (.cons _ (.cons _ (.cons _ .slnil))) 2 rfl (Γ' := [(15, [], .agg #[.slice (some ⟨sb, 0, none⟩) n n, .slice (some ⟨lb, 0, none⟩) n n, .slice (some ⟨wb, 0, none⟩) n n, .int .i64 0, .int .i64 (-1), .bool false]), (12, [], .slice (some ⟨lb, 0, none⟩) n n), (10, [], .slice (some ⟨sb, 0, none⟩) n n), (14, [], .slice (some ⟨wb, 0, none⟩) n n), (13, [], .int .i64 (n : Int)), (11, [], .int .i64 (n : Int)), (9, [], .int .i64 (n : Int)), (8, [], .bool ((decide ((n : Int) < (64 : Int))) || (decide ((n : Int) > (4096 : Int))))), (0, [], .int .i64 (n : Int))]) (nd := (fun S => [(∀ w1, S w1 → (Instr.build 51 #[(0, .slice (some ⟨sb, 0, none⟩) n n), (1, .slice (some ⟨lb, 0, none⟩) n n), (2, .slice (some ⟨wb, 0, none⟩) n n), (3, .int .i64 0), (4, .int .i64 (-1)), (5, .bool false)]).run Try.prog w1 = .ok (.agg #[.slice (some ⟨sb, 0, none⟩) n n, .slice (some ⟨lb, 0, none⟩) n n, .slice (some ⟨wb, 0, none⟩) n n, .int .i64 0, .int .i64 (-1), .bool false]) w1)])) (fun _ => by kernel_rfl) ⟨(fun _ _ => by kernel_rfl), trivial⟩ ?_
      refine CfgA.eff 7 (o := _) rfl (by kernel_rfl) (fuel' := 1) rfl (by kernel_rfl) (by kernel_rfl) (Eff.box (v := .agg #[.slice (some ⟨sb, 0, none⟩) n n, .slice (some ⟨lb, 0, none⟩) n n, .slice (some ⟨wb, 0, none⟩) n n, .int .i64 0, .int .i64 (-1), .bool false]) rfl (by kernel_rfl)) (fun _ _ => List.nil_sublist _) ?_
      rintro r ⟨hr, nr⟩
      refine CfgA.pure [8] [] (some [2]) (l' := #[true, true, true, true, true, true, true, true, true]) (by kernel_rfl) (by kernel_rfl) (.cons _ (.cons _ (.cons _ (.cons _ .slnil)))) 0 rfl (Γ' := [(2, [], .pointer (some ⟨r, 0, none⟩))]) (nd := (fun _ => [])) (fun _ => by kernel_rfl) trivial ?_
      refine CfgA.done (by kernel_rfl) ?_
      refine Cfg.ret rfl (rs := [.tmp 2]) rfl [.pointer (some ⟨r, 0, none⟩)] ⟨by kernel_rfl, trivial⟩ (fun w1 hp => ?_)
      refine ⟨⟨r, sb, lb, wb⟩, rfl, [], ?_⟩
      show HP w [] [] [(r, Obj.cells #[.slice (some ⟨sb, 0, none⟩) (List.replicate n zb).length (List.replicate n zb).length, .slice (some ⟨lb, 0, none⟩) (List.replicate n zb).length (List.replicate n zb).length, .slice (some ⟨wb, 0, none⟩) (List.replicate n false).length (List.replicate n false).length, .int .i64 0, .int .i64 (-1), .bool false] 51 (0, 0)), (sb, Obj.cells (rows (List.replicate n zb)).toArray 33 (0, 0)), (lb, Obj.cells (rows (List.replicate n zb)).toArray 33 (0, 0)), (wb, Obj.cells (rb (List.replicate n false)).toArray 4 (0, 0))] w1
      rw [show (List.replicate n zb).length = n from List.length_replicate, show (List.replicate n false).length = n from List.length_replicate]
      exact hp.perm (List.Perm.trans (List.Perm.cons _ (List.Perm.swap _ _ _)) (List.Perm.refl _))
    ·
      refine CfgI.eff (o := _) rfl (by kernel_rfl) (by kernel_rfl) (Eff.makeRow (e := 33) (n := n) (cells := (rows (List.replicate n zb)).toArray) (v1 := .int .i64 (n : Int)) (v2 := .int .i64 (n : Int)) rfl (by kernel_rfl) (by kernel_rfl) (fun w1 => run_mkRows (by omega) (by omega))) (fun _ _ => List.nil_sublist _) ?_
      rintro lb ⟨hlb, nlb⟩
      refine CfgA.eff 1 (o := _) rfl (by kernel_rfl) (fuel' := 3) rfl (by kernel_rfl) (by kernel_rfl) (Eff.makeRow (e := 33) (n := n) (cells := (rows (List.replicate n zb)).toArray) (v1 := .int .i64 (n : Int)) (v2 := .int .i64 (n : Int)) rfl (by kernel_rfl) (by kernel_rfl) (fun w1 => run_mkRows (by omega) (by omega))) (fun _ _ => List.nil_sublist _) ?_
      rintro sb ⟨hsb, nsb⟩
      refine CfgA.pure [6] [(0, false, some (.agg #[.slice (some ⟨sb, 0, none⟩) n n, .slice (some ⟨lb, 0, none⟩) n n, .slice (some ⟨wb, 0, none⟩) n n, .int .i64 0, .int .i64 (-1), .bool false]))] none (l' := #[true, true, true, true, true, true, true, false, false]) (by kernel_rfl) (by kernel_rfl) (.cons _ (.cons _ (.cons _ .slnil))) 2 rfl (Γ' := [(15, [], .agg #[.slice (some ⟨sb, 0, none⟩) n n, .slice (some ⟨lb, 0, none⟩) n n, .slice (some ⟨wb, 0, none⟩) n n, .int .i64 0, .int .i64 (-1), .bool false]), (10, [], .slice (some ⟨sb, 0, none⟩) n n), (12, [], .slice (some ⟨lb, 0, none⟩) n n), (14, [], .slice (some ⟨wb, 0, none⟩) n n), (13, [], .int .i64 (n : Int)), (11, [], .int .i64 (n : Int)), (9, [], .int .i64 (n : Int)), (8, [], .bool ((decide ((n : Int) < (64 : Int))) || (decide ((n : Int) > (4096 : Int))))), (0, [], .int .i64 (n : Int))]) (nd := (fun S => [(∀ w1, S w1 → (Instr.build 51 #[(0, .slice (some ⟨sb, 0, none⟩) n n), (1, .slice (some ⟨lb, 0, none⟩) n n), (2, .slice (some ⟨wb, 0, none⟩) n n), (3, .int .i64 0), (4, .int .i64 (-1)), (5, .bool false)]).run Try.prog w1 = .ok (.agg #[.slice (some ⟨sb, 0, none⟩) n n, .slice (some ⟨lb, 0, none⟩) n n, .slice (some ⟨wb, 0, none⟩) n n, .int .i64 0, .int .i64 (-1), .bool false]) w1)])) (fun _ => by kernel_rfl) ⟨(fun _ _ => by kernel_rfl), trivial⟩ ?_
      refine CfgA.eff 7 (o := _) rfl (by kernel_rfl) (fuel' := 1) rfl (by kernel_rfl) (by kernel_rfl) (Eff.box (v := .agg #[.slice (some ⟨sb, 0, none⟩) n n, .slice (some ⟨lb, 0, none⟩) n n, .slice (some ⟨wb, 0, none⟩) n n, .int .i64 0, .int .i64 (-1), .bool false]) rfl (by kernel_rfl)) (fun _ _ => List.nil_sublist _) ?_
      rintro r ⟨hr, nr⟩
      refine CfgA.pure [8] [] (some [2]) (l' := #[true, true, true, true, true, true, true, true, true]) (by kernel_rfl) (by kernel_rfl) (.cons _ (.cons _ (.cons _ (.cons _ .slnil)))) 0 rfl (Γ' := [(2, [], .pointer (some ⟨r, 0, none⟩))]) (nd := (fun _ => [])) (fun _ => by kernel_rfl) trivial ?_
      refine CfgA.done (by kernel_rfl) ?_
      refine Cfg.ret rfl (rs := [.tmp 2]) rfl [.pointer (some ⟨r, 0, none⟩)] ⟨by kernel_rfl, trivial⟩ (fun w1 hp => ?_)
      refine ⟨⟨r, sb, lb, wb⟩, rfl, [], ?_⟩
      show HP w [] [] [(r, Obj.cells #[.slice (some ⟨sb, 0, none⟩) (List.replicate n zb).length (List.replicate n zb).length, .slice (some ⟨lb, 0, none⟩) (List.replicate n zb).length (List.replicate n zb).length, .slice (some ⟨wb, 0, none⟩) (List.replicate n false).length (List.replicate n false).length, .int .i64 0, .int .i64 (-1), .bool false] 51 (0, 0)), (sb, Obj.cells (rows (List.replicate n zb)).toArray 33 (0, 0)), (lb, Obj.cells (rows (List.replicate n zb)).toArray 33 (0, 0)), (wb, Obj.cells (rb (List.replicate n false)).toArray 4 (0, 0))] w1
      rw [show (List.replicate n zb).length = n from List.length_replicate, show (List.replicate n false).length = n from List.length_replicate]
      exact hp.perm (List.Perm.refl _)

set_option maxRecDepth 100000 in
theorem rNewN (q : Int) (w : World) (hq : q < 64 ∨ q > 4096) :
    Calls Try.prog 18 #[.int .i64 q] w fun e w' => e = .returned (.pointer none) ∧ Ext [] w w' := by
  refine enter (vs := [.int .i64 q]) [] [] [] Try.func18 rfl (by kernel_rfl) (HP.start w) ?_
  refine Cfg.reg rfl [0] [] (Γ' := [(0, [], .int .i64 q)]) (nd := (fun _ => [])) (fun _ => by kernel_rfl) trivial ?_
  refine Cfg.reg rfl [0, 8] [] (Γ' := [(8, [], .bool ((decide (q < (64 : Int))) || (decide (q > (4096 : Int))))), (0, [], .int .i64 q)]) (nd := (fun _ => [])) (fun _ => by kernel_rfl) trivial ?_
  refine Cfg.condT rfl (b := ((decide (q < (64 : Int))) || (decide (q > (4096 : Int))))) (by kernel_rfl) (by rw [Bool.or_eq_true]; exact hq.elim (fun h => .inl (decide_eq_true h)) (fun h => .inr (decide_eq_true h))) ?_
  refine Cfg.reg rfl [2] [] (Γ' := [(2, [], .pointer none)]) (nd := (fun _ => [])) (fun _ => by kernel_rfl) trivial ?_
  refine Cfg.ret rfl (rs := [.tmp 2]) rfl [.pointer none] ⟨by kernel_rfl, trivial⟩ (fun w1 hp => ?_)
  exact ⟨rfl, hp.ext⟩

end Go.Proofs.Ytnoipbbcpiaemaa
