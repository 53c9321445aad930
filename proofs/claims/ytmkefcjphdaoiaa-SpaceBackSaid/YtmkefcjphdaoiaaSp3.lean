/- space: runs are claimed, or given, all or none. Conditions: the space has sectors, at most 4096. -/
import Derived.Test.YtmkefcjphdaoiaaSp2
namespace Go.Proofs.Ytmkefcjphdaoiaa
open K
set_option linter.unusedVariables false

/-- A space's blocks: the struct, the row. -/
def spC (s : Nat) (f : Int) (x : Nat × Nat × List Value) (fr : List Bool) : List (Nat × Obj) := [(s, .cells #[.int .i64 f, .slice (some ⟨x.1, 0, none⟩) fr.length x.2.1] 94 (0, 0)), (x.1, .cells (rb fr ++ x.2.2).toArray 4 (0, 0))]
def ra (l : List (Int × Int)) (i : Nat) : Int := (l.getD i (0, 0)).1
def rl (l : List (Int × Int)) (i : Nat) : Int := (l.getD i (0, 0)).2
def rcell (l : List (Int × Int)) (j : Nat) : Value := .int .i64 (if j % 2 = 0 then ra l (j / 2) else rl l (j / 2))
theorem load_run {P : Program} {w : World} {b off : Nat} {ty : TypeId} {d : TypeDesc} {v0 v1 : Value} (hu : P.underlying ty = some d) (hd : (match d with | .struct _ | .array _ _ => true | _ => false) = true) (hi : (P.info? ty).map (·.size) = some 2)
    (h0 : w.cell? ⟨b, off, none⟩ = some v0) (h1 : w.cell? ⟨b, off + 1, none⟩ = some v1) : (loadVar ty ⟨b, off, none⟩).run P w = .ok (.agg #[v0, v1]) w := by
  obtain ⟨inf, hinf, hs⟩ := Option.map_eq_some_iff.1 hi
  have h1 := K.run_loadCells (P := P) (w := w) (b := b) (off := off) (n := 2) (fun j => if j = 0 then v0 else v1) (fun j hj => by
    match j, hj with
    | 0, _ => exact h0
    | 1, _ => exact h1)
  have h3 : (isAgg ty).run P w = .ok true w := by
    simp only [isAgg, Sem.run_bind, run_underlying' hu, Result.andThen_ok]
    cases d <;> simp_all
  have h4 : (sizeOf ty).run P w = .ok 2 w := by rw [run_sizeOf' hinf, hs]
  have h2 : ((List.range 2).map fun j => if j = 0 then v0 else v1).toArray = #[v0, v1] := rfl
  rw [h2] at h1
  simp [loadVar, h3, h4, h1]
theorem run_at {w0 w : World} {M : List Nat} {R O : List (Nat × Obj)} (h : HP w0 M R O w) {sb off : Nat} {cs : Array Value} {te : TypeId} {fre : Nat × Nat} (hm : (sb, Obj.cells cs te fre) ∈ R) {l : List (Int × Int)} (hcs : ∀ j, j < 2 * l.length → cs[off + j]? = some (rcell l j)) {i : Nat} (hi : i < l.length) :
    (loadVar 27 ⟨sb, off + i * 2, none⟩).run Try.prog w = .ok (.agg #[.int .i64 (ra l i), .int .i64 (rl l i)]) w := by
  refine load_run Try.underlying27 rfl (by kernel_rfl) ?_ ?_
  · rw [cell_cells (h.ro _ hm), hcs (i * 2) (by omega)]
    unfold rcell
    rw [if_pos (by omega), show i * 2 / 2 = i by omega]
  · rw [cell_cells (h.ro _ hm), Nat.add_assoc, hcs (i * 2 + 1) (by omega)]
    unfold rcell
    rw [if_neg (by omega), show (i * 2 + 1) / 2 = i by omega]
def loopF (to : Bool) (k : Nat) : Nat → Nat → List Bool → Nat × List Bool
  | 0, _, nx => (0, nx)
  | c + 1, n, nx => if nx.length ≤ k + n then (2, nx) else if nx.getD (k + n) false == to then (17, nx) else loopF to k c (n + 1) (nx.set (k + n) to)
def turnF (f : Int) (nn : Nat) (to : Bool) : List (Int × Int) → List Bool → Nat × List Bool
  | [], nx => (0, nx)
  | r :: l, nx => if r.2 < 1 then (2, nx) else if inP f nn r.1 then (if (loopF to (r.1 - f).toNat r.2.toNat 0 nx).1 = 0 then turnF f nn to l (loopF to (r.1 - f).toNat r.2.toNat 0 nx).2 else loopF to (r.1 - f).toNat r.2.toNat 0 nx) else (2, nx)
def turnR (f : Int) (to : Bool) (l : List (Int × Int)) (fr : List Bool) : List Bool := if (turnF f fr.length to l fr).1 = 0 then (turnF f fr.length to l fr).2 else fr
theorem turn_step {f : Int} {nn : Nat} {to : Bool} {l : List (Int × Int)} {nx : List Bool} {i : Nat} (hi : i < l.length) : turnF f nn to (l.drop i) nx = if rl l i < 1 then (2, nx) else if inP f nn (ra l i) then (if (loopF to (ra l i - f).toNat (rl l i).toNat 0 nx).1 = 0 then turnF f nn to (l.drop (i + 1)) (loopF to (ra l i - f).toNat (rl l i).toNat 0 nx).2 else loopF to (ra l i - f).toNat (rl l i).toNat 0 nx) else (2, nx) := by
  rw [List.drop_eq_getElem_cons hi, turnF]
  have e : l.getD i (0, 0) = l[i] := by simp [List.getElem?_eq_getElem hi]
  unfold ra rl
  rw [e]
theorem loop_step {to : Bool} {k m n : Nat} {ny : List Bool} (h : n < m) : loopF to k (m - n) n ny = if ny.length ≤ k + n then (2, ny) else if ny.getD (k + n) false == to then (17, ny) else loopF to k (m - (n + 1)) (n + 1) (ny.set (k + n) to) := by
  rw [show m - n = (m - (n + 1)) + 1 by omega, loopF]
theorem loop_end {to : Bool} {k m n : Nat} {ny : List Bool} (h : m ≤ n) : loopF to k (m - n) n ny = (0, ny) := by
  rw [show m - n = 0 by omega, loopF]
theorem rb_set (ny : List Bool) (j2 : List Value) {i : Nat} (h : i < ny.length) (b : Bool) : (rb ny ++ j2).toArray.setIfInBounds i (.bool b) = (rb (ny.set i b) ++ j2).toArray := by
  rw [List.setIfInBounds_toArray, List.set_append_left _ _ (by rw [rb_len]; exact h)]
  unfold rb
  rw [List.map_set]
theorem rb_cell (ny : List Bool) (j2 : List Value) {i : Nat} (h : i < ny.length) : (rb ny ++ j2).toArray[i]? = some (.bool (ny.getD i false)) := by
  rw [List.getElem?_toArray, List.getElem?_append_left (by rw [rb_len]; exact h), rb_get h]
theorem two_one {a b : Value} (h1 : one a = true) (h2 : one b = true) : ∀ v ∈ (#[a, b] : Array Value).toList, one v = true := by
  intro v hv
  simp at hv
  rcases hv with rfl | rfl <;> assumption

set_option maxRecDepth 100000 in
theorem turnC (s b cp : Nat) (jk : List Value) (f : Int) (fr : List Bool) (to : Bool) (la : Option Addr) (cap : Nat) (l : List (Int × Int)) (Rl : List (Nat × Obj)) (w : World) (hf : I64 f) (hm : fr.length ≤ 4096) (hn : 0 < fr.length) (hI : InS Rl la (2 * l.length) (rcell l)) (hl : l.length ≤ maxLen) (h1 : ∀ i, I64 (ra l i)) (h2 : ∀ i, I64 (rl l i)) (hA : Has w (spC s f (b, cp, jk) fr)) (hd : ((spC s f (b, cp, jk) fr).map (·.1)).Nodup) (hRl : Has w Rl) (hnr : ∀ e ∈ Rl, e.1 ∉ (spC s f (b, cp, jk) fr).map (·.1)) :
    Calls Try.prog 53 #[.pointer (some ⟨s, 0, none⟩), .bool to, .slice la l.length cap] w fun e w' => ∃ x : Nat × Nat × List Value, e = .returned (.int .i64 ((turnF f fr.length to l fr).1 : Int)) ∧ ∃ R1, HP w [s, b] R1 (spC s f x (turnR f to l fr)) w' := by
  unfold maxLen at hl
  unfold I64 at hf h1 h2
  refine enter (vs := [.pointer (some ⟨s, 0, none⟩), .bool to, .slice la l.length cap]) [s, b] Rl [(s, .cells #[.int .i64 f, .slice (some ⟨b, 0, none⟩) fr.length cp] 94 (0, 0)), (b, .cells ((rb fr ++ jk).toArray) 4 (0, 0))] Try.func53 rfl (by kernel_rfl) (HP.ofL hA hd hRl hnr) ?_
  refine Cfg.reg rfl [0, 1, 2] [] (Γ' := [(0, [], .pointer (some ⟨s, 0, none⟩)), (1, [], .bool to), (2, [], .slice la l.length cap)]) (nd := (fun _ => [])) (fun _ => by kernel_rfl) trivial ?_
  refine Cfg.reg rfl [0, 1, 2, 14] [] (Γ' := [(14, [], .bool false), (0, [], .pointer (some ⟨s, 0, none⟩)), (1, [], .bool to), (2, [], .slice la l.length cap)]) (nd := (fun _ => [])) (fun _ => by kernel_rfl) trivial ?_
  refine Cfg.condF rfl (b := false) (by kernel_rfl) rfl ?_
  refine Cfg.begL rfl ?_
  refine CfgL.pure 4 [(0, false, none), (0, false, none), (0, false, none), (0, false, some (.slice (some ⟨b, 0, none⟩) fr.length cp))] none (Γ' := [(18, [], .slice (some ⟨b, 0, none⟩) fr.length cp), (17, [], .pointer (some ⟨s, 1, none⟩)), (16, [], .pointer (some ⟨s, 0, none⟩)), (15, [], .pointer (some ⟨s, 0, none⟩)), (14, [], .bool false), (0, [], .pointer (some ⟨s, 0, none⟩)), (1, [], .bool to), (2, [], .slice la l.length cap)]) (nd := (fun S => [(∀ w1, S w1 → w1.cell? ⟨s, 1, none⟩ = some (.slice (some ⟨b, 0, none⟩) fr.length cp))])) (by kernel_rfl) (fun _ => by kernel_rfl) ⟨(fun w1 h => h.ocell 0 rfl rfl), trivial⟩ ?_
  refine CfgL.eff (o := _) rfl (by kernel_rfl) (by kernel_rfl) (Eff.callOF (vs := [.slice (some ⟨b, 0, none⟩) fr.length cp]) 4 1 fr.length (rb fr) [] [(s, .cells #[.int .i64 f, .slice (some ⟨b, 0, none⟩) fr.length cp] 94 (0, 0)), (b, .cells ((rb fr ++ jk).toArray) 4 (0, 0))] rfl rfl Try.func56 rfl rfl (by kernel_rfl) (fun w1 h => cloneB b cp fr jk w1 hn hm (h.has (fun e he => by rw [List.mem_singleton.1 he]; exact List.mem_of_getElem? (i := 1) rfl)))) ?_
  rintro o2 ko2
  obtain ⟨⟨b2, cq2, j2⟩, rfl⟩ := own_some ko2 hn
  refine CfgL.setO (O' := [(b2, .cells ((rb fr ++ j2).toArray) 4 (0, 0)), (s, .cells #[.int .i64 f, .slice (some ⟨b, 0, none⟩) fr.length cp] 94 (0, 0)), (b, .cells ((rb fr ++ jk).toArray) 4 (0, 0))]) rfl ?_
  refine CfgL.pure 1 [] (some [0, 1, 2, 7]) (Γ' := [(7, [], .slice (some ⟨b2, 0, none⟩) fr.length cq2), (0, [], .pointer (some ⟨s, 0, none⟩)), (1, [], .bool to), (2, [], .slice la l.length cap)]) (nd := (fun _ => [])) (by kernel_rfl) (fun _ => by kernel_rfl) trivial ?_
  refine CfgL.done rfl ?_
  refine Cfg.reg rfl [0, 1, 7, 20, 21, 22] [] (Γ' := [(22, [], .int .i64 0), (21, [], .int .i64 (l.length : Int)), (20, [], .slice la l.length cap), (7, [], .slice (some ⟨b2, 0, none⟩) fr.length cq2), (0, [], .pointer (some ⟨s, 0, none⟩)), (1, [], .bool to)]) (nd := (fun _ => [])) (fun _ => by kernel_rfl) trivial ?_
  refine Cfg.loop rfl (ι := Nat × List Bool) (fun (x : Nat × List Bool) => match x with | (i, nx) => [(22, [], .int .i64 (i : Int)), (21, [], .int .i64 (l.length : Int)), (20, [], .slice la l.length cap), (7, [], .slice (some ⟨b2, 0, none⟩) fr.length cq2), (0, [], .pointer (some ⟨s, 0, none⟩)), (1, [], .bool to)]) (fun (x : Nat × List Bool) => match x with | (i, nx) => [(b2, .cells ((rb nx ++ j2).toArray) 4 (0, 0)), (s, .cells #[.int .i64 f, .slice (some ⟨b, 0, none⟩) fr.length cp] 94 (0, 0)), (b, .cells ((rb fr ++ jk).toArray) 4 (0, 0))]) (fun (x : Nat × List Bool) => match x with | (i, nx) => (i ≤ l.length) ∧ (nx.length = fr.length) ∧ (turnF f fr.length to (l.drop i) nx = turnF f fr.length to l fr)) (fun (x : Nat × List Bool) => match x with | (i, nx) => l.length - i) (0, fr) ?_ (Conv.mk (by kernel_rfl)) (.cons_cons _ (.cons_cons _ (.cons_cons _ .slnil))) ?_
  · exact ⟨Nat.zero_le _, rfl, rfl⟩
  · rintro ⟨i, nx⟩ ⟨hi, hnx, hT⟩
    refine Cfg.reg rfl [0, 1, 7, 20, 21, 22, 23] [] (Γ' := [(23, [], .bool (decide ((i : Int) < (l.length : Int)))), (22, [], .int .i64 (i : Int)), (21, [], .int .i64 (l.length : Int)), (20, [], .slice la l.length cap), (7, [], .slice (some ⟨b2, 0, none⟩) fr.length cq2), (0, [], .pointer (some ⟨s, 0, none⟩)), (1, [], .bool to)]) (nd := (fun _ => [])) (fun _ => by kernel_rfl) trivial ?_
    refine Cfg.cond rfl (b := (decide ((i : Int) < (l.length : Int)))) (by kernel_rfl) (fun c2r => ?_) (fun c2r => ?_)
    · have c2 : ((i : Int) < (l.length : Int)) := (of_decide_eq_true c2r)
      obtain ⟨sb, off, cs, te, fre, rfl, hmem, hcs⟩ := hI (by omega)
      refine Conv.cfg (Γ' := [(23, [], .bool (decide ((i : Int) < (l.length : Int)))), (22, [], .int .i64 (i : Int)), (21, [], .int .i64 (l.length : Int)), (20, [], .slice (some ⟨sb, off, none⟩) l.length cap), (7, [], .slice (some ⟨b2, 0, none⟩) fr.length cq2), (0, [], .pointer (some ⟨s, 0, none⟩)), (1, [], .bool to)]) (Conv.mk (by kernel_rfl)) ?_
      refine Cfg.begL rfl ?_
      refine CfgL.pure 2 [(0, false, none), (0, false, some (.agg #[.int .i64 (ra l i), .int .i64 (rl l i)]))] none (Γ' := [(25, [], .agg #[.int .i64 (ra l i), .int .i64 (rl l i)]), (24, [], .pointer (some ⟨sb, (addO off (i * 2)), none⟩)), (23, [], .bool (decide ((i : Int) < (l.length : Int)))), (22, [], .int .i64 (i : Int)), (21, [], .int .i64 (l.length : Int)), (20, [], .slice (some ⟨sb, off, none⟩) l.length cap), (7, [], .slice (some ⟨b2, 0, none⟩) fr.length cq2), (0, [], .pointer (some ⟨s, 0, none⟩)), (1, [], .bool to)]) (nd := (fun S => [(0 ≤ (i : Int) ∧ (i : Int) < (l.length : Int)), (∀ w1, S w1 → (loadVar 27 ⟨sb, (addO off (i * 2)), none⟩).run Try.prog w1 = .ok (.agg #[.int .i64 (ra l i), .int .i64 (rl l i)]) w1)])) (by kernel_rfl) (fun _ => by kernel_rfl) ⟨(by omega), (fun w1 h => by rw [addO_eq]; exact run_at h hmem hcs (by omega)), trivial⟩ ?_
      refine CfgL.eff (o := _) rfl (by kernel_rfl) (by kernel_rfl) (Eff.alloc (z := (.agg #[.int .i64 0, .int .i64 0])) rfl (by kernel_rfl)) ?_
      rintro t9 ⟨ht9, nt9⟩
      refine CfgL.eff (o := _) rfl (by kernel_rfl) (by kernel_rfl) (Eff.storeN (b := t9) (off := 0) (vs := #[.int .i64 (ra l i), .int .i64 (rl l i)]) (n := 2) rfl (by kernel_rfl) (by kernel_rfl) (by kernel_rfl) rfl (two_one rfl rfl) 0 (cs := #[.int .i64 0, .int .i64 0]) (e := 27) (by kernel_rfl) (Nat.le_refl 2)) ?_
      rintro ⟨⟩ -
      refine CfgL.setO (O' := [(t9, .cells #[.int .i64 (ra l i), .int .i64 (rl l i)] 27 (0, 0)), (b2, .cells ((rb nx ++ j2).toArray) 4 (0, 0)), (s, .cells #[.int .i64 f, .slice (some ⟨b, 0, none⟩) fr.length cp] 94 (0, 0)), (b, .cells ((rb fr ++ jk).toArray) 4 (0, 0))]) (congrArg (fun (xq : Array Value) => ([(t9, .cells xq 27 (0, 0)), (b2, .cells ((rb nx ++ j2).toArray) 4 (0, 0)), (s, .cells #[.int .i64 f, .slice (some ⟨b, 0, none⟩) fr.length cp] 94 (0, 0)), (b, .cells ((rb fr ++ jk).toArray) 4 (0, 0))] : List (Nat × Obj))) (rfl)) ?_
      refine CfgL.done rfl ?_
      refine Conv.cfg (Γ' := [(9, [], .pointer (some ⟨t9, 0, none⟩)), (22, [], .int .i64 (i : Int)), (21, [], .int .i64 (l.length : Int)), (20, [], .slice (some ⟨sb, off, none⟩) l.length cap), (7, [], .slice (some ⟨b2, 0, none⟩) fr.length cq2), (0, [], .pointer (some ⟨s, 0, none⟩)), (1, [], .bool to)]) (Conv.mk (by kernel_rfl)) ?_
      refine Cfg.reg rfl [0, 1, 7, 9, 20, 21, 22, 28] [(0, false, none), (0, false, some (.int .i64 (rl l i)))] (Γ' := [(28, [], .bool (decide ((rl l i) < (1 : Int)))), (9, [], .pointer (some ⟨t9, 0, none⟩)), (22, [], .int .i64 (i : Int)), (21, [], .int .i64 (l.length : Int)), (20, [], .slice (some ⟨sb, off, none⟩) l.length cap), (7, [], .slice (some ⟨b2, 0, none⟩) fr.length cq2), (0, [], .pointer (some ⟨s, 0, none⟩)), (1, [], .bool to)]) (nd := (fun S => [(∀ w1, S w1 → w1.cell? ⟨t9, 1, none⟩ = some (.int .i64 (rl l i)))])) (fun _ => by kernel_rfl) ⟨(fun w1 h => h.ocell 0 rfl rfl), trivial⟩ ?_
      refine Cfg.cond rfl (b := (decide ((rl l i) < (1 : Int)))) (by kernel_rfl) (fun c3r => ?_) (fun c3r => ?_)
      · have c3 : ((rl l i) < (1 : Int)) := (of_decide_eq_true c3r)
        refine Cfg.reg rfl [6] [] (Γ' := [(6, [], .int .i64 2)]) (nd := (fun _ => [])) (fun _ => by kernel_rfl) trivial ?_
        refine Cfg.ret rfl (rs := [.tmp 6]) rfl [.int .i64 2] ⟨by kernel_rfl, trivial⟩ (fun w1 hp => ?_)
        have he : (turnF f fr.length to l fr).1 = 2 := by rw [← hT, turn_step (by omega), if_pos (by omega)]
        have hr : turnR f to l fr = fr := by unfold turnR; rw [he, if_neg (by decide)]
        rw [he, hr]
        exact ⟨(b, cp, jk), rfl, _, hp.sub (.cons _ (.cons _ (List.Sublist.refl _)))⟩
      · have c3 : (¬ ((rl l i) < (1 : Int))) := (of_decide_eq_false c3r)
        refine Cfg.begL rfl ?_
        refine CfgL.pure 3 [(0, false, none), (0, false, none), (0, false, some (.int .i64 (ra l i)))] none (Γ' := [(32, [], .int .i64 (ra l i)), (31, [], .pointer (some ⟨t9, 0, none⟩)), (30, [], .pointer (some ⟨s, 0, none⟩)), (28, [], .bool (decide ((rl l i) < (1 : Int)))), (9, [], .pointer (some ⟨t9, 0, none⟩)), (22, [], .int .i64 (i : Int)), (21, [], .int .i64 (l.length : Int)), (20, [], .slice (some ⟨sb, off, none⟩) l.length cap), (7, [], .slice (some ⟨b2, 0, none⟩) fr.length cq2), (0, [], .pointer (some ⟨s, 0, none⟩)), (1, [], .bool to)]) (nd := (fun S => [(∀ w1, S w1 → w1.cell? ⟨t9, 0, none⟩ = some (.int .i64 (ra l i)))])) (by kernel_rfl) (fun _ => by kernel_rfl) ⟨(fun w1 h => h.ocell 0 rfl rfl), trivial⟩ ?_
        refine CfgL.eff (o := _) rfl (by kernel_rfl) (by kernel_rfl) (Eff.callA (vs := [.pointer (some ⟨s, 0, none⟩), .int .i64 (ra l i)]) (.tuple #[.int .i64 (if inP f fr.length (ra l i) then ra l i - f else 0), .bool (inP f fr.length (ra l i))]) rfl Try.func55 rfl rfl (by kernel_rfl) (fun w1 h => place s f (ra l i) (some (b, cp, jk)) fr w1 hf (h1 i) hm (h.has (fun e he => by rw [List.mem_singleton.1 he]; exact List.mem_of_getElem? (i := 2) rfl)))) ?_
        rintro ⟨⟩ -
        refine CfgL.pure 5 [] (some [0, 1, 7, 9, 10, 11, 20, 21, 22]) (Γ' := [(11, [], .bool (inP f fr.length (ra l i))), (10, [], .int .i64 (if inP f fr.length (ra l i) then ra l i - f else 0)), (9, [], .pointer (some ⟨t9, 0, none⟩)), (22, [], .int .i64 (i : Int)), (21, [], .int .i64 (l.length : Int)), (20, [], .slice (some ⟨sb, off, none⟩) l.length cap), (7, [], .slice (some ⟨b2, 0, none⟩) fr.length cq2), (0, [], .pointer (some ⟨s, 0, none⟩)), (1, [], .bool to)]) (nd := (fun _ => [])) (by kernel_rfl) (fun _ => by kernel_rfl) trivial ?_
        refine CfgL.done rfl ?_
        refine Cfg.reg rfl [0, 1, 7, 9, 10, 20, 21, 22, 37] [] (Γ' := [(37, [], .bool (!(inP f fr.length (ra l i)))), (10, [], .int .i64 (if inP f fr.length (ra l i) then ra l i - f else 0)), (9, [], .pointer (some ⟨t9, 0, none⟩)), (22, [], .int .i64 (i : Int)), (21, [], .int .i64 (l.length : Int)), (20, [], .slice (some ⟨sb, off, none⟩) l.length cap), (7, [], .slice (some ⟨b2, 0, none⟩) fr.length cq2), (0, [], .pointer (some ⟨s, 0, none⟩)), (1, [], .bool to)]) (nd := (fun _ => [])) (fun _ => by kernel_rfl) trivial ?_
        refine Cfg.cond rfl (b := (!(inP f fr.length (ra l i)))) (by kernel_rfl) (fun c4r => ?_) (fun c4r => ?_)
        · have c4 : ((inP f fr.length (ra l i)) = false) := (notT c4r)
          refine Cfg.reg rfl [6] [] (Γ' := [(6, [], .int .i64 2)]) (nd := (fun _ => [])) (fun _ => by kernel_rfl) trivial ?_
          refine Cfg.ret rfl (rs := [.tmp 6]) rfl [.int .i64 2] ⟨by kernel_rfl, trivial⟩ (fun w1 hp => ?_)
          have he : (turnF f fr.length to l fr).1 = 2 := by rw [← hT, turn_step (by omega), if_neg (by omega), if_neg (by simpa using c4r)]
          have hr : turnR f to l fr = fr := by unfold turnR; rw [he, if_neg (by decide)]
          rw [he, hr]
          exact ⟨(b, cp, jk), rfl, _, hp.sub (.cons _ (.cons _ (List.Sublist.refl _)))⟩
        · have c4 : ((inP f fr.length (ra l i)) = true) := (notF c4r)
          have hin : inP f fr.length (ra l i) = true := by simpa using c4r
          have hin2 : f ≤ ra l i ∧ ra l i < f + (fr.length : Int) := by simpa [inP] using hin
          obtain ⟨k0, hk0, hk1⟩ : ∃ k0 : Nat, ra l i - f = (k0 : Int) ∧ k0 < fr.length := ⟨(ra l i - f).toNat, by omega, by omega⟩
          refine Cfg.setG (Γ' := [(37, [], .bool (!(inP f fr.length (ra l i)))), (10, [], .int .i64 (k0 : Int)), (9, [], .pointer (some ⟨t9, 0, none⟩)), (22, [], .int .i64 (i : Int)), (21, [], .int .i64 (l.length : Int)), (20, [], .slice (some ⟨sb, off, none⟩) l.length cap), (7, [], .slice (some ⟨b2, 0, none⟩) fr.length cq2), (0, [], .pointer (some ⟨s, 0, none⟩)), (1, [], .bool to)]) (congrArg (fun (xq : Int) => ([(37, [], .bool (!(inP f fr.length (ra l i)))), (10, [], .int .i64 xq), (9, [], .pointer (some ⟨t9, 0, none⟩)), (22, [], .int .i64 (i : Int)), (21, [], .int .i64 (l.length : Int)), (20, [], .slice (some ⟨sb, off, none⟩) l.length cap), (7, [], .slice (some ⟨b2, 0, none⟩) fr.length cq2), (0, [], .pointer (some ⟨s, 0, none⟩)), (1, [], .bool to)] : Env)) ((by rw [if_pos hin]; exact hk0))) ?_
          refine Cfg.reg rfl [0, 1, 7, 10, 20, 21, 22, 39, 40] [(0, false, none), (0, false, some (.int .i64 (rl l i)))] (Γ' := [(40, [], .int .i64 0), (39, [], .int .i64 (rl l i)), (10, [], .int .i64 (k0 : Int)), (22, [], .int .i64 (i : Int)), (21, [], .int .i64 (l.length : Int)), (20, [], .slice (some ⟨sb, off, none⟩) l.length cap), (7, [], .slice (some ⟨b2, 0, none⟩) fr.length cq2), (0, [], .pointer (some ⟨s, 0, none⟩)), (1, [], .bool to)]) (nd := (fun S => [(∀ w1, S w1 → w1.cell? ⟨t9, 1, none⟩ = some (.int .i64 (rl l i)))])) (fun _ => by kernel_rfl) ⟨(fun w1 h => h.ocell 0 rfl rfl), trivial⟩ ?_
          refine Cfg.loop rfl (ι := Nat × List Bool) (fun (x : Nat × List Bool) => match x with | (n, ny) => [(40, [], .int .i64 (n : Int)), (39, [], .int .i64 (rl l i)), (10, [], .int .i64 (k0 : Int)), (22, [], .int .i64 (i : Int)), (21, [], .int .i64 (l.length : Int)), (20, [], .slice (some ⟨sb, off, none⟩) l.length cap), (7, [], .slice (some ⟨b2, 0, none⟩) fr.length cq2), (0, [], .pointer (some ⟨s, 0, none⟩)), (1, [], .bool to)]) (fun (x : Nat × List Bool) => match x with | (n, ny) => [(b2, .cells ((rb ny ++ j2).toArray) 4 (0, 0)), (s, .cells #[.int .i64 f, .slice (some ⟨b, 0, none⟩) fr.length cp] 94 (0, 0)), (b, .cells ((rb fr ++ jk).toArray) 4 (0, 0))]) (fun (x : Nat × List Bool) => match x with | (n, ny) => ((n : Int) ≤ rl l i) ∧ (k0 + n ≤ fr.length) ∧ (ny.length = fr.length) ∧ (loopF to k0 ((rl l i).toNat - n) n ny = loopF to k0 (rl l i).toNat 0 nx)) (fun (x : Nat × List Bool) => match x with | (n, ny) => (rl l i).toNat - n) (0, nx) ?_ (Conv.mk (by kernel_rfl)) (.cons _ (.cons_cons _ (.cons_cons _ (.cons_cons _ .slnil)))) ?_
          · exact ⟨by show ((0 : Nat) : Int) ≤ _; omega, by show k0 + 0 ≤ _; omega, hnx, rfl⟩
          · rintro ⟨n, ny⟩ ⟨hn2, hkn, hny, hL⟩
            refine Cfg.reg rfl [0, 1, 7, 10, 20, 21, 22, 39, 40, 41] [] (Γ' := [(41, [], .bool (decide ((n : Int) < (rl l i)))), (40, [], .int .i64 (n : Int)), (39, [], .int .i64 (rl l i)), (10, [], .int .i64 (k0 : Int)), (22, [], .int .i64 (i : Int)), (21, [], .int .i64 (l.length : Int)), (20, [], .slice (some ⟨sb, off, none⟩) l.length cap), (7, [], .slice (some ⟨b2, 0, none⟩) fr.length cq2), (0, [], .pointer (some ⟨s, 0, none⟩)), (1, [], .bool to)]) (nd := (fun _ => [])) (fun _ => by kernel_rfl) trivial ?_
            refine Cfg.cond rfl (b := (decide ((n : Int) < (rl l i)))) (by kernel_rfl) (fun c5r => ?_) (fun c5r => ?_)
            · have c5 : ((n : Int) < (rl l i)) := (of_decide_eq_true c5r)
              refine Cfg.reg rfl [0, 1, 7, 10, 12, 20, 21, 22, 39, 40] [] (Γ' := [(12, [], .int .i64 (n : Int)), (40, [], .int .i64 (n : Int)), (39, [], .int .i64 (rl l i)), (10, [], .int .i64 (k0 : Int)), (22, [], .int .i64 (i : Int)), (21, [], .int .i64 (l.length : Int)), (20, [], .slice (some ⟨sb, off, none⟩) l.length cap), (7, [], .slice (some ⟨b2, 0, none⟩) fr.length cq2), (0, [], .pointer (some ⟨s, 0, none⟩)), (1, [], .bool to)]) (nd := (fun _ => [])) (fun _ => by kernel_rfl) trivial ?_
              refine Cfg.reg rfl [0, 1, 7, 10, 12, 20, 21, 22, 39, 40, 48] [] (Γ' := [(48, [], .bool (decide (((k0 : Int) + (n : Int)) ≥ (fr.length : Int)))), (12, [], .int .i64 (n : Int)), (40, [], .int .i64 (n : Int)), (39, [], .int .i64 (rl l i)), (10, [], .int .i64 (k0 : Int)), (22, [], .int .i64 (i : Int)), (21, [], .int .i64 (l.length : Int)), (20, [], .slice (some ⟨sb, off, none⟩) l.length cap), (7, [], .slice (some ⟨b2, 0, none⟩) fr.length cq2), (0, [], .pointer (some ⟨s, 0, none⟩)), (1, [], .bool to)]) (nd := (fun _ => [((-9223372036854775808 : Int) ≤ ((k0 : Int) + (n : Int)) ∧ ((k0 : Int) + (n : Int)) ≤ 9223372036854775807)])) (fun _ => by kernel_rfl) ⟨(by omega), trivial⟩ ?_
              refine Cfg.cond rfl (b := (decide (((k0 : Int) + (n : Int)) ≥ (fr.length : Int)))) (by kernel_rfl) (fun c6r => ?_) (fun c6r => ?_)
              · have c6 : (((k0 : Int) + (n : Int)) ≥ (fr.length : Int)) := (of_decide_eq_true c6r)
                refine Cfg.reg rfl [6] [] (Γ' := [(6, [], .int .i64 2)]) (nd := (fun _ => [])) (fun _ => by kernel_rfl) trivial ?_
                refine Cfg.ret rfl (rs := [.tmp 6]) rfl [.int .i64 2] ⟨by kernel_rfl, trivial⟩ (fun w1 hp => ?_)
                have hx : loopF to k0 (rl l i).toNat 0 nx = (2, ny) := by rw [← hL, loop_step (show n < (rl l i).toNat by omega), if_pos (by omega)]
                have he : (turnF f fr.length to l fr).1 = 2 := by rw [← hT, turn_step (by omega), if_neg (by omega), if_pos hin, hk0, Int.toNat_natCast, hx]; rfl
                have hr : turnR f to l fr = fr := by unfold turnR; rw [he, if_neg (by decide)]
                rw [he, hr]
                exact ⟨(b, cp, jk), rfl, _, hp.sub (.cons _ (List.Sublist.refl _))⟩
              · have c6 : (¬ (((k0 : Int) + (n : Int)) ≥ (fr.length : Int))) := (of_decide_eq_false c6r)
                refine Cfg.reg rfl [0, 1, 7, 10, 12, 20, 21, 22, 39, 40, 56] [(0, false, none), (0, false, none), (0, false, none), (0, false, none), (0, false, none), (0, false, some (.bool (ny.getD (k0 + n) false)))] (Γ' := [(56, [], .bool ((ny.getD (k0 + n) false) == to)), (12, [], .int .i64 (n : Int)), (40, [], .int .i64 (n : Int)), (39, [], .int .i64 (rl l i)), (10, [], .int .i64 (k0 : Int)), (22, [], .int .i64 (i : Int)), (21, [], .int .i64 (l.length : Int)), (20, [], .slice (some ⟨sb, off, none⟩) l.length cap), (7, [], .slice (some ⟨b2, 0, none⟩) fr.length cq2), (0, [], .pointer (some ⟨s, 0, none⟩)), (1, [], .bool to)]) (nd := (fun S => [((-9223372036854775808 : Int) ≤ ((k0 : Int) + (n : Int)) ∧ ((k0 : Int) + (n : Int)) ≤ 9223372036854775807), (0 ≤ ((k0 : Int) + (n : Int)) ∧ ((k0 : Int) + (n : Int)) < (fr.length : Int)), (∀ w1, S w1 → w1.cell? ⟨b2, (k0 + n), none⟩ = some (.bool (ny.getD (k0 + n) false)))])) (fun _ => by kernel_rfl) ⟨(by omega), (by omega), (fun w1 h => h.ocell 0 rfl (rb_cell ny j2 (by omega))), trivial⟩ ?_
                refine Cfg.cond rfl (b := ((ny.getD (k0 + n) false) == to)) (by kernel_rfl) (fun c7r => ?_) (fun c7r => ?_)
                · have c7 : (((ny.getD (k0 + n) false) == to) = true) := c7r
                  refine Cfg.reg rfl [6] [] (Γ' := [(6, [], .int .i64 17)]) (nd := (fun _ => [])) (fun _ => by kernel_rfl) trivial ?_
                  refine Cfg.ret rfl (rs := [.tmp 6]) rfl [.int .i64 17] ⟨by kernel_rfl, trivial⟩ (fun w1 hp => ?_)
                  have hx : loopF to k0 (rl l i).toNat 0 nx = (17, ny) := by rw [← hL, loop_step (show n < (rl l i).toNat by omega), if_neg (by omega), if_pos c7r]
                  have he : (turnF f fr.length to l fr).1 = 17 := by rw [← hT, turn_step (by omega), if_neg (by omega), if_pos hin, hk0, Int.toNat_natCast, hx]; rfl
                  have hr : turnR f to l fr = fr := by unfold turnR; rw [he, if_neg (by decide)]
                  rw [he, hr]
                  exact ⟨(b, cp, jk), rfl, _, hp.sub (.cons _ (List.Sublist.refl _))⟩
                · have c7 : (((ny.getD (k0 + n) false) == to) = false) := c7r
                  refine Cfg.begL rfl ?_
                  refine CfgL.pure 6 [] none (Γ' := [(62, [], .pointer (some ⟨b2, (k0 + n), none⟩)), (61, [], .bool to), (60, [], .int .i64 ((k0 : Int) + (n : Int))), (59, [], .int .i64 (n : Int)), (58, [], .int .i64 (k0 : Int)), (57, [], .slice (some ⟨b2, 0, none⟩) fr.length cq2), (56, [], .bool ((ny.getD (k0 + n) false) == to)), (12, [], .int .i64 (n : Int)), (40, [], .int .i64 (n : Int)), (39, [], .int .i64 (rl l i)), (10, [], .int .i64 (k0 : Int)), (22, [], .int .i64 (i : Int)), (21, [], .int .i64 (l.length : Int)), (20, [], .slice (some ⟨sb, off, none⟩) l.length cap), (7, [], .slice (some ⟨b2, 0, none⟩) fr.length cq2), (0, [], .pointer (some ⟨s, 0, none⟩)), (1, [], .bool to)]) (nd := (fun _ => [((-9223372036854775808 : Int) ≤ ((k0 : Int) + (n : Int)) ∧ ((k0 : Int) + (n : Int)) ≤ 9223372036854775807), (0 ≤ ((k0 : Int) + (n : Int)) ∧ ((k0 : Int) + (n : Int)) < (fr.length : Int))])) (by kernel_rfl) (fun _ => by kernel_rfl) ⟨(by omega), (by omega), trivial⟩ ?_
                  refine CfgL.eff (o := _) rfl (by kernel_rfl) (by kernel_rfl) (Eff.store1 (b := b2) (off := (k0 + n)) (v := .bool to) rfl (by kernel_rfl) (by kernel_rfl) rfl (by kernel_rfl) 0 (cs := (rb ny ++ j2).toArray) (e := 4) (by kernel_rfl) (by simp only [List.size_toArray, List.length_append, rb_len]; omega)) ?_
                  rintro ⟨⟩ -
                  refine CfgL.done rfl ?_
                  refine Conv.cfg (Γ' := [(40, [], .int .i64 (n : Int)), (39, [], .int .i64 (rl l i)), (10, [], .int .i64 (k0 : Int)), (22, [], .int .i64 (i : Int)), (21, [], .int .i64 (l.length : Int)), (20, [], .slice (some ⟨sb, off, none⟩) l.length cap), (7, [], .slice (some ⟨b2, 0, none⟩) fr.length cq2), (0, [], .pointer (some ⟨s, 0, none⟩)), (1, [], .bool to)]) (Conv.mk (by kernel_rfl)) ?_
                  refine Cfg.reg rfl [0, 1, 7, 10, 20, 21, 22, 39, 40] [] (Γ' := [(40, [], .int .i64 ((n : Int) + 1)), (39, [], .int .i64 (rl l i)), (10, [], .int .i64 (k0 : Int)), (22, [], .int .i64 (i : Int)), (21, [], .int .i64 (l.length : Int)), (20, [], .slice (some ⟨sb, off, none⟩) l.length cap), (7, [], .slice (some ⟨b2, 0, none⟩) fr.length cq2), (0, [], .pointer (some ⟨s, 0, none⟩)), (1, [], .bool to)]) (nd := (fun _ => [((-9223372036854775808 : Int) ≤ ((n : Int) + 1) ∧ ((n : Int) + 1) ≤ 9223372036854775807)])) (fun _ => by kernel_rfl) ⟨(by omega), trivial⟩ ?_
                  refine Cfg.setO (O' := [(b2, .cells ((rb (ny.set (k0 + n) to) ++ j2).toArray) 4 (0, 0)), (s, .cells #[.int .i64 f, .slice (some ⟨b, 0, none⟩) fr.length cp] 94 (0, 0)), (b, .cells ((rb fr ++ jk).toArray) 4 (0, 0))]) (congrArg (fun (xq : Array Value) => ([(b2, .cells xq 4 (0, 0)), (s, .cells #[.int .i64 f, .slice (some ⟨b, 0, none⟩) fr.length cp] 94 (0, 0)), (b, .cells ((rb fr ++ jk).toArray) 4 (0, 0))] : List (Nat × Obj))) (rb_set ny j2 (by omega) to)) ?_
                  refine Cfg.again rfl (n + 1, ny.set (k0 + n) to) ⟨by omega, by omega, by rw [List.length_set]; exact hny, by rw [← hL, loop_step (show n < (rl l i).toNat by omega), if_neg (by omega), if_neg (by rw [c7r]; simp)]⟩ (by show (rl l i).toNat - (n + 1) < (rl l i).toNat - n; omega) (Conv.mk (by kernel_rfl)) (.cons_cons _ (.cons_cons _ (.cons_cons _ .slnil)))
            · have c5 : (¬ ((n : Int) < (rl l i))) := (of_decide_eq_false c5r)
              refine Cfg.reg rfl [0, 1, 7, 20, 21, 22] [] (Γ' := [(22, [], .int .i64 ((i : Int) + 1)), (21, [], .int .i64 (l.length : Int)), (20, [], .slice (some ⟨sb, off, none⟩) l.length cap), (7, [], .slice (some ⟨b2, 0, none⟩) fr.length cq2), (0, [], .pointer (some ⟨s, 0, none⟩)), (1, [], .bool to)]) (nd := (fun _ => [((-9223372036854775808 : Int) ≤ ((i : Int) + 1) ∧ ((i : Int) + 1) ≤ 9223372036854775807)])) (fun _ => by kernel_rfl) ⟨(by omega), trivial⟩ ?_
              have hd0 := loop_end (to := to) (k := k0) (ny := ny) (show (rl l i).toNat ≤ n by omega)
              rw [hL] at hd0
              have hS := turn_step (f := f) (nn := fr.length) (to := to) (l := l) (nx := nx) (i := i) (by omega)
              rw [if_neg (by omega), if_pos hin, hk0, Int.toNat_natCast, hd0, if_pos rfl] at hS
              refine Cfg.again rfl (i + 1, ny) ⟨by omega, hny, by rw [← hT]; exact hS.symm⟩ (by show l.length - (i + 1) < l.length - i; omega) (Conv.mk (by kernel_rfl)) (.cons_cons _ (.cons_cons _ (.cons_cons _ .slnil)))
    · have c2 : (¬ ((i : Int) < (l.length : Int))) := (of_decide_eq_false c2r)
      obtain rfl : i = l.length := by omega
      rw [List.drop_length] at hT
      refine Conv.cfg (Γ' := [(21, [], .int .i64 (l.length : Int)), (20, [], .slice la l.length cap), (7, [], .slice (some ⟨b2, 0, none⟩) fr.length cq2), (0, [], .pointer (some ⟨s, 0, none⟩))]) (Conv.mk (by kernel_rfl)) ?_
      refine Cfg.begL rfl ?_
      refine CfgL.pure 4 [] none (Γ' := [(68, [], .pointer (some ⟨s, 1, none⟩)), (67, [], .pointer (some ⟨s, 0, none⟩)), (66, [], .slice (some ⟨b2, 0, none⟩) fr.length cq2), (65, [], .pointer (some ⟨s, 0, none⟩)), (21, [], .int .i64 (l.length : Int)), (20, [], .slice la l.length cap), (7, [], .slice (some ⟨b2, 0, none⟩) fr.length cq2), (0, [], .pointer (some ⟨s, 0, none⟩))]) (nd := (fun _ => [])) (by kernel_rfl) (fun _ => by kernel_rfl) trivial ?_
      refine CfgL.eff (o := _) rfl (by kernel_rfl) (by kernel_rfl) (Eff.store1 (b := s) (off := 1) (v := .slice (some ⟨b2, 0, none⟩) fr.length cq2) rfl (by kernel_rfl) (by kernel_rfl) rfl (by kernel_rfl) 1 (cs := #[.int .i64 f, .slice (some ⟨b, 0, none⟩) fr.length cp]) (e := 94) (by kernel_rfl) (by simp)) ?_
      rintro ⟨⟩ -
      refine CfgL.done rfl ?_
      refine Conv.cfg (Γ' := []) (Conv.mk (by kernel_rfl)) ?_
      refine Cfg.reg rfl [6] [] (Γ' := [(6, [], .int .i64 0)]) (nd := (fun _ => [])) (fun _ => by kernel_rfl) trivial ?_
      refine Cfg.ret rfl (rs := [.tmp 6]) rfl [.int .i64 0] ⟨by kernel_rfl, trivial⟩ (fun w1 hp => ?_)
      have he : (turnF f fr.length to l fr).1 = 0 := by rw [← hT]; rfl
      have hr : turnR f to l fr = nx := by unfold turnR; rw [he, if_pos rfl, ← hT]; rfl
      rw [he, hr]
      exact ⟨(b2, cq2, j2), rfl, _, (hp.sub (O' := [(b2, _), (s, _)]) (.cons_cons _ (.cons_cons _ (.cons _ .slnil)))).perm (by unfold spC; rw [hnx]; exact List.Perm.swap _ _ _)⟩

end Go.Proofs.Ytmkefcjphdaoiaa
