/- script: the program's Print. -/
import Derived.Test.YtoopekjbikcebaaDoorScI
namespace Go.Proofs.YtoopekjbikcebaaDoor
open K
set_option linter.unusedVariables false

def printR (l : List Stp) : List UInt8 := if printE l = 0 then printT l else []
def Kok (s : Stp) : Prop := (-9223372036854775808 ≤ s.1 ∧ s.1 ≤ 9223372036854775807) ∧ Fit s
theorem kok_at {l : List Stp} (h : ∀ s ∈ l, Kok s) (i : Nat) : Kok (l.getD i sz0) := by
  rw [List.getD_eq_getElem?_getD]
  by_cases hi : i < l.length
  · rw [List.getElem?_eq_getElem hi]; exact h _ (List.getElem_mem hi)
  · rw [List.getElem?_eq_none (by omega)]
    exact ⟨⟨by decide, by decide⟩, by decide, by decide, by decide, by decide, by decide⟩
theorem printT_next {l : List Stp} {i : Nat} (h : i < l.length) : printT (l.take (i + 1)) = printT (l.take i) ++ (lineT (l.getD i sz0) ++ [10]) := by
  unfold printT
  rw [List.take_succ_eq_append_getElem h, List.flatMap_append, List.flatMap_cons, List.flatMap_nil, List.append_nil, List.getD_eq_getElem?_getD, List.getElem?_eq_getElem h]; rfl
theorem printE_app : ∀ (a b : List Stp), printE a = 0 → printE (a ++ b) = printE b
  | [], b, _ => rfl
  | s :: a, b, h => by
    have hs : lineE s = 0 := by
      unfold printE at h
      split at h
      · assumption
      · assumption
    have ha : printE a = 0 := by unfold printE at h; rwa [if_pos hs] at h
    show (if lineE s = 0 then printE (a ++ b) else lineE s) = _
    rw [if_pos hs, printE_app a b ha]
theorem printE_stop {l : List Stp} {i : Nat} (h : i < l.length) (h0 : printE (l.take i) = 0) (he : lineE (l.getD i sz0) ≠ 0) : printE l = lineE (l.getD i sz0) := by
  have e : l = l.take i ++ (l.getD i sz0 :: l.drop (i + 1)) := by
    rw [List.getD_eq_getElem?_getD, List.getElem?_eq_getElem h]
    exact (by rw [← List.drop_eq_getElem_cons h, List.take_append_drop] : l.take i ++ (l[i] :: l.drop (i + 1)) = l).symm
  conv => lhs; rw [e]
  rw [printE_app _ _ h0]
  show (if lineE (l.getD i sz0) = 0 then _ else lineE (l.getD i sz0)) = _
  rw [if_neg he]
theorem printE_next {l : List Stp} {i : Nat} (h : i < l.length) (h0 : printE (l.take i) = 0) (he : lineE (l.getD i sz0) = 0) : printE (l.take (i + 1)) = 0 := by
  rw [List.take_succ_eq_append_getElem h, printE_app _ _ h0]
  rw [List.getD_eq_getElem?_getD, List.getElem?_eq_getElem h, Option.getD_some] at he
  show (if lineE l[i] = 0 then printE [] else lineE l[i]) = 0
  rw [if_pos he]; rfl
theorem take_fit {l : List Stp} (h : ∀ s ∈ l, Kok s) (i : Nat) : (printT (l.take i)).length ≤ 71 * l.length := by
  have h1 := print_len (l.take i) (fun s hs => (h s (List.mem_of_mem_take hs)).2)
  have h2 : (l.take i).length ≤ l.length := by rw [List.length_take]; omega
  omega
theorem lineR_len {s : Stp} (h : Fit s) : (lineR s).length ≤ 70 := by
  unfold lineR; split
  · exact line_len h
  · simp
/-! Lines, one by one -/
def lnP (x : List UInt8) : Bool := (cutN x).2 && (stepV (cutN x).1).2
def accOf (l : List (List UInt8)) : List Stp := l.map fun x => (stepV (cutN x).1).1
def parseL (line : Nat) (acc : List Stp) : List (List UInt8) → List Stp × Nat × Int
  | [] => (acc, 0, 0)
  | x :: xs => if lnP x then parseL (line + 1) (acc ++ [(stepV (cutN x).1).1]) xs else ([], line, 60)
theorem ends_no {cur : List UInt8} (h : cur.all ne10 = true) : endsN cur = false := by
  unfold endsN
  refine decide_eq_false (fun hx => ?_)
  have h1 := List.mem_of_getLast? hx
  have h2 := List.all_eq_true.1 h _ h1
  unfold ne10 at h2; simp at h2
theorem cut_no {cur : List UInt8} (h : cur.all ne10 = true) : cutN cur = (cur, false) := by unfold cutN; rw [ends_no h]; rfl
theorem cut_yes (cur : List UInt8) : cutN (cur ++ [10]) = (cur, true) := by
  have : endsN (cur ++ [10]) = true := by unfold endsN; rw [List.getLast?_concat]; rfl
  unfold cutN; rw [this, List.dropLast_concat]; rfl
theorem parse_lns : ∀ (l cur : List UInt8) (line : Nat) (acc : List Stp), cur.all ne10 = true → parseA cur line acc l = parseL line acc (lnsA cur l)
  | [], cur, line, acc, h => by
    show (if cur = [] then (acc, 0, 0) else ([], line, 60) : List Stp × Nat × Int) = parseL line acc (if cur = [] then [] else [cur])
    by_cases hc : cur = []
    · rw [if_pos hc, if_pos hc]; rfl
    · rw [if_neg hc, if_neg hc]
      show _ = (if lnP cur then _ else _)
      have : lnP cur = false := by unfold lnP; rw [cut_no h]; rfl
      rw [this]; rfl
  | c :: r, cur, line, acc, h => by
    by_cases hc : c = 10
    · subst hc
      show (if (10 : UInt8) = 10 then (match oneR cur with | none => ([], line, 60) | some s => parseA [] (line + 1) (acc ++ [s]) r) else _) = parseL line acc (if (10 : UInt8) = 10 then (cur ++ [10]) :: lnsA [] r else _)
      rw [if_pos rfl, if_pos rfl]
      show _ = (if lnP (cur ++ [10]) then parseL (line + 1) (acc ++ [(stepV (cutN (cur ++ [10])).1).1]) (lnsA [] r) else ([], line, 60))
      unfold lnP
      rw [cut_yes]
      cases ho : oneR cur with
      | none =>
        have : stepV cur = (sz0, false) := by unfold stepV; rw [ho]
        rw [this]; rfl
      | some s =>
        have : stepV cur = (s, true) := by unfold stepV; rw [ho]
        rw [this]
        show parseA [] (line + 1) (acc ++ [s]) r = parseL (line + 1) (acc ++ [s]) (lnsA [] r)
        exact parse_lns r [] (line + 1) (acc ++ [s]) rfl
    · show (if c = 10 then _ else parseA (cur ++ [c]) line acc r) = parseL line acc (if c = 10 then _ else lnsA (cur ++ [c]) r)
      rw [if_neg hc, if_neg hc]
      exact parse_lns r (cur ++ [c]) line acc (by rw [all_app, h]; unfold ne10; simpa using hc)
theorem parseL_all : ∀ (l : List (List UInt8)) (line : Nat) (acc : List Stp), (∀ x ∈ l, lnP x = true) → parseL line acc l = (acc ++ accOf l, 0, 0)
  | [], line, acc, _ => by rw [show accOf [] = [] from rfl, List.append_nil]; rfl
  | x :: l, line, acc, h => by
    show (if lnP x then _ else _) = _
    rw [if_pos (h x (List.mem_cons_self ..)), parseL_all l _ _ (fun y hy => h y (List.mem_cons_of_mem _ hy)), List.append_assoc]; rfl
theorem parseL_stop : ∀ (pre : List (List UInt8)) (a : List UInt8) (rest : List (List UInt8)) (line : Nat) (acc : List Stp), (∀ x ∈ pre, lnP x = true) → lnP a = false → parseL line acc (pre ++ a :: rest) = ([], line + pre.length, 60)
  | [], a, rest, line, acc, _, ha => by
    show (if lnP a then _ else _) = _
    rw [ha]; rfl
  | x :: pre, a, rest, line, acc, h, ha => by
    show (if lnP x then parseL (line + 1) _ (pre ++ a :: rest) else _) = _
    rw [if_pos (h x (List.mem_cons_self ..)), parseL_stop pre a rest _ _ (fun y hy => h y (List.mem_cons_of_mem _ hy)) ha, List.length_cons]
    rw [show line + 1 + pre.length = line + (pre.length + 1) by omega]
theorem lns_len : ∀ (l cur : List UInt8), (lnsA cur l).length ≤ l.length + (if cur = [] then 0 else 1)
  | [], cur => by
    show (if cur = [] then [] else [cur]).length ≤ _
    by_cases h : cur = []
    · rw [if_pos h]; exact Nat.zero_le _
    · rw [if_neg h, if_neg h]; exact Nat.le_refl _
  | c :: r, cur => by
    show (if c = 10 then (cur ++ [10]) :: lnsA [] r else lnsA (cur ++ [c]) r).length ≤ _
    by_cases hc : c = 10
    · have := lns_len r []
      rw [if_pos rfl] at this
      rw [if_pos hc, List.length_cons, List.length_cons]; omega
    · have := lns_len r (cur ++ [c])
      rw [if_neg (by simp)] at this
      rw [if_neg hc, List.length_cons]; omega
theorem lns_mem {l : List UInt8} : ∀ {cur x : List UInt8}, x ∈ lnsA cur l → x.length ≤ cur.length + l.length := by
  induction l with
  | nil =>
    intro cur x hx
    have hx2 : x ∈ (if cur = [] then [] else [cur]) := hx
    by_cases h : cur = []
    · rw [if_pos h] at hx2; cases hx2
    · rw [if_neg h] at hx2; rw [List.mem_singleton.1 hx2]; exact Nat.le_add_right _ _
  | cons c r ih =>
    intro cur x hx
    have hx2 : x ∈ (if c = 10 then (cur ++ [10]) :: lnsA [] r else lnsA (cur ++ [c]) r) := hx
    by_cases hc : c = 10
    · rw [if_pos hc] at hx2
      rcases List.mem_cons.1 hx2 with rfl | h
      · simp only [List.length_append, List.length_cons, List.length_nil]; omega
      · have := ih h; simp only [List.length_nil, List.length_cons] at this ⊢; omega
    · rw [if_neg hc] at hx2
      have := ih hx2; simp only [List.length_append, List.length_cons, List.length_nil] at this ⊢; omega
theorem cut_len (x : List UInt8) : (cutN x).1.length ≤ x.length := by
  unfold cutN; split
  · rw [List.length_dropLast]; omega
  · exact Nat.le_refl _
abbrev PS := Nat × List Stp × K.Own × Int × Int
def PJ (pre : List (List UInt8)) (z : PS) : Prop := z.1 = pre.length ∧ OwnOk z.2.2.1 6 z.2.1.length (sv z.2.1) ∧ ((∀ x ∈ pre, lnP x = true) → z.2.1 = accOf pre ∧ z.2.2.2.1 = 0 ∧ z.2.2.2.2 = 0) ∧ (¬ (∀ x ∈ pre, lnP x = true) → z.2.2.2.1 = (pre.length : Int) ∧ z.2.2.2.2 = 60)
theorem PJ_run {pre : List (List UInt8)} {k : Nat} {acc : List Stp} {o : K.Own} {e3 e4 : Int} (h : PJ pre (k, acc, o, e3, e4)) (hal : ∀ x ∈ pre, lnP x = true) : k = pre.length ∧ OwnOk o 6 acc.length (sv acc) ∧ acc = accOf pre ∧ e3 = 0 ∧ e4 = 0 := by
  obtain ⟨h1, h2, h3, _⟩ := h
  exact ⟨h1, h2, (h3 hal).1, (h3 hal).2.1, (h3 hal).2.2⟩
theorem PJ_start : PJ [] (0, [], none, 0, 0) := ⟨rfl, OwnOk.none _, fun _ => ⟨rfl, rfl, rfl⟩, fun h => absurd (fun x hx => by cases hx) h⟩
theorem PJ_go {pre : List (List UInt8)} {it : List UInt8} {k : Nat} {acc : List Stp} {o : K.Own} (hk : k = pre.length) (hacc : acc = accOf pre) (hal : ∀ x ∈ pre, lnP x = true) (hp : lnP it = true) (ko : OwnOk o 6 (acc ++ [(stepV (cutN it).1).1]).length (sv (acc ++ [(stepV (cutN it).1).1]))) : PJ (pre ++ [it]) (k + 1, acc ++ [(stepV (cutN it).1).1], o, 0, 0) := by
  refine ⟨by rw [List.length_append, ← hk]; rfl, ko, fun _ => ⟨by rw [hacc]; unfold accOf; rw [List.map_append]; rfl, rfl, rfl⟩, fun h => ?_⟩
  exact absurd (fun x hx => by
    rcases List.mem_append.1 hx with hx | hx
    · exact hal x hx
    · rw [List.mem_singleton.1 hx]; exact hp) h
theorem PJ_stop {pre : List (List UInt8)} {it : List UInt8} {k : Nat} {acc : List Stp} {o : K.Own} (hk : k = pre.length) (hp : lnP it = false) (ko : OwnOk o 6 acc.length (sv acc)) : PJ (pre ++ [it]) (k + 1, acc, o, ((k + 1 : Nat) : Int), 60) := by
  have hno : ¬ ∀ x ∈ pre ++ [it], lnP x = true := fun h => by
    have := h it (List.mem_append_right _ (List.mem_singleton.2 rfl))
    rw [hp] at this; cases this
  exact ⟨by rw [List.length_append, ← hk]; rfl, ko, fun h => absurd h hno, fun _ => ⟨by rw [List.length_append, ← hk]; rfl, rfl⟩⟩
theorem PJ_end {pre : List (List UInt8)} {it : List UInt8} {k : Nat} {acc : List Stp} {o : K.Own} {e3 e4 : Int} (h : PJ (pre ++ [it]) (k, acc, o, e3, e4)) (hp : lnP it = false) : e3 = ((pre.length + 1 : Nat) : Int) ∧ e4 = 60 := by
  have hno : ¬ ∀ x ∈ pre ++ [it], lnP x = true := fun h => by
    have := h it (List.mem_append_right _ (List.mem_singleton.2 rfl))
    rw [hp] at this; cases this
  have := h.2.2.2 hno
  rw [List.length_append] at this; exact this

theorem lnP_no {it : List UInt8} (h : ((!(cutN it).2) || (!(stepV (cutN it).1).2)) = true) : lnP it = false := by
  unfold lnP
  cases h1 : (cutN it).2 <;> cases h2 : (stepV (cutN it).1).2 <;> simp_all
theorem lnP_yes {it : List UInt8} (h : ((!(cutN it).2) || (!(stepV (cutN it).1).2)) = false) : lnP it = true := by
  unfold lnP
  cases h1 : (cutN it).2 <;> cases h2 : (stepV (cutN it).1).2 <;> simp_all

set_option maxRecDepth 100000 in
set_option maxHeartbeats 1000000 in
theorem sPrint (la : Option Addr) (cap : Nat) (l : List Stp) (Rl : List (Nat × Obj)) (t0 : TypeId) (fr0 : Nat × Nat) (w : World) (hI : InT Rl la l) (hR : Has w ((0, .cells pv t0 fr0) :: Rl)) (hq : ∀ s ∈ l, Kok s) (hl : l.length ≤ 100000) :
    Calls Tryd.prog 8 #[.slice la l.length cap] w fun e w' => e = .returned (.tuple #[.string (tx (printR l)), .int .i64 (printE l)]) ∧ Ext [] w w' := by
  refine enter (vs := [.slice la l.length cap]) [] ((0, .cells pv t0 fr0) :: Rl) [] Tryd.func8 rfl (by kernel_rfl) (HP.ofHas hR) ?_
  refine Cfg.reg rfl [0] [] (Γ' := [(0, [], .slice la l.length cap)]) (nd := (fun _ => [])) (fun _ => by kernel_rfl) trivial ?_
  refine Cfg.begL rfl ?_
  refine CfgL.eff (o := _) rfl (by kernel_rfl) (by kernel_rfl) (Eff.allocB 5 [] [] rfl rfl (by kernel_rfl)) ?_
  rintro b ⟨hb, nb⟩
  refine CfgL.done rfl ?_
  refine Cfg.reg rfl [4, 9, 10, 11] [] (Γ' := [(11, [], .int .i64 0), (10, [], .int .i64 (l.length : Int)), (9, [], .slice la l.length cap), (4, [], .pointer (some ⟨b, 0, none⟩))]) (nd := (fun _ => [])) (fun _ => by kernel_rfl) trivial ?_
  refine Cfg.setO (O' := ([] ++ (bl 46 5 b (printT (l.take 0)) bd0 ++ []))) (congrArg (fun (xq : List UInt8) => (([] ++ (bl 46 5 b xq bd0 ++ [])) : List (Nat × Obj))) (by rw [List.take_zero]; rfl)) ?_
  refine Cfg.loop rfl (ι := Nat × Bd) (fun (xz : Nat × Bd) => match xz with | (i, B) => [(11, [], .int .i64 (i : Int)), (10, [], .int .i64 (l.length : Int)), (9, [], .slice la l.length cap), (4, [], .pointer (some ⟨b, 0, none⟩))]) (fun (xz : Nat × Bd) => match xz with | (i, B) => ([] ++ (bl 46 5 b (printT (l.take i)) B ++ []))) (fun (xz : Nat × Bd) => match xz with | (i, B) => (i ≤ l.length) ∧ (BdOk b (printT (l.take i)) B) ∧ (printE (l.take i) = 0)) (fun (xz : Nat × Bd) => match xz with | (i, B) => l.length - i) (0, bd0) ?_ (Conv.mk (by kernel_rfl)) (List.Sublist.refl _) ?_
  · exact ⟨Nat.zero_le _, by rw [List.take_zero]; exact (bd0_ok b), by rw [List.take_zero]; rfl⟩
  · rintro ⟨i, B⟩ ⟨hi, hB, hE⟩
    refine Cfg.reg rfl [4, 9, 10, 11, 12] [] (Γ' := [(12, [], .bool (decide ((i : Int) < (l.length : Int)))), (11, [], .int .i64 (i : Int)), (10, [], .int .i64 (l.length : Int)), (9, [], .slice la l.length cap), (4, [], .pointer (some ⟨b, 0, none⟩))]) (nd := (fun _ => [])) (fun _ => by kernel_rfl) trivial ?_
    refine Cfg.cond rfl (b := (decide ((i : Int) < (l.length : Int)))) (by kernel_rfl) (fun c1r => ?_) (fun c1r => ?_)
    · have c1 : ((i : Int) < (l.length : Int)) := (of_decide_eq_true c1r)
      obtain ⟨qb, off, cs, te, fre, rfl, hmem, hcs⟩ := hI (by omega)
      have hv := kok_at hq i
      refine Conv.cfg (Γ' := [(12, [], .bool (decide ((i : Int) < (l.length : Int)))), (11, [], .int .i64 (i : Int)), (10, [], .int .i64 (l.length : Int)), (9, [], .slice (some ⟨qb, off, none⟩) l.length cap), (4, [], .pointer (some ⟨b, 0, none⟩))]) (Conv.mk (by kernel_rfl)) ?_
      refine Cfg.begL rfl ?_
      refine CfgL.pure 2 [(0, false, none), (0, false, some (.agg (stL (l.getD i sz0)).toArray))] (some [4, 9, 10, 11, 14]) (Γ' := [(14, [], .agg (stL (l.getD i sz0)).toArray), (11, [], .int .i64 (i : Int)), (10, [], .int .i64 (l.length : Int)), (9, [], .slice (some ⟨qb, off, none⟩) l.length cap), (4, [], .pointer (some ⟨b, 0, none⟩))]) (nd := (fun S => [(0 ≤ (i : Int) ∧ (i : Int) < (l.length : Int)), (∀ w1, S w1 → (loadVar 26 ⟨qb, (addO off (i * 6)), none⟩).run Tryd.prog w1 = .ok (.agg (stL (l.getD i sz0)).toArray) w1)])) (by kernel_rfl) (fun _ => by kernel_rfl) ⟨(by omega), (fun w1 h => load_list Tryd.underlying26 rfl (by kernel_rfl) rfl (fun j v hj => by rw [addO_eq]; exact (cell_cells (h.ro _ (List.mem_cons_of_mem _ hmem))).trans (t_cell hcs (by omega) hj))), trivial⟩ ?_
      refine CfgL.eff (o := _) rfl (by kernel_rfl) (by kernel_rfl) (Eff.alloc (z := (.agg (stL sz0).toArray)) rfl (by kernel_rfl)) ?_
      rintro sb ⟨hsb, nsb⟩
      refine CfgL.eff (o := _) rfl (by kernel_rfl) (by kernel_rfl) (Eff.storeN (b := sb) (off := 0) (vs := (stL (l.getD i sz0)).toArray) (n := 6) rfl (by kernel_rfl) (by kernel_rfl) (by kernel_rfl) rfl (st_all _) 0 (cs := (stL sz0).toArray) (e := 26) (by kernel_rfl) (by decide)) ?_
      rintro ⟨⟩ -
      refine CfgL.setO (O' := ([(sb, .cells ((stL (l.getD i sz0)).toArray) 26 (0, 0))] ++ (bl 46 5 b (printT (l.take i)) B ++ []))) (congrArg (fun (xq : Array Value) => (([(sb, .cells xq 26 (0, 0))] ++ (bl 46 5 b (printT (l.take i)) B ++ [])) : List (Nat × Obj))) ((spl_all (cs := (stL sz0).toArray) (vs := (stL (l.getD i sz0)).toArray) rfl))) ?_
      refine CfgL.done rfl ?_
      refine Conv.cfg (Γ' := [(6, [], .pointer (some ⟨sb, 0, none⟩)), (11, [], .int .i64 (i : Int)), (10, [], .int .i64 (l.length : Int)), (9, [], .slice (some ⟨qb, off, none⟩) l.length cap), (4, [], .pointer (some ⟨b, 0, none⟩))]) (Conv.mk (by kernel_rfl)) ?_
      refine Cfg.begL rfl ?_
      refine CfgL.pure 1 [(0, false, some (.agg (stL (l.getD i sz0)).toArray))] (some [4, 9, 10, 11, 16]) (Γ' := [(16, [], .agg (stL (l.getD i sz0)).toArray), (11, [], .int .i64 (i : Int)), (10, [], .int .i64 (l.length : Int)), (9, [], .slice (some ⟨qb, off, none⟩) l.length cap), (4, [], .pointer (some ⟨b, 0, none⟩))]) (nd := (fun S => [(∀ w1, S w1 → (loadVar 26 ⟨sb, 0, none⟩).run Tryd.prog w1 = .ok (.agg (stL (l.getD i sz0)).toArray) w1)])) (by kernel_rfl) (fun _ => by kernel_rfl) ⟨(fun w1 h => h.oload 0 rfl Tryd.underlying26 rfl (n := 6) (by kernel_rfl) rfl), trivial⟩ ?_
      refine CfgL.eff (o := _) rfl (by kernel_rfl) (by kernel_rfl) (Eff.callA (vs := [.agg (stL (l.getD i sz0)).toArray]) (.tuple #[.string (tx (lineR (l.getD i sz0))), .int .i64 (lineE (l.getD i sz0))]) rfl Tryd.func6 rfl rfl (by kernel_rfl) (fun w1 h => sLine (l.getD i sz0) t0 fr0 w1 hv.1 hv.2 (h.hasR (fun e he => by rw [List.mem_singleton.1 he]; exact List.mem_cons_self ..)))) ?_
      rintro ⟨⟩ -
      refine CfgL.pure 5 [] (some [4, 7, 8, 9, 10, 11]) (Γ' := [(8, [], .int .i64 (lineE (l.getD i sz0))), (7, [], .string (tx (lineR (l.getD i sz0)))), (11, [], .int .i64 (i : Int)), (10, [], .int .i64 (l.length : Int)), (9, [], .slice (some ⟨qb, off, none⟩) l.length cap), (4, [], .pointer (some ⟨b, 0, none⟩))]) (nd := (fun _ => [])) (by kernel_rfl) (fun _ => by kernel_rfl) trivial ?_
      refine CfgL.done rfl ?_
      refine Cfg.reg rfl [4, 7, 8, 9, 10, 11, 21] [] (Γ' := [(21, [], .bool ((lineE (l.getD i sz0)) != (0 : Int))), (8, [], .int .i64 (lineE (l.getD i sz0))), (7, [], .string (tx (lineR (l.getD i sz0)))), (11, [], .int .i64 (i : Int)), (10, [], .int .i64 (l.length : Int)), (9, [], .slice (some ⟨qb, off, none⟩) l.length cap), (4, [], .pointer (some ⟨b, 0, none⟩))]) (nd := (fun _ => [])) (fun _ => by kernel_rfl) trivial ?_
      refine Cfg.cond rfl (b := ((lineE (l.getD i sz0)) != (0 : Int))) (by kernel_rfl) (fun c2r => ?_) (fun c2r => ?_)
      · have c2 : ((lineE (l.getD i sz0)) ≠ (0 : Int)) := (bne_iff_ne.1 c2r)
        have c2e : lineE (l.getD i sz0) ≠ 0 := c2
        refine Cfg.reg rfl [2, 3] [] (Γ' := [(3, [], .int .i64 (lineE (l.getD i sz0))), (2, [], .string ⟨#[]⟩)]) (nd := (fun _ => [])) (fun _ => by kernel_rfl) trivial ?_
        refine Cfg.ret rfl (rs := [.tmp 2, .tmp 3]) rfl [.string ⟨#[]⟩, .int .i64 (lineE (l.getD i sz0))] ⟨by kernel_rfl, by kernel_rfl, trivial⟩ (fun w1 hp => ?_)
        have hp9 := printE_stop (by omega) hE c2e
        have hr : printR l = [] := by unfold printR; rw [hp9, if_neg c2e]
        exact ⟨by rw [hr, hp9]; rfl, hp.ext⟩
      · have c2 : ((lineE (l.getD i sz0)) = (0 : Int)) := (bne_eq_false_iff_eq.1 c2r)
        have c2e : lineE (l.getD i sz0) = 0 := c2
        refine Cfg.begL rfl ?_
        refine CfgL.pure 1 [] (some [4, 9, 10, 11, 23]) (Γ' := [(23, [], .string (tx (lineR (l.getD i sz0)))), (11, [], .int .i64 (i : Int)), (10, [], .int .i64 (l.length : Int)), (9, [], .slice (some ⟨qb, off, none⟩) l.length cap), (4, [], .pointer (some ⟨b, 0, none⟩))]) (nd := (fun _ => [])) (by kernel_rfl) (fun _ => by kernel_rfl) trivial ?_
        refine CfgL.eff (o := _) rfl (by kernel_rfl) (by kernel_rfl) (Eff.callH (vs := [.pointer (some ⟨b, 0, none⟩), .string (tx (lineR (l.getD i sz0)))]) (fun _ => (.tuple #[.int .i64 ((tx (lineR (l.getD i sz0))).size : Int), .nilIface] : Value)) (bl 46 5 b (printT (l.take i)) B) (fun B1 => bl 46 5 b ((printT (l.take i)) ++ (tx (lineR (l.getD i sz0))).data.toList) B1) (fun B1 => BdOk b ((printT (l.take i)) ++ (tx (lineR (l.getD i sz0))).data.toList) B1) [(sb, .cells ((stL (l.getD i sz0)).toArray) 26 (0, 0))] [] (by rfl) rfl Tryd.func15 rfl rfl (by kernel_rfl) (fun w1 h hh hd => bWriteString b (printT (l.take i)) B (tx (lineR (l.getD i sz0))) w1 hB hh hd (by have := take_fit hq i; have := lineR_len hv.2; rw [tx_size]; omega))) ?_
        rintro B2 kB2
        refine CfgL.done rfl ?_
        refine Conv.cfg (Γ' := [(11, [], .int .i64 (i : Int)), (10, [], .int .i64 (l.length : Int)), (9, [], .slice (some ⟨qb, off, none⟩) l.length cap), (4, [], .pointer (some ⟨b, 0, none⟩))]) (Conv.mk (by kernel_rfl)) ?_
        refine Cfg.begL rfl ?_
        refine CfgL.eff (o := _) rfl (by kernel_rfl) (by kernel_rfl) (Eff.callH (vs := [.pointer (some ⟨b, 0, none⟩), .int .u8 10]) (fun _ => (.nilIface : Value)) (bl 46 5 b ((printT (l.take i)) ++ (tx (lineR (l.getD i sz0))).data.toList) B2) (fun B1 => bl 46 5 b (((printT (l.take i)) ++ (tx (lineR (l.getD i sz0))).data.toList) ++ [10]) B1) (fun B1 => BdOk b (((printT (l.take i)) ++ (tx (lineR (l.getD i sz0))).data.toList) ++ [10]) B1) [(sb, .cells ((stL (l.getD i sz0)).toArray) 26 (0, 0))] [] (by rfl) rfl Tryd.func16 rfl rfl (by kernel_rfl) (fun w1 h hh hd => bWriteByte b ((printT (l.take i)) ++ (tx (lineR (l.getD i sz0))).data.toList) B2 10 w1 kB2 hh hd (by have := take_fit hq i; have := lineR_len hv.2; rw [List.length_append, tx_list]; omega))) ?_
        rintro B3 kB3
        refine CfgL.done rfl ?_
        refine Conv.cfg (Γ' := [(11, [], .int .i64 (i : Int)), (10, [], .int .i64 (l.length : Int)), (9, [], .slice (some ⟨qb, off, none⟩) l.length cap), (4, [], .pointer (some ⟨b, 0, none⟩))]) (Conv.mk (by kernel_rfl)) ?_
        refine Cfg.reg rfl [4, 9, 10, 11] [] (Γ' := [(11, [], .int .i64 ((i : Int) + 1)), (10, [], .int .i64 (l.length : Int)), (9, [], .slice (some ⟨qb, off, none⟩) l.length cap), (4, [], .pointer (some ⟨b, 0, none⟩))]) (nd := (fun _ => [((-9223372036854775808 : Int) ≤ ((i : Int) + 1) ∧ ((i : Int) + 1) ≤ 9223372036854775807)])) (fun _ => by kernel_rfl) ⟨(by omega), trivial⟩ ?_
        have hcs2 : (((printT (l.take i)) ++ (tx (lineR (l.getD i sz0))).data.toList) ++ [10]) = (printT (l.take (i + 1))) := by rw [printT_next (by omega), tx_list, lineR_ok c2e, List.append_assoc]
        refine Cfg.setO (O' := ([(sb, .cells ((stL (l.getD i sz0)).toArray) 26 (0, 0))] ++ (bl 46 5 b (printT (l.take (i + 1))) B3 ++ []))) (congrArg (fun (xq : List UInt8) => (([(sb, .cells ((stL (l.getD i sz0)).toArray) 26 (0, 0))] ++ (bl 46 5 b xq B3 ++ [])) : List (Nat × Obj))) (hcs2)) ?_
        refine Cfg.again rfl (i + 1, B3) ⟨by omega, hcs2 ▸ kB3, printE_next (by omega) hE c2e⟩ (by show l.length - (i + 1) < l.length - i; omega) (Conv.mk (by kernel_rfl)) (.cons _ (List.Sublist.refl _))
    · have c1 : (¬ ((i : Int) < (l.length : Int))) := (of_decide_eq_false c1r)
      have hil : l.take i = l := List.take_of_length_le (by omega)
      refine Cfg.setO (O' := ([] ++ (bl 46 5 b (printT l) B ++ []))) (congrArg (fun (xq : List UInt8) => (([] ++ (bl 46 5 b xq B ++ [])) : List (Nat × Obj))) (by rw [hil])) ?_
      rw [hil] at hB hE
      refine Conv.cfg (Γ' := [(4, [], .pointer (some ⟨b, 0, none⟩))]) (Conv.mk (by kernel_rfl)) ?_
      refine Cfg.begL rfl ?_
      refine CfgL.eff (o := _) rfl (by kernel_rfl) (by kernel_rfl) (Eff.callH (vs := [.pointer (some ⟨b, 0, none⟩)]) (fun _ : Unit => (.string (tx (printT l)) : Value)) (bl 46 5 b (printT l) B) (fun _ => []) (fun _ => True) [] [] (by rfl) rfl Tryd.func17 rfl rfl (by kernel_rfl) (fun w1 h hh hd => bString b (printT l) B w1 hB hh hd (by have := take_fit hq l.length; rw [List.take_length] at this; omega))) ?_
      rintro ⟨⟩ -
      refine CfgL.pure 2 [] (some [2, 3]) (Γ' := [(3, [], .int .i64 0), (2, [], .string (tx (printT l)))]) (nd := (fun _ => [])) (by kernel_rfl) (fun _ => by kernel_rfl) trivial ?_
      refine CfgL.done rfl ?_
      refine Cfg.ret rfl (rs := [.tmp 2, .tmp 3]) rfl [.string (tx (printT l)), .int .i64 0] ⟨by kernel_rfl, by kernel_rfl, trivial⟩ (fun w1 hp => ?_)
      have hr : printR l = printT l := by unfold printR; rw [if_pos hE]
      exact ⟨by rw [hr, hE]; rfl, hp.ext⟩

end Go.Proofs.YtoopekjbikcebaaDoor
