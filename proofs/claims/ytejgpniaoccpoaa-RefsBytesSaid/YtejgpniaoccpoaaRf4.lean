/- refs: a row without one of its refs. -/
import Derived.Test.YtejgpniaoccpoaaRf3
namespace Go.Proofs.Ytejgpniaoccpoaa
open K
set_option linter.unusedVariables false

/-- One ref more at place i. -/
def insF (l : List Rf) (i : Nat) (x : Rf) : List Rf := l.take i ++ x :: l.drop i
theorem insF_len {l : List Rf} {i : Nat} (x : Rf) (h : i ≤ l.length) : (insF l i x).length = l.length + 1 := by unfold insF; rw [List.length_append, List.length_cons, List.length_take, List.length_drop]; omega
theorem rv_ins (l : List Rf) (i : Nat) (x : Rf) : rv (insF l i x) = rv (l.take i) ++ (rc x ++ rv (l.drop i)) := by unfold insF; rw [rv_app, rv_cons]
theorem W32.ins {l : List Rf} {x : Rf} (h : W32 l) (hx : x.2.length = 32) (i : Nat) : W32 (insF l i x) := W32.app (h.take i) (fun y hy => by rcases List.mem_cons.1 hy with rfl | hy; exact hx; exact h.drop i y hy)
theorem rv_split (l : List Rf) (i : Nat) : rv l = rv (l.take i) ++ rv (l.drop i) := by rw [← rv_app, List.take_append_drop]
theorem rvt_len {l : List Rf} (h : W32 l) {i : Nat} (hi : i ≤ l.length) : (rv (l.take i)).length = i * 33 := by rw [rv_len (h.take i), List.length_take]; congr 1; omega
theorem rvd_len {l : List Rf} (h : W32 l) (i : Nat) : (rv (l.drop i)).length = (l.length - i) * 33 := by rw [rv_len (h.drop i), List.length_drop]
def delB (l : List Rf) (junk : List Value) (i : Nat) : List Value := (rv (l.drop i) ++ junk).take ((l.length - (i + 1)) * 33)
def delT (l : List Rf) (junk : List Value) (i : Nat) : List Value := (rv (l.drop i) ++ junk).drop ((l.length - (i + 1)) * 33)
theorem del_eq (l : List Rf) (junk : List Value) (i : Nat) : rv l ++ junk = rv (l.take i) ++ delB l junk i ++ delT l junk i := by
  unfold delB delT
  rw [List.append_assoc (rv (l.take i)), List.take_append_drop, ← List.append_assoc, ← rv_split]
theorem delB_len {l : List Rf} (h : W32 l) (junk : List Value) (i : Nat) (hi : i < l.length) : (delB l junk i).length = (l.length - (i + 1)) * 33 := by
  unfold delB
  rw [List.length_take, List.length_append, rvd_len h]; omega
theorem delT_len {l : List Rf} (h : W32 l) (junk : List Value) (i : Nat) (hi : i < l.length) : (delT l junk i).length = junk.length + 33 := by
  unfold delT
  rw [List.length_drop, List.length_append, rvd_len h]; omega
theorem rv_erase (l : List Rf) (i : Nat) : rv (l.eraseIdx i) = rv (l.take i) ++ rv (l.drop (i + 1)) := by rw [List.eraseIdx_eq_take_drop_succ, rv_app]
theorem del_src {w0 w : World} {M : List Nat} {R : List (Nat × Obj)} {b cap : Nat} {l : List Rf} {junk : List Value} {t : TypeId} {i : Nat} (hW : W32 l) (hi : i < l.length) (hc : l.length ≤ cap) (h : HP w0 M R [(b, Obj.cells (rv l ++ junk).toArray t (0, 0))] w) {j : Nat} {v : Value} (hv : (rv (l.drop (i + 1)))[j]? = some v) :
    w.cell? ⟨b, (if cap = i + 1 then 0 else (i + 1) * 33) + j, none⟩ = some v := by
  have hj : j < (l.length - (i + 1)) * 33 := by
    have := (List.getElem?_eq_some_iff.1 hv).1
    rwa [rvd_len hW] at this
  rw [if_neg (by omega), cell_cells (h.own _ (List.mem_cons_self ..)), List.getElem?_toArray, rv_split l (i + 1), List.append_assoc, List.getElem?_append_right (by rw [rvt_len hW (by omega)]; omega), rvt_len hW (by omega),
    show (i + 1) * 33 + j - (i + 1) * 33 = j by omega, List.getElem?_append_left (by rw [rvd_len hW]; exact hj)]
  exact hv
theorem zrz_len (n : Nat) : (Builtin.zeroCells (Value.cells (.agg (rc rz).toArray)) n).toList.length = n * 33 := by rw [Array.length_toList, zeroCells_size]; rfl
theorem zrz_all (n : Nat) : ∀ v ∈ (Builtin.zeroCells (Value.cells (.agg (rc rz).toArray)) n).toList, one v = true := by
  intro v hv
  unfold Builtin.zeroCells at hv
  rw [Array.toList_map, List.mem_map] at hv
  obtain ⟨k, _, rfl⟩ := hv
  have hk : k % (Value.cells (.agg (rc rz).toArray)).size < (Value.cells (.agg (rc rz).toArray)).size := Nat.mod_lt _ (by show 0 < 33; decide)
  rw [getElem!_pos (Value.cells (.agg (rc rz).toArray)) (k % (Value.cells (.agg (rc rz).toArray)).size) hk]
  exact rc_all rz _ (Array.mem_toList_iff.2 (Array.getElem_mem hk))

set_option maxRecDepth 100000 in
theorem rDelete (b cap i : Nat) (l : List Rf) (junk : List Value) (w : World) (hi : i < l.length) (hW : W32 l) (hm : l.length ≤ 4096) (hc : l.length ≤ cap) (hb : w.heap[b]? = some (.cells (rv l ++ junk).toArray 50 (0, 0))) :
    Calls Try.prog 41 #[.slice (some ⟨b, 0, none⟩) l.length cap, .int .i64 (i : Int), .int .i64 ((i : Int) + 1)] w fun e w' => e = .returned (.slice (some ⟨b, 0, none⟩) (l.length - 1) cap) ∧ Ext [b] w w' ∧ ∃ j2 : List Value, j2.length = junk.length + 33 ∧ w'.heap[b]? = some (.cells (rv (l.eraseIdx i) ++ j2).toArray 50 (0, 0)) := by
  refine enter (vs := [.slice (some ⟨b, 0, none⟩) l.length cap, .int .i64 (i : Int), .int .i64 ((i : Int) + 1)]) [b] [] [(b, .cells ((rv l ++ junk).toArray) 50 (0, 0))] Try.func41 rfl (by kernel_rfl) (HP.startM (R := []) (fun _ h => by cases h) hb (by simp)) ?_
  refine Cfg.reg rfl [0, 1, 2] [] (Γ' := [(0, [], .slice (some ⟨b, 0, none⟩) l.length cap), (1, [], .int .i64 (i : Int)), (2, [], .int .i64 ((i : Int) + 1))]) (nd := (fun _ => [])) (fun _ => by kernel_rfl) trivial ?_
  refine Cfg.begL rfl ?_
  refine CfgL.pure 5 [] none (Γ' := [(12, [], .int .i64 (l.length : Int)), (11, [], .slice (some ⟨b, 0, none⟩) l.length cap), (10, [], .int .i64 ((i : Int) + 1)), (9, [], .int .i64 (i : Int)), (8, [], .slice (some ⟨b, 0, none⟩) l.length cap), (0, [], .slice (some ⟨b, 0, none⟩) l.length cap), (1, [], .int .i64 (i : Int)), (2, [], .int .i64 ((i : Int) + 1))]) (nd := (fun _ => [])) (by kernel_rfl) (fun _ => by kernel_rfl) trivial ?_
  refine CfgL.eff (o := _) rfl (by kernel_rfl) (by kernel_rfl) (Eff.slice3 (i := (i : Int)) (j := ((i : Int) + 1)) (k := (l.length : Int)) (n := l.length) (c := cap) (a := some ⟨b, 0, none⟩) (sz := 33) rfl Try.underlying22 (by kernel_rfl) (by kernel_rfl) (by kernel_rfl) (by kernel_rfl) (by kernel_rfl) (by omega)) ?_
  rintro vx -
  refine CfgL.done rfl ?_
  refine Conv.cfg (Γ' := [(0, [], .slice (some ⟨b, 0, none⟩) l.length cap), (1, [], .int .i64 (i : Int)), (2, [], .int .i64 ((i : Int) + 1))]) (Conv.mk (by kernel_rfl)) ?_
  refine Cfg.reg rfl [0, 1, 2, 16] [] (Γ' := [(16, [], .bool ((i : Int) == ((i : Int) + 1))), (0, [], .slice (some ⟨b, 0, none⟩) l.length cap), (1, [], .int .i64 (i : Int)), (2, [], .int .i64 ((i : Int) + 1))]) (nd := (fun _ => [])) (fun _ => by kernel_rfl) trivial ?_
  refine Cfg.condF rfl (b := ((i : Int) == ((i : Int) + 1))) (by kernel_rfl) (beq_eq_false_iff_ne.2 (by omega)) ?_
  refine Cfg.reg rfl [0, 1, 2, 7] [] (Γ' := [(7, [], .int .i64 (l.length : Int)), (0, [], .slice (some ⟨b, 0, none⟩) l.length cap), (1, [], .int .i64 (i : Int)), (2, [], .int .i64 ((i : Int) + 1))]) (nd := (fun _ => [])) (fun _ => by kernel_rfl) trivial ?_
  refine Cfg.begA rfl (by kernel_rfl) [] ?_
  refine CfgA.pure [0, 1, 2, 3, 4, 5] [] none (l' := #[true, true, true, true, true, true, false, false]) (by kernel_rfl) (by kernel_rfl) (.cons _ .slnil) 2 rfl (Γ' := [(25, [], .slice (some ⟨b, (if cap = (i + 1) then 0 else (((i + 1)) * 33)), none⟩) (l.length - ((i + 1))) (cap - ((i + 1)))), (24, [], .int .i64 ((i : Int) + 1)), (23, [], .slice (some ⟨b, 0, none⟩) l.length cap), (22, [], .slice (some ⟨b, 0, none⟩) i cap), (21, [], .int .i64 (i : Int)), (20, [], .slice (some ⟨b, 0, none⟩) l.length cap), (7, [], .int .i64 (l.length : Int)), (0, [], .slice (some ⟨b, 0, none⟩) l.length cap), (1, [], .int .i64 (i : Int)), (2, [], .int .i64 ((i : Int) + 1))]) (nd := (fun _ => [(0 ≤ (i : Int)), (i ≤ cap), (0 ≤ ((i : Int) + 1)), ((i + 1) ≤ l.length ∧ l.length ≤ cap)])) (fun _ => by kernel_rfl) ⟨(by omega), (by omega), (by omega), (by omega), trivial⟩ ?_
  refine CfgA.eff 6 (o := _) rfl (by kernel_rfl) (fuel' := 1) rfl (by kernel_rfl) (by kernel_rfl) (Eff.appendRoom rfl 33 Try.underlying22 (by kernel_rfl) (b := b) (n := i) (cap := cap) (by kernel_rfl) (b2 := b) (off2 := (if cap = (i + 1) then 0 else ((i + 1) * 33))) (m := (l.length - (i + 1))) (c2 := (cap - (i + 1))) (by kernel_rfl) 0 (rv (l.take i)) (delB l junk i) (delT l junk i) (congrArg (fun (L : List Value) => some (b, Obj.cells L.toArray 50 (0, 0))) (del_eq l junk i)) (rv (l.drop (i + 1))) (rvt_len hW (by omega)) (by rw [delB_len hW _ _ hi, rvd_len hW]) (rvd_len hW _) (rv_all _) (fun w1 h j v hj => del_src hW hi hc h hj) (by omega)) (fun _ _ => List.nil_sublist _) ?_
  rintro ⟨⟩ -
  refine CfgA.pure [7] [] (some [0, 7]) (l' := #[true, true, true, true, true, true, true, true]) (by kernel_rfl) (by kernel_rfl) (.cons _ .slnil) 0 rfl (Γ' := [(0, [], .slice (some ⟨b, 0, none⟩) (i + (l.length - (i + 1))) cap), (7, [], .int .i64 (l.length : Int))]) (nd := (fun _ => [])) (fun _ => by kernel_rfl) trivial ?_
  refine CfgA.done (by kernel_rfl) ?_
  have hfit : (if cap = (i + (l.length - (i + 1))) then 0 else ((i + (l.length - (i + 1))) * 33)) + (l.length - (i + (l.length - (i + 1)))) * (Value.cells (.agg (rc rz).toArray)).size ≤ ((rv (l.take i) ++ rv (l.drop (i + 1)) ++ delT l junk i).toArray).size := by
    rw [if_neg (by omega), show (Value.cells (.agg (rc rz).toArray)).size = 33 from rfl, List.size_toArray, List.length_append, List.length_append, rvt_len hW (by omega), rvd_len hW, delT_len hW junk i hi]; omega
  refine Cfg.begL rfl ?_
  refine CfgL.pure 5 [] none (Γ' := [(31, [], .slice (some ⟨b, (if cap = ((i + (l.length - (i + 1)))) then 0 else ((((i + (l.length - (i + 1))))) * 33)), none⟩) (l.length - (((i + (l.length - (i + 1)))))) (cap - (((i + (l.length - (i + 1))))))), (30, [], .int .i64 (l.length : Int)), (29, [], .int .i64 (((i + (l.length - (i + 1))) : Nat) : Int)), (28, [], .slice (some ⟨b, 0, none⟩) (i + (l.length - (i + 1))) cap), (27, [], .slice (some ⟨b, 0, none⟩) (i + (l.length - (i + 1))) cap), (0, [], .slice (some ⟨b, 0, none⟩) (i + (l.length - (i + 1))) cap), (7, [], .int .i64 (l.length : Int))]) (nd := (fun _ => [(0 ≤ (((i + (l.length - (i + 1))) : Nat) : Int)), (0 ≤ (l.length : Int)), (((i + (l.length - (i + 1)))) ≤ l.length ∧ l.length ≤ cap)])) (by kernel_rfl) (fun _ => by kernel_rfl) ⟨(by omega), (by omega), (by omega), trivial⟩ ?_
  refine CfgL.eff (o := _) rfl (by kernel_rfl) (by kernel_rfl) (Eff.clearC rfl Try.underlying22 (z := (.agg (rc rz).toArray)) (by kernel_rfl) (b := b) (off := (if cap = ((i + (l.length - (i + 1)))) then 0 else ((((i + (l.length - (i + 1))))) * 33))) (n := (l.length - (((i + (l.length - (i + 1))))))) (c := (cap - (((i + (l.length - (i + 1))))))) (by kernel_rfl) (by omega) 0 (cs := (rv (l.take i) ++ rv (l.drop (i + 1)) ++ delT l junk i).toArray) (te := 50) (by kernel_rfl) (zrz_all _) hfit) ?_
  rintro ⟨⟩ -
  refine CfgL.done rfl ?_
  refine Conv.cfg (Γ' := [(0, [], .slice (some ⟨b, 0, none⟩) (i + (l.length - (i + 1))) cap)]) (Conv.mk (by kernel_rfl)) ?_
  refine Cfg.reg rfl [6] [] (Γ' := [(6, [], .slice (some ⟨b, 0, none⟩) (i + (l.length - (i + 1))) cap)]) (nd := (fun _ => [])) (fun _ => by kernel_rfl) trivial ?_
  refine Cfg.ret rfl (rs := [.tmp 6]) rfl [.slice (some ⟨b, 0, none⟩) (i + (l.length - (i + 1))) cap] ⟨by kernel_rfl, trivial⟩ (fun w1 hp => ?_)
  have hj : delT l junk i = (delT l junk i).take 33 ++ (delT l junk i).drop 33 := (List.take_append_drop _ _).symm
  have hdl := delT_len hW junk i hi
  have hsp := spl_at (L := rv (l.take i) ++ rv (l.drop (i + 1)) ++ delT l junk i) (A := rv (l.take i) ++ rv (l.drop (i + 1))) (B := (delT l junk i).take 33) (T := (delT l junk i).drop 33) (vs := (Builtin.zeroCells (Value.cells (.agg (rc rz).toArray)) (l.length - (((i + (l.length - (i + 1))))))).toList) (off := (if cap = ((i + (l.length - (i + 1)))) then 0 else ((((i + (l.length - (i + 1))))) * 33))) (by rw [List.append_assoc (rv (l.take i) ++ rv (l.drop (i + 1))), List.take_append_drop]) (by rw [if_neg (by omega), List.length_append, rvt_len hW (by omega), rvd_len hW]; omega) (by rw [zrz_len, List.length_take]; omega)
  refine ⟨by rw [show i + (l.length - (i + 1)) = l.length - 1 by omega]; rfl, hp.ext, (Builtin.zeroCells (Value.cells (.agg (rc rz).toArray)) (l.length - (((i + (l.length - (i + 1))))))).toList ++ (delT l junk i).drop 33, by rw [List.length_append, zrz_len, List.length_drop]; omega, ?_⟩
  have hh := hp.own _ (List.mem_cons_self ..)
  rw [rv_erase, ← List.append_assoc, ← hsp]
  exact hh

end Go.Proofs.Ytejgpniaoccpoaa
