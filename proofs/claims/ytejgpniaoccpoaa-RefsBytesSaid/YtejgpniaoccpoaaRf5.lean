/- refs: a row with one ref more at a place. -/
import Derived.Test.YtejgpniaoccpoaaRf4
namespace Go.Proofs.Ytejgpniaoccpoaa
open K
set_option linter.unusedVariables false

theorem spl_size (vs : List Value) : ∀ (cs : Array Value) (off : Nat), (spl cs off vs).size = cs.size := by
  induction vs with
  | nil => intro cs off; rfl
  | cons v vs ih => intro cs off; rw [spl, ih, Array.size_setIfInBounds]

theorem rv_end (l : List Rf) (x : Rf) : rv (insF l l.length x) = rv l ++ rc x := by rw [rv_ins, List.take_length, List.drop_length]; simp [rv]
theorem ins_grow {l : List Rf} {x : Rf} {i : Nat} {Z j2 : List Value} {o1 o2 : Nat} (hW : W32 l) (hx : x.2.length = 32) (hi : i ≤ l.length) (hZ : Z.length = (l.length + 1 - i) * 33) (h1 : o1 = i * 33) (h2 : o2 = (i + 1) * 33) :
    spl (spl (rv (l.take i) ++ Z ++ j2).toArray o1 (rc x)) o2 (rv (l.drop i)) = (rv (insF l i x) ++ j2).toArray := by
  have e1 : spl (rv (l.take i) ++ Z ++ j2).toArray o1 (rc x) = (rv (l.take i) ++ rc x ++ (Z.drop 33 ++ j2)).toArray :=
    spl_at (A := rv (l.take i)) (B := Z.take 33) (T := Z.drop 33 ++ j2) (by rw [List.append_assoc (rv (l.take i)) (Z.take 33), ← List.append_assoc (Z.take 33), List.take_append_drop, List.append_assoc]) (by rw [rvt_len hW hi, h1]) (by rw [rc_len hx, List.length_take]; omega)
  rw [e1]
  have e2 : spl (rv (l.take i) ++ rc x ++ (Z.drop 33 ++ j2)).toArray o2 (rv (l.drop i)) = ((rv (l.take i) ++ rc x) ++ rv (l.drop i) ++ j2).toArray :=
    spl_at (A := rv (l.take i) ++ rc x) (B := Z.drop 33) (T := j2) (by rw [List.append_assoc (rv (l.take i) ++ rc x)]) (by rw [List.length_append, rvt_len hW hi, rc_len hx, h2]; omega) (by rw [rvd_len hW, List.length_drop, hZ]; omega)
  rw [e2, rv_ins]
  simp only [List.append_assoc]
theorem ins_room {l : List Rf} {x : Rf} {i : Nat} {junk : List Value} {o1 o2 : Nat} (hW : W32 l) (hx : x.2.length = 32) (hi : i ≤ l.length) (hj : 33 ≤ junk.length) (h1 : o1 = i * 33) (h2 : o2 = (i + 1) * 33) :
    spl (spl (rv l ++ junk).toArray o2 (rv (l.drop i))) o1 (rc x) = (rv (insF l i x) ++ junk.drop 33).toArray := by
  have hd := rvd_len hW i
  have hD : ((rv (l.drop i) ++ junk).drop 33).drop ((l.length - i) * 33) = junk.drop 33 := by
    rw [List.drop_drop, show 33 + (l.length - i) * 33 = (rv (l.drop i)).length + 33 by omega, ← List.drop_drop, List.drop_left]
  have e1 : spl (rv l ++ junk).toArray o2 (rv (l.drop i)) = ((rv (l.take i) ++ (rv (l.drop i) ++ junk).take 33) ++ rv (l.drop i) ++ junk.drop 33).toArray :=
    spl_at (A := rv (l.take i) ++ (rv (l.drop i) ++ junk).take 33) (B := ((rv (l.drop i) ++ junk).drop 33).take ((l.length - i) * 33)) (T := junk.drop 33)
      (by rw [← hD, List.append_assoc (rv (l.take i) ++ _), List.take_append_drop, List.append_assoc, List.take_append_drop, ← List.append_assoc, ← rv_split])
      (by rw [List.length_append, rvt_len hW hi, List.length_take, List.length_append, hd, h2]; omega)
      (by rw [hd, List.length_take, List.length_drop, List.length_append, hd]; omega)
  rw [e1]
  have e2 : spl ((rv (l.take i) ++ (rv (l.drop i) ++ junk).take 33) ++ rv (l.drop i) ++ junk.drop 33).toArray o1 (rc x) = (rv (l.take i) ++ rc x ++ (rv (l.drop i) ++ junk.drop 33)).toArray :=
    spl_at (A := rv (l.take i)) (B := (rv (l.drop i) ++ junk).take 33) (T := rv (l.drop i) ++ junk.drop 33) (by simp only [List.append_assoc]) (by rw [rvt_len hW hi, h1]) (by rw [rc_len hx, List.length_take, List.length_append]; omega)
  rw [e2, rv_ins]
  simp only [List.append_assoc]
theorem take_src {w0 w : World} {M : List Nat} {R O : List (Nat × Obj)} (h : HP w0 M R O w) {b : Nat} {l : List Rf} {junk : List Value} {t : TypeId} {i : Nat} (hm : (b, Obj.cells (rv l ++ junk).toArray t (0, 0)) ∈ O) {j : Nat} {v : Value} (hv : (rv (l.take i))[j]? = some v) : w.cell? ⟨b, 0 + j, none⟩ = some v := by
  rw [cell_cells (h.own _ hm), Nat.zero_add]
  obtain ⟨hj, hx⟩ := List.getElem?_eq_some_iff.1 hv
  rw [List.getElem?_toArray, rv_split l i, List.append_assoc, List.getElem?_append_left hj, hv]
theorem drop_src {w0 w : World} {M : List Nat} {R O : List (Nat × Obj)} (h : HP w0 M R O w) {b off : Nat} {l : List Rf} {junk : List Value} {t : TypeId} {i : Nat} (hW : W32 l) (hi : i ≤ l.length) (ho : off = i * 33) (hm : (b, Obj.cells (rv l ++ junk).toArray t (0, 0)) ∈ O) {j : Nat} {v : Value} (hv : (rv (l.drop i))[j]? = some v) : w.cell? ⟨b, off + j, none⟩ = some v := by
  rw [cell_cells (h.own _ hm)]
  obtain ⟨hj, hx⟩ := List.getElem?_eq_some_iff.1 hv
  rw [List.getElem?_toArray, rv_split l i, List.append_assoc, List.getElem?_append_right (by rw [rvt_len hW hi]; omega), rvt_len hW hi, show off + j - i * 33 = j by omega, List.getElem?_append_left hj, hv]
theorem one_src {w0 w : World} {M : List Nat} {R O : List (Nat × Obj)} (h : HP w0 M R O w) {b : Nat} {x : Rf} {t : TypeId} (hm : (b, Obj.cells (rc x).toArray t (0, 0)) ∈ R) {j : Nat} {v : Value} (hv : (rc x)[j]? = some v) : w.cell? ⟨b, 0 + j, none⟩ = some v := by
  rw [cell_cells (h.ro _ hm), Nat.zero_add, List.getElem?_toArray, hv]

set_option maxRecDepth 100000 in
theorem rInsertN (vb : Nat) (x : Rf) (w : World) (hx : x.2.length = 32) (hR : Has w [(vb, .cells (rc x).toArray 50 (0, 0))]) :
    Calls Try.prog 68 #[.slice none 0 0, .int .i64 0, .slice (some ⟨vb, 0, none⟩) 1 1] w fun e w' => ∃ o2 : K.Own, OwnOk o2 33 1 (rc x) ∧ e = .returned (.slice o2.a 1 o2.c) ∧ ∃ R1, HP w [] R1 (o2.o 50 (rc x)) w' := by
  refine enter (vs := [.slice none 0 0, .int .i64 0, .slice (some ⟨vb, 0, none⟩) 1 1]) [] [(vb, .cells ((rc x).toArray) 50 (0, 0))] [] Try.func68 rfl (by kernel_rfl) (HP.ofHas hR) ?_
  refine Cfg.reg rfl [0, 1, 2] [] (Γ' := [(0, [], .slice none 0 0), (1, [], .int .i64 0), (2, [], .slice (some ⟨vb, 0, none⟩) 1 1)]) (nd := (fun _ => [])) (fun _ => by kernel_rfl) trivial ?_
  refine Cfg.begL rfl ?_
  refine CfgL.pure 2 [] none (Γ' := [(11, [], .int .i64 0), (10, [], .slice none 0 0), (0, [], .slice none 0 0), (1, [], .int .i64 0), (2, [], .slice (some ⟨vb, 0, none⟩) 1 1)]) (nd := (fun _ => [])) (by kernel_rfl) (fun _ => by kernel_rfl) trivial ?_
  refine CfgL.eff (o := _) rfl (by kernel_rfl) (by kernel_rfl) (Eff.sliceNil rfl Try.underlying22 (by kernel_rfl) (by kernel_rfl) (by kernel_rfl)) ?_
  rintro ⟨⟩ -
  refine CfgL.done rfl ?_
  refine Conv.cfg (Γ' := [(0, [], .slice none 0 0), (1, [], .int .i64 0), (2, [], .slice (some ⟨vb, 0, none⟩) 1 1)]) (Conv.mk (by kernel_rfl)) ?_
  refine Cfg.reg rfl [0, 1, 2, 7] [] (Γ' := [(7, [], .int .i64 (1 : Int)), (0, [], .slice none 0 0), (1, [], .int .i64 0), (2, [], .slice (some ⟨vb, 0, none⟩) 1 1)]) (nd := (fun _ => [])) (fun _ => by kernel_rfl) trivial ?_
  refine Cfg.reg rfl [0, 1, 2, 7, 16] [] (Γ' := [(16, [], .bool ((1 : Int) == (0 : Int))), (7, [], .int .i64 (1 : Int)), (0, [], .slice none 0 0), (1, [], .int .i64 0), (2, [], .slice (some ⟨vb, 0, none⟩) 1 1)]) (nd := (fun _ => [])) (fun _ => by kernel_rfl) trivial ?_
  refine Cfg.condF rfl (b := ((1 : Int) == (0 : Int))) (by kernel_rfl) (by decide) ?_
  refine Cfg.reg rfl [0, 1, 2, 7, 8] [] (Γ' := [(8, [], .int .i64 (0 : Int)), (7, [], .int .i64 (1 : Int)), (0, [], .slice none 0 0), (1, [], .int .i64 0), (2, [], .slice (some ⟨vb, 0, none⟩) 1 1)]) (nd := (fun _ => [])) (fun _ => by kernel_rfl) trivial ?_
  refine Cfg.reg rfl [0, 1, 2, 7, 8, 22] [] (Γ' := [(22, [], .bool ((0 : Int) == (0 : Int))), (8, [], .int .i64 (0 : Int)), (7, [], .int .i64 (1 : Int)), (0, [], .slice none 0 0), (1, [], .int .i64 0), (2, [], .slice (some ⟨vb, 0, none⟩) 1 1)]) (nd := (fun _ => [])) (fun _ => by kernel_rfl) trivial ?_
  refine Cfg.condT rfl (b := ((0 : Int) == (0 : Int))) (by kernel_rfl) rfl ?_
  refine Cfg.begL rfl ?_
  refine CfgL.pure 2 [] none (Γ' := [(24, [], .slice (some ⟨vb, 0, none⟩) 1 1), (23, [], .slice none 0 0), (22, [], .bool ((0 : Int) == (0 : Int))), (8, [], .int .i64 (0 : Int)), (7, [], .int .i64 (1 : Int)), (0, [], .slice none 0 0), (1, [], .int .i64 0), (2, [], .slice (some ⟨vb, 0, none⟩) 1 1)]) (nd := (fun _ => [])) (by kernel_rfl) (fun _ => by kernel_rfl) trivial ?_
  refine CfgL.eff (o := _) rfl (by kernel_rfl) (by kernel_rfl) (Eff.appendF rfl 33 48 Try.underlying22 (by kernel_rfl) (z := (.agg (rc rz).toArray)) (by kernel_rfl) rfl none (n := 0) (xs := []) (OwnOk.none _) (by kernel_rfl) (b2 := vb) (off2 := 0) (m := 1) (c2 := 1) (by kernel_rfl) (rc x) (rc_len hx) (rc_all x) [] [] rfl (fun w1 h j v hj => one_src h (List.mem_cons_self ..) hj) (by decide) (by decide)) ?_
  rintro o ko
  refine CfgL.pure 1 [] (some [6]) (Γ' := [(6, [], .slice (Own.a o) ((0 + 1)) (Own.c o))]) (nd := (fun _ => [])) (by kernel_rfl) (fun _ => by kernel_rfl) trivial ?_
  refine CfgL.done rfl ?_
  refine Cfg.ret rfl (rs := [.tmp 6]) rfl [.slice (Own.a o) ((0 + 1)) (Own.c o)] ⟨by kernel_rfl, trivial⟩ (fun w1 hp => ?_)
  exact ⟨o, ko, rfl, _, hp.sub (by simp)⟩

set_option maxRecDepth 100000 in
theorem rInsertB (b cap vb i : Nat) (l : List Rf) (junk : List Value) (x : Rf) (w : World) (hi : i ≤ l.length) (hW : W32 l) (hx : x.2.length = 32) (hm : l.length ≤ 4096) (hok : OwnOk (some (b, cap, junk)) 33 l.length (rv l)) (hb : w.heap[b]? = some (.cells (rv l ++ junk).toArray 50 (0, 0))) (hR : Has w [(vb, .cells (rc x).toArray 50 (0, 0))]) (hne : vb ≠ b) :
    Calls Try.prog 68 #[.slice (some ⟨b, 0, none⟩) l.length cap, .int .i64 (i : Int), .slice (some ⟨vb, 0, none⟩) 1 1] w fun e w' => ∃ o2 : K.Own, OwnOk o2 33 (l.length + 1) (rv (insF l i x)) ∧ e = .returned (.slice o2.a (l.length + 1) o2.c) ∧ ∃ R1, HP w [b] R1 (o2.o 50 (rv (insF l i x))) w' := by
  obtain ⟨hj, hc⟩ := hok.some _ rfl
  simp only at hj hc
  rw [rv_len hW] at hj
  refine enter (vs := [.slice (some ⟨b, 0, none⟩) l.length cap, .int .i64 (i : Int), .slice (some ⟨vb, 0, none⟩) 1 1]) [b] [(vb, .cells ((rc x).toArray) 50 (0, 0))] [(b, .cells ((rv l ++ junk).toArray) 50 (0, 0))] Try.func68 rfl (by kernel_rfl) (HP.startM hR hb (by simp; omega)) ?_
  refine Cfg.reg rfl [0, 1, 2] [] (Γ' := [(0, [], .slice (some ⟨b, 0, none⟩) l.length cap), (1, [], .int .i64 (i : Int)), (2, [], .slice (some ⟨vb, 0, none⟩) 1 1)]) (nd := (fun _ => [])) (fun _ => by kernel_rfl) trivial ?_
  refine Cfg.reg rfl [0, 1, 2] [] (Γ' := [(0, [], .slice (some ⟨b, 0, none⟩) l.length cap), (1, [], .int .i64 (i : Int)), (2, [], .slice (some ⟨vb, 0, none⟩) 1 1)]) (nd := (fun _ => [(0 ≤ (i : Int)), (i ≤ l.length ∧ l.length ≤ cap)])) (fun _ => by kernel_rfl) ⟨(by omega), (by omega), trivial⟩ ?_
  refine Cfg.reg rfl [0, 1, 2, 7] [] (Γ' := [(7, [], .int .i64 (1 : Int)), (0, [], .slice (some ⟨b, 0, none⟩) l.length cap), (1, [], .int .i64 (i : Int)), (2, [], .slice (some ⟨vb, 0, none⟩) 1 1)]) (nd := (fun _ => [])) (fun _ => by kernel_rfl) trivial ?_
  refine Cfg.reg rfl [0, 1, 2, 7, 16] [] (Γ' := [(16, [], .bool ((1 : Int) == (0 : Int))), (7, [], .int .i64 (1 : Int)), (0, [], .slice (some ⟨b, 0, none⟩) l.length cap), (1, [], .int .i64 (i : Int)), (2, [], .slice (some ⟨vb, 0, none⟩) 1 1)]) (nd := (fun _ => [])) (fun _ => by kernel_rfl) trivial ?_
  refine Cfg.condF rfl (b := ((1 : Int) == (0 : Int))) (by kernel_rfl) (by decide) ?_
  refine Cfg.reg rfl [0, 1, 2, 7, 8] [] (Γ' := [(8, [], .int .i64 (l.length : Int)), (7, [], .int .i64 (1 : Int)), (0, [], .slice (some ⟨b, 0, none⟩) l.length cap), (1, [], .int .i64 (i : Int)), (2, [], .slice (some ⟨vb, 0, none⟩) 1 1)]) (nd := (fun _ => [])) (fun _ => by kernel_rfl) trivial ?_
  refine Cfg.reg rfl [0, 1, 2, 7, 8, 22] [] (Γ' := [(22, [], .bool ((i : Int) == (l.length : Int))), (8, [], .int .i64 (l.length : Int)), (7, [], .int .i64 (1 : Int)), (0, [], .slice (some ⟨b, 0, none⟩) l.length cap), (1, [], .int .i64 (i : Int)), (2, [], .slice (some ⟨vb, 0, none⟩) 1 1)]) (nd := (fun _ => [])) (fun _ => by kernel_rfl) trivial ?_
  refine Cfg.cond rfl (b := ((i : Int) == (l.length : Int))) (by kernel_rfl) (fun c2r => ?_) (fun c2r => ?_)
  · have c2 : ((i : Int) = (l.length : Int)) := (beq_iff_eq.1 c2r)
    have c2n : i = l.length := by omega
    refine Cfg.begL rfl ?_
    refine CfgL.pure 2 [] none (Γ' := [(24, [], .slice (some ⟨vb, 0, none⟩) 1 1), (23, [], .slice (some ⟨b, 0, none⟩) l.length cap), (22, [], .bool ((i : Int) == (l.length : Int))), (8, [], .int .i64 (l.length : Int)), (7, [], .int .i64 (1 : Int)), (0, [], .slice (some ⟨b, 0, none⟩) l.length cap), (1, [], .int .i64 (i : Int)), (2, [], .slice (some ⟨vb, 0, none⟩) 1 1)]) (nd := (fun _ => [])) (by kernel_rfl) (fun _ => by kernel_rfl) trivial ?_
    refine CfgL.eff (o := _) rfl (by kernel_rfl) (by kernel_rfl) (Eff.appendF rfl 33 48 Try.underlying22 (by kernel_rfl) (z := (.agg (rc rz).toArray)) (by kernel_rfl) rfl (some (b, cap, junk)) (n := l.length) (xs := rv l) hok (by kernel_rfl) (b2 := vb) (off2 := 0) (m := 1) (c2 := 1) (by kernel_rfl) (rc x) (rc_len hx) (rc_all x) [] [] rfl (fun w1 h j v hj => one_src h (List.mem_cons_self ..) hj) (by omega) (by omega)) ?_
    rintro o1 ko1
    refine CfgL.pure 1 [] (some [6]) (Γ' := [(6, [], .slice (Own.a o1) ((l.length + 1)) (Own.c o1))]) (nd := (fun _ => [])) (by kernel_rfl) (fun _ => by kernel_rfl) trivial ?_
    refine CfgL.done rfl ?_
    refine Cfg.ret rfl (rs := [.tmp 6]) rfl [.slice (Own.a o1) ((l.length + 1)) (Own.c o1)] ⟨by kernel_rfl, trivial⟩ (fun w1 hp => ?_)
    subst c2n
    exact ⟨o1, by rw [rv_end]; exact ko1, rfl, _, by rw [rv_end]; exact hp.sub (by simp)⟩
  · have c2 : ((i : Int) ≠ (l.length : Int)) := (beq_eq_false_iff_ne.1 c2r)
    have c2n : i < l.length := by omega
    refine Cfg.reg rfl [0, 1, 2, 7, 8, 31] [] (Γ' := [(31, [], .bool (decide (((l.length : Int) + (1 : Int)) > (cap : Int)))), (8, [], .int .i64 (l.length : Int)), (7, [], .int .i64 (1 : Int)), (0, [], .slice (some ⟨b, 0, none⟩) l.length cap), (1, [], .int .i64 (i : Int)), (2, [], .slice (some ⟨vb, 0, none⟩) 1 1)]) (nd := (fun _ => [((-9223372036854775808 : Int) ≤ ((l.length : Int) + (1 : Int)) ∧ ((l.length : Int) + (1 : Int)) ≤ 9223372036854775807)])) (fun _ => by kernel_rfl) ⟨(by omega), trivial⟩ ?_
    refine Cfg.cond rfl (b := (decide (((l.length : Int) + (1 : Int)) > (cap : Int)))) (by kernel_rfl) (fun c3r => ?_) (fun c3r => ?_)
    · have c3 : (((l.length : Int) + (1 : Int)) > (cap : Int)) := (of_decide_eq_true c3r)
      have c3n : cap < l.length + 1 := by omega
      refine Cfg.begL rfl ?_
      refine CfgL.pure 8 [] none (Γ' := [(39, [], .int .i64 (((l.length : Int) + (1 : Int)) - (i : Int))), (38, [], .int .i64 (i : Int)), (37, [], .int .i64 ((l.length : Int) + (1 : Int))), (36, [], .int .i64 (1 : Int)), (35, [], .int .i64 (l.length : Int)), (34, [], .slice (some ⟨b, 0, none⟩) i cap), (33, [], .int .i64 (i : Int)), (32, [], .slice (some ⟨b, 0, none⟩) l.length cap), (31, [], .bool (decide (((l.length : Int) + (1 : Int)) > (cap : Int)))), (8, [], .int .i64 (l.length : Int)), (7, [], .int .i64 (1 : Int)), (0, [], .slice (some ⟨b, 0, none⟩) l.length cap), (1, [], .int .i64 (i : Int)), (2, [], .slice (some ⟨vb, 0, none⟩) 1 1)]) (nd := (fun _ => [(0 ≤ (i : Int)), (i ≤ cap), ((-9223372036854775808 : Int) ≤ ((l.length : Int) + (1 : Int)) ∧ ((l.length : Int) + (1 : Int)) ≤ 9223372036854775807), ((-9223372036854775808 : Int) ≤ (((l.length : Int) + (1 : Int)) - (i : Int)) ∧ (((l.length : Int) + (1 : Int)) - (i : Int)) ≤ 9223372036854775807)])) (by kernel_rfl) (fun _ => by kernel_rfl) ⟨(by omega), (by omega), (by omega), (by omega), trivial⟩ ?_
      refine CfgL.eff (o := _) rfl (by kernel_rfl) (by kernel_rfl) (Eff.appendZF rfl 33 48 Try.underlying22 Try.underlying3 (by kernel_rfl) (z := (.agg (rc rz).toArray)) (by kernel_rfl) rfl (by decide) (b := b) (n := i) (cap := cap) (by kernel_rfl) (k := (((l.length : Int) + (1 : Int)) - (i : Int))) (m := (l.length + 1 - i)) (by omega) (by omega) (by kernel_rfl) (rv (l.take i)) (rvt_len hW (by omega)) [(b, .cells ((rv l ++ junk).toArray) 50 (0, 0))] [] rfl (fun w1 h j v hj => take_src h (List.mem_cons_self ..) hj) (by omega) (by omega) (by omega)) ?_
      rintro o2 ko2
      refine CfgL.pure 1 [] (some [0, 1, 2, 7, 9]) (Γ' := [(9, [], .slice (Own.a o2) ((i + (l.length + 1 - i))) (Own.c o2)), (7, [], .int .i64 (1 : Int)), (0, [], .slice (some ⟨b, 0, none⟩) l.length cap), (1, [], .int .i64 (i : Int)), (2, [], .slice (some ⟨vb, 0, none⟩) 1 1)]) (nd := (fun _ => [])) (by kernel_rfl) (fun _ => by kernel_rfl) trivial ?_
      refine CfgL.done rfl ?_
      obtain ⟨⟨b2, c2, j2⟩, rfl⟩ := own_some ko2 (by omega)
      obtain ⟨hz1, hz2⟩ := ko2.some _ rfl
      simp only at hz1 hz2
      rw [List.length_append, zrz_len, rvt_len hW hi] at hz1
      refine Cfg.setO (O' := [(b, .cells ((rv l ++ junk).toArray) 50 (0, 0)), (b2, .cells ((rv (l.take i) ++ (Builtin.zeroCells (Value.cells (.agg (rc rz).toArray)) (l.length + 1 - i)).toList ++ j2).toArray) 50 (0, 0))]) rfl ?_
      refine Conv.cfg (Γ' := [(9, [], .slice (some ⟨b2, 0, none⟩) (i + (l.length + 1 - i)) c2), (7, [], .int .i64 (1 : Int)), (0, [], .slice (some ⟨b, 0, none⟩) l.length cap), (1, [], .int .i64 (i : Int)), (2, [], .slice (some ⟨vb, 0, none⟩) 1 1)]) (Conv.mk (by kernel_rfl)) ?_
      refine Cfg.begL rfl ?_
      refine CfgL.pure 4 [] none (Γ' := [(44, [], .slice (some ⟨vb, 0, none⟩) 1 1), (43, [], .slice (some ⟨b2, (if c2 = i then 0 else (i * 33)), none⟩) ((i + (l.length + 1 - i)) - i) (c2 - i)), (42, [], .int .i64 (i : Int)), (41, [], .slice (some ⟨b2, 0, none⟩) (i + (l.length + 1 - i)) c2), (9, [], .slice (some ⟨b2, 0, none⟩) (i + (l.length + 1 - i)) c2), (7, [], .int .i64 (1 : Int)), (0, [], .slice (some ⟨b, 0, none⟩) l.length cap), (1, [], .int .i64 (i : Int)), (2, [], .slice (some ⟨vb, 0, none⟩) 1 1)]) (nd := (fun _ => [(0 ≤ (i : Int)), (i ≤ (i + (l.length + 1 - i)) ∧ (i + (l.length + 1 - i)) ≤ c2)])) (by kernel_rfl) (fun _ => by kernel_rfl) ⟨(by omega), (by omega), trivial⟩ ?_
      refine CfgL.eff (o := _) rfl (by kernel_rfl) (by kernel_rfl) (Eff.copyC rfl Try.underlying22 33 (by kernel_rfl) (b := b2) (off := (if c2 = i then 0 else (i * 33))) (dl := ((i + (l.length + 1 - i)) - i)) (c := (c2 - i)) (by kernel_rfl) (b2 := vb) (off2 := 0) (sl := 1) (c2 := 1) (by kernel_rfl) 1 (cs := (rv (l.take i) ++ (Builtin.zeroCells (Value.cells (.agg (rc rz).toArray)) (l.length + 1 - i)).toList ++ j2).toArray) (te := 50) (by kernel_rfl) 1 (by omega) (rc x) (rc_len hx) (rc_all x) (fun w1 h j v hj => one_src h (List.mem_cons_self ..) hj) (by rw [if_neg (by omega)]; simp only [List.size_toArray, List.length_append, rvt_len hW hi, zrz_len, rc_len hx]; omega)) ?_
      rintro ⟨⟩ -
      refine CfgL.done rfl ?_
      refine Conv.cfg (Γ' := [(9, [], .slice (some ⟨b2, 0, none⟩) (i + (l.length + 1 - i)) c2), (7, [], .int .i64 (1 : Int)), (0, [], .slice (some ⟨b, 0, none⟩) l.length cap), (1, [], .int .i64 (i : Int))]) (Conv.mk (by kernel_rfl)) ?_
      refine Cfg.begA rfl (by kernel_rfl) [(b, .cells ((rv l ++ junk).toArray) 50 (0, 0))] ?_
      refine CfgA.pure [0, 1, 2, 3, 4, 5, 6, 7] [] none (l' := #[true, true, true, true, true, true, true, true, false]) (by kernel_rfl) (by kernel_rfl) (.cons_cons _ (.cons _ .slnil)) 1 rfl (Γ' := [(53, [], .slice (some ⟨b, (if cap = i then 0 else (i * 33)), none⟩) (l.length - i) (cap - i)), (52, [], .int .i64 (i : Int)), (51, [], .slice (some ⟨b, 0, none⟩) l.length cap), (50, [], .slice (some ⟨b2, (if c2 = (i + 1) then 0 else (((i + 1)) * 33)), none⟩) ((i + (l.length + 1 - i)) - ((i + 1))) (c2 - ((i + 1)))), (49, [], .int .i64 ((i : Int) + (1 : Int))), (48, [], .int .i64 (1 : Int)), (47, [], .int .i64 (i : Int)), (46, [], .slice (some ⟨b2, 0, none⟩) (i + (l.length + 1 - i)) c2), (9, [], .slice (some ⟨b2, 0, none⟩) (i + (l.length + 1 - i)) c2), (7, [], .int .i64 (1 : Int)), (0, [], .slice (some ⟨b, 0, none⟩) l.length cap), (1, [], .int .i64 (i : Int))]) (nd := (fun _ => [((-9223372036854775808 : Int) ≤ ((i : Int) + (1 : Int)) ∧ ((i : Int) + (1 : Int)) ≤ 9223372036854775807), (0 ≤ ((i : Int) + (1 : Int))), ((i + 1) ≤ (i + (l.length + 1 - i)) ∧ (i + (l.length + 1 - i)) ≤ c2), (0 ≤ (i : Int)), (i ≤ l.length ∧ l.length ≤ cap)])) (fun _ => by kernel_rfl) ⟨(by omega), (by omega), (by omega), (by omega), (by omega), trivial⟩ ?_
      refine CfgA.eff 8 (o := _) rfl (by kernel_rfl) (fuel' := 0) rfl (by kernel_rfl) (by kernel_rfl) (Eff.copyC rfl Try.underlying22 33 (by kernel_rfl) (b := b2) (off := (if c2 = (i + 1) then 0 else (((i + 1)) * 33))) (dl := ((i + (l.length + 1 - i)) - ((i + 1)))) (c := (c2 - ((i + 1)))) (by kernel_rfl) (b2 := b) (off2 := (if cap = i then 0 else (i * 33))) (sl := (l.length - i)) (c2 := (cap - i)) (by kernel_rfl) 1 (cs := (spl (rv (l.take i) ++ (Builtin.zeroCells (Value.cells (.agg (rc rz).toArray)) (l.length + 1 - i)).toList ++ j2).toArray (if c2 = i then 0 else (i * 33)) (rc x))) (te := 50) (by kernel_rfl) (l.length - i) (by omega) (rv (l.drop i)) (rvd_len hW i) (rv_all _) (fun w1 h j v hj => drop_src h hW hi (by rw [if_neg (by omega)]) (List.mem_cons_self ..) hj) (by rw [if_neg (by omega)]; simp only [spl_size, List.size_toArray, List.length_append, rvt_len hW hi, zrz_len, rvd_len hW]; omega)) (fun _ _ => (.cons_cons _ (.cons _ .slnil))) ?_
      rintro ⟨⟩ -
      refine CfgA.done (by kernel_rfl) ?_
      refine Conv.cfg (Γ' := [(9, [], .slice (some ⟨b2, 0, none⟩) (i + (l.length + 1 - i)) c2)]) (Conv.mk (by kernel_rfl)) ?_
      refine Cfg.reg rfl [6] [] (Γ' := [(6, [], .slice (some ⟨b2, 0, none⟩) (i + (l.length + 1 - i)) c2)]) (nd := (fun _ => [])) (fun _ => by kernel_rfl) trivial ?_
      refine Cfg.ret rfl (rs := [.tmp 6]) rfl [.slice (some ⟨b2, 0, none⟩) (i + (l.length + 1 - i)) c2] ⟨by kernel_rfl, trivial⟩ (fun w1 hp => ?_)
      have hz : (Builtin.zeroCells (Value.cells (.agg (rc rz).toArray)) (l.length + 1 - i)).toList.length = (l.length + 1 - i) * 33 := zrz_len _
      have hcs := ins_grow (j2 := j2) (o1 := (if c2 = i then 0 else (i * 33))) (o2 := (if c2 = (i + 1) then 0 else ((i + 1) * 33))) hW hx hi hz (if_neg (by omega)) (if_neg (by omega))
      have hh := hp.sub (List.sublist_cons_self _ _)
      rw [hcs] at hh
      exact ⟨some (b2, c2, j2), ⟨by rw [rv_len (hW.ins hx i), insF_len x hi], (fun h => by cases h), fun q hq => by cases hq; exact ⟨by rw [rv_len (hW.ins hx i), insF_len x hi]; simp only; omega, by simp only; omega⟩⟩, by rw [show i + (l.length + 1 - i) = l.length + 1 by omega]; rfl, _, hh⟩
    · have c3 : (¬ (((l.length : Int) + (1 : Int)) > (cap : Int))) := (of_decide_eq_false c3r)
      have c3n : l.length + 1 ≤ cap := by omega
      refine Cfg.reg rfl [0, 1, 2, 7, 8] [] (Γ' := [(0, [], .slice (some ⟨b, 0, none⟩) ((l.length + 1)) cap), (8, [], .int .i64 (l.length : Int)), (7, [], .int .i64 (1 : Int)), (1, [], .int .i64 (i : Int)), (2, [], .slice (some ⟨vb, 0, none⟩) 1 1)]) (nd := (fun _ => [((-9223372036854775808 : Int) ≤ ((l.length : Int) + (1 : Int)) ∧ ((l.length : Int) + (1 : Int)) ≤ 9223372036854775807), (0 ≤ ((l.length : Int) + (1 : Int))), ((l.length + 1) ≤ cap)])) (fun _ => by kernel_rfl) ⟨(by omega), (by omega), (by omega), trivial⟩ ?_
      refine Cfg.begL rfl ?_
      refine CfgL.pure 6 [] none (Γ' := [(66, [], .slice (some ⟨b, (if cap = (i + 1) then 0 else (((i + 1)) * 33)), none⟩) (((l.length + 1)) - ((i + 1))) (cap - ((i + 1)))), (65, [], .int .i64 ((i : Int) + (1 : Int))), (64, [], .int .i64 (1 : Int)), (63, [], .int .i64 (i : Int)), (62, [], .slice (some ⟨b, 0, none⟩) ((l.length + 1)) cap), (61, [], .slice (some ⟨vb, 0, none⟩) 1 1), (0, [], .slice (some ⟨b, 0, none⟩) ((l.length + 1)) cap), (8, [], .int .i64 (l.length : Int)), (7, [], .int .i64 (1 : Int)), (1, [], .int .i64 (i : Int)), (2, [], .slice (some ⟨vb, 0, none⟩) 1 1)]) (nd := (fun _ => [((-9223372036854775808 : Int) ≤ ((i : Int) + (1 : Int)) ∧ ((i : Int) + (1 : Int)) ≤ 9223372036854775807), (0 ≤ ((i : Int) + (1 : Int))), ((i + 1) ≤ ((l.length + 1)) ∧ ((l.length + 1)) ≤ cap)])) (by kernel_rfl) (fun _ => by kernel_rfl) ⟨(by omega), (by omega), (by omega), trivial⟩ ?_
      refine CfgL.eff (o := _) rfl (by kernel_rfl) (by kernel_rfl) (Eff.callE (vs := [.slice (some ⟨vb, 0, none⟩) 1 1, .slice (some ⟨b, (if cap = (i + 1) then 0 else (((i + 1)) * 33)), none⟩) (((l.length + 1)) - ((i + 1))) (cap - ((i + 1)))]) (.bool false) (e := Extern.SlicesOverlaps.overlaps #[22, 22] #[4]) rfl Try.func76 rfl rfl (by kernel_rfl) (by kernel_rfl) (by kernel_rfl) (fun w1 h => run_noOverlap Try.underlying22 (sz := 33) (by kernel_rfl) hne (h.ro (vb, _) (List.mem_cons_self ..)) (h.own (b, _) (List.mem_cons_self ..)) (by rw [List.size_toArray, List.length_append, rv_len hW]; omega))) ?_
      rintro ⟨⟩ -
      refine CfgL.pure 1 [] (some [0, 1, 2, 7, 8, 68]) (Γ' := [(68, [], .bool true), (0, [], .slice (some ⟨b, 0, none⟩) ((l.length + 1)) cap), (8, [], .int .i64 (l.length : Int)), (7, [], .int .i64 (1 : Int)), (1, [], .int .i64 (i : Int)), (2, [], .slice (some ⟨vb, 0, none⟩) 1 1)]) (nd := (fun _ => [])) (by kernel_rfl) (fun _ => by kernel_rfl) trivial ?_
      refine CfgL.done rfl ?_
      refine Cfg.condT rfl (b := true) (by kernel_rfl) rfl ?_
      refine Cfg.begA rfl (by kernel_rfl) [] ?_
      refine CfgA.pure [0, 1, 2, 3, 4, 5, 6, 7] [] none (l' := #[true, true, true, true, true, true, true, true, false]) (by kernel_rfl) (by kernel_rfl) (.cons _ .slnil) 1 rfl (Γ' := [(76, [], .slice (some ⟨b, (if cap = i then 0 else (i * 33)), none⟩) (((l.length + 1)) - i) (cap - i)), (75, [], .int .i64 (i : Int)), (74, [], .slice (some ⟨b, 0, none⟩) ((l.length + 1)) cap), (73, [], .slice (some ⟨b, (if cap = (i + 1) then 0 else (((i + 1)) * 33)), none⟩) (((l.length + 1)) - ((i + 1))) (cap - ((i + 1)))), (72, [], .int .i64 ((i : Int) + (1 : Int))), (71, [], .int .i64 (1 : Int)), (70, [], .int .i64 (i : Int)), (69, [], .slice (some ⟨b, 0, none⟩) ((l.length + 1)) cap), (68, [], .bool true), (0, [], .slice (some ⟨b, 0, none⟩) ((l.length + 1)) cap), (8, [], .int .i64 (l.length : Int)), (7, [], .int .i64 (1 : Int)), (1, [], .int .i64 (i : Int)), (2, [], .slice (some ⟨vb, 0, none⟩) 1 1)]) (nd := (fun _ => [((-9223372036854775808 : Int) ≤ ((i : Int) + (1 : Int)) ∧ ((i : Int) + (1 : Int)) ≤ 9223372036854775807), (0 ≤ ((i : Int) + (1 : Int))), ((i + 1) ≤ ((l.length + 1)) ∧ ((l.length + 1)) ≤ cap), (0 ≤ (i : Int)), (i ≤ ((l.length + 1)) ∧ ((l.length + 1)) ≤ cap)])) (fun _ => by kernel_rfl) ⟨(by omega), (by omega), (by omega), (by omega), (by omega), trivial⟩ ?_
      refine CfgA.eff 8 (o := _) rfl (by kernel_rfl) (fuel' := 0) rfl (by kernel_rfl) (by kernel_rfl) (Eff.copyC rfl Try.underlying22 33 (by kernel_rfl) (b := b) (off := (if cap = (i + 1) then 0 else (((i + 1)) * 33))) (dl := (((l.length + 1)) - ((i + 1)))) (c := (cap - ((i + 1)))) (by kernel_rfl) (b2 := b) (off2 := (if cap = i then 0 else (i * 33))) (sl := (((l.length + 1)) - i)) (c2 := (cap - i)) (by kernel_rfl) 0 (cs := (rv l ++ junk).toArray) (te := 50) (by kernel_rfl) (l.length - i) (by omega) (rv (l.drop i)) (rvd_len hW i) (rv_all _) (fun w1 h j v hj => drop_src h hW hi (by rw [if_neg (by omega)]) (List.mem_cons_self ..) hj) (by rw [if_neg (by omega)]; simp only [List.size_toArray, List.length_append, rv_len hW, rvd_len hW]; omega)) (fun _ _ => List.nil_sublist _) ?_
      rintro ⟨⟩ -
      refine CfgA.done (by kernel_rfl) ?_
      refine Conv.cfg (Γ' := [(0, [], .slice (some ⟨b, 0, none⟩) ((l.length + 1)) cap), (1, [], .int .i64 (i : Int)), (2, [], .slice (some ⟨vb, 0, none⟩) 1 1)]) (Conv.mk (by kernel_rfl)) ?_
      refine Cfg.begL rfl ?_
      refine CfgL.pure 4 [] none (Γ' := [(81, [], .slice (some ⟨vb, 0, none⟩) 1 1), (80, [], .slice (some ⟨b, (if cap = i then 0 else (i * 33)), none⟩) (((l.length + 1)) - i) (cap - i)), (79, [], .int .i64 (i : Int)), (78, [], .slice (some ⟨b, 0, none⟩) ((l.length + 1)) cap), (0, [], .slice (some ⟨b, 0, none⟩) ((l.length + 1)) cap), (1, [], .int .i64 (i : Int)), (2, [], .slice (some ⟨vb, 0, none⟩) 1 1)]) (nd := (fun _ => [(0 ≤ (i : Int)), (i ≤ ((l.length + 1)) ∧ ((l.length + 1)) ≤ cap)])) (by kernel_rfl) (fun _ => by kernel_rfl) ⟨(by omega), (by omega), trivial⟩ ?_
      refine CfgL.eff (o := _) rfl (by kernel_rfl) (by kernel_rfl) (Eff.copyC rfl Try.underlying22 33 (by kernel_rfl) (b := b) (off := (if cap = i then 0 else (i * 33))) (dl := (((l.length + 1)) - i)) (c := (cap - i)) (by kernel_rfl) (b2 := vb) (off2 := 0) (sl := 1) (c2 := 1) (by kernel_rfl) 0 (cs := (spl (rv l ++ junk).toArray (if cap = (i + 1) then 0 else (((i + 1)) * 33)) (rv (l.drop i)))) (te := 50) (by kernel_rfl) 1 (by omega) (rc x) (rc_len hx) (rc_all x) (fun w1 h j v hj => one_src h (List.mem_cons_self ..) hj) (by rw [if_neg (by omega)]; simp only [spl_size, List.size_toArray, List.length_append, rv_len hW, rc_len hx]; omega)) ?_
      rintro ⟨⟩ -
      refine CfgL.done rfl ?_
      refine Conv.cfg (Γ' := [(0, [], .slice (some ⟨b, 0, none⟩) ((l.length + 1)) cap)]) (Conv.mk (by kernel_rfl)) ?_
      refine Cfg.reg rfl [6] [] (Γ' := [(6, [], .slice (some ⟨b, 0, none⟩) ((l.length + 1)) cap)]) (nd := (fun _ => [])) (fun _ => by kernel_rfl) trivial ?_
      refine Cfg.ret rfl (rs := [.tmp 6]) rfl [.slice (some ⟨b, 0, none⟩) ((l.length + 1)) cap] ⟨by kernel_rfl, trivial⟩ (fun w1 hp => ?_)
      have hcs := ins_room (junk := junk) (o1 := (if cap = i then 0 else (i * 33))) (o2 := (if cap = (i + 1) then 0 else ((i + 1) * 33))) hW hx hi (by omega) (if_neg (by omega)) (if_neg (by omega))
      have hh := hp.sub (List.Sublist.refl _)
      rw [hcs] at hh
      exact ⟨some (b, cap, junk.drop 33), ⟨by rw [rv_len (hW.ins hx i), insF_len x hi], (fun h => by cases h), fun q hq => by cases hq; exact ⟨by rw [rv_len (hW.ins hx i), insF_len x hi]; simp only [List.length_drop]; omega, by simp only; omega⟩⟩, rfl, _, hh⟩


theorem rInsertO (o : K.Own) (i vb : Nat) (l : List Rf) (x : Rf) (w : World) (hok : OwnOk o 33 l.length (rv l)) (hi : i ≤ l.length) (hW : W32 l) (hx : x.2.length = 32) (hm : l.length ≤ 4096) (hA : Has w (o.o 50 (rv l))) (hR : Has w [(vb, .cells (rc x).toArray 50 (0, 0))]) (hne : ∀ y ∈ o.o 50 (rv l), vb ≠ y.1) :
    Calls Try.prog 68 #[.slice o.a l.length o.c, .int .i64 (i : Int), .slice (some ⟨vb, 0, none⟩) 1 1] w fun e w' => ∃ o2 : K.Own, OwnOk o2 33 (l.length + 1) (rv (insF l i x)) ∧ e = .returned (.slice o2.a (l.length + 1) o2.c) ∧ ∃ R1, HP w ((o.o 50 (rv l)).map (·.1)) R1 (o2.o 50 (rv (insF l i x))) w' := by
  cases o with
  | none =>
    have h0 := List.eq_nil_of_length_eq_zero (hok.nil rfl)
    subst h0
    obtain rfl : i = 0 := by simpa using hi
    refine (rInsertN vb x w hx hR).mono ?_
    rintro e w' ⟨o2, ko, he, R1, hp⟩
    have e1 : rv (insF [] 0 x) = rc x := by simp [insF, rv]
    exact ⟨o2, by rw [e1]; exact ko, he, R1, by rw [e1]; exact hp⟩
  | some p =>
    obtain ⟨b, cap, junk⟩ := p
    exact rInsertB b cap vb i l junk x w hi hW hx hm hok (hA _ (List.mem_cons_self ..)) hR (hne _ (List.mem_cons_self ..))


end Go.Proofs.Ytejgpniaoccpoaa
