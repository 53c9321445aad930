/- refs: rows compared, copied; states copied, compared. -/
import Derived.Test.YtfjaoofepmajlaaRf2
import Derived.Laws.StructEq
namespace Go.Proofs.Ytfjaoofepmajlaa
open K
set_option linter.unusedVariables false

def rfEq (a b : Rf) : Bool := a.1.toList == b.1.toList && a.2 == b.2
theorem ref_equal {a b : Rf} (ha : a.2.length = 32) (hb : b.2.length = 32) (w : World) : (Op.equal 56 (.agg (rc a).toArray) (.agg (rc b).toArray)).run Try.prog w = .ok (rfEq a b) w := by
  show (Op.equalIn (9999 + 1) 56 (.agg (rc a).toArray) (.agg (rc b).toArray)).run Try.prog w = _
  rw [run_equalIn_struct w 9999 56 _ _ (by kernel_rfl) (by kernel_rfl)]
  rw [show (Try.prog.fieldsOf 56).toList = [⟨ "Name", 9, 0, false, "", "", 0⟩, ⟨ "At", 24, 1, false, "", "", 16⟩] by kernel_rfl]
  have p1 : ∀ (r : Rf), (part 9 (rc r).toArray 0).run Try.prog w = .ok (.string r.1) w := fun r => by
    simp only [part, isAgg, Sem.run_bind, run_underlying' Try.underlying9, Result.andThen_ok]; rfl
  obtain ⟨inf, hi, hs⟩ := Option.map_eq_some_iff.1 (show (Try.prog.info? 24).map (·.size) = some 32 by kernel_rfl)
  have p2 : ∀ (r : Rf), r.2.length = 32 → (part 24 (rc r).toArray 1).run Try.prog w = .ok (.agg (bv r.2)) w := fun r hr => by
    have e : (rc r).toArray.extract 1 (1 + 32) = bv r.2 := by
      apply Array.ext'
      rw [Array.toList_extract]
      show List.extract (.string r.1 :: (bv r.2).toList) 1 33 = _
      rw [List.extract_eq_take_drop, List.drop_succ_cons, List.drop_zero, List.take_of_length_le (by rw [Array.length_toList, bv_size, hr]; decide)]
    simp only [part, isAgg, Sem.run_bind, run_underlying' Try.underlying24, Result.andThen_ok, Sem.run_pure, if_true, run_sizeOf' hi, hs, e]
  have n1 : ¬ ("Name" = "_") := by decide
  have n2 : ¬ ("At" = "_") := by decide
  have q2 : (Op.equalIn 9999 24 (.agg (bv a.2)) (.agg (bv b.2))).run Try.prog w = .ok (a.2 == b.2) w :=
    run_equalIn_bytes w 9997 24 5 32 Try.underlying24 Try.underlying5 (fun w => by obtain ⟨i2, h2, s2⟩ := Option.map_eq_some_iff.1 (show (Try.prog.info? 5).map (·.size) = some 1 by kernel_rfl); rw [run_sizeOf' h2, s2]) a.2 b.2 ha hb
  simp only [Op.eqFields, ne_eq, n1, n2, not_false_eq_true, if_true, Sem.run_bind, p1, Result.andThen_ok, run_equalIn_string w 9998 9 a.1 b.1 Try.underlying9]
  have key : ∀ q : Bool, Sem.run Try.prog (if (!q) = true then pure false else do
        let x ← part 24 (rc a).toArray 1
        let y ← part 24 (rc b).toArray 1
        let r ← Op.equalIn 9999 24 x y
        if (!r) = true then pure false else pure true) w = .ok (q && (a.2 == b.2)) w := by
    intro q
    cases q with
    | false => rfl
    | true =>
      rw [if_neg (by decide), Sem.run_bind, p2 a ha, Result.andThen_ok, Sem.run_bind, p2 b hb, Result.andThen_ok, Sem.run_bind, q2, Result.andThen_ok, Bool.true_and]
      generalize (a.2 == b.2) = z
      cases z <;> rfl
  exact key _
def eqR (l m : List Rf) : Bool := (l.length == m.length) && (List.range l.length).all fun i => rfEq (l.getD i rz) (m.getD i rz)
theorem eqR_no {l m : List Rf} (h : l.length ≠ m.length) : eqR l m = false := by unfold eqR; rw [beq_eq_false_iff_ne.2 h, Bool.false_and]
theorem eqR_at {l m : List Rf} {i : Nat} (hi : i < l.length) (h : rfEq (l.getD i rz) (m.getD i rz) = false) : eqR l m = false := by
  unfold eqR
  rw [Bool.and_eq_false_iff]
  right
  cases hh : (List.range l.length).all (fun i => rfEq (l.getD i rz) (m.getD i rz)) with
  | false => rfl
  | true => have := List.all_eq_true.1 hh i (List.mem_range.2 hi); rw [h] at this; cases this
theorem eqR_yes {l m : List Rf} (hl : l.length = m.length) (h : ∀ j, j < l.length → rfEq (l.getD j rz) (m.getD j rz) = true) : eqR l m = true := by
  unfold eqR
  rw [beq_iff_eq.2 hl, Bool.true_and, List.all_eq_true]
  intro i hi; exact h i (List.mem_range.1 hi)
theorem rfEq_refl (a : Rf) : rfEq a a = true := by unfold rfEq; simp
theorem eqR_refl (l : List Rf) : eqR l l = true := eqR_yes rfl (fun _ _ => rfEq_refl _)
theorem rv_src {w0 w : World} {M : List Nat} {R O : List (Nat × Obj)} (h : HP w0 M R O w) {b : Nat} {l : List Rf} {junk : List Value} {t : TypeId} (hm : (b, Obj.cells (rv l ++ junk).toArray t (0, 0)) ∈ R) {j : Nat} {v : Value} (hv : (rv l)[j]? = some v) : w.cell? ⟨b, 0 + j, none⟩ = some v := by
  rw [cell_cells (h.ro _ hm), Nat.zero_add]
  obtain ⟨hj, hx⟩ := List.getElem?_eq_some_iff.1 hv
  simp only [List.getElem?_toArray]
  rw [List.getElem?_append_left hj, hv]

set_option maxRecDepth 100000 in
theorem rEqual (la lb : Option Addr) (cap cbp : Nat) (l m : List Rf) (Rl : List (Nat × Obj)) (w : World) (hI : InR Rl la l) (hJ : InR Rl lb m) (hW : W32 l) (hV : W32 m) (hR : Has w Rl) (hn : l.length ≤ maxLen) (hn2 : m.length ≤ maxLen) :
    Calls Try.prog 23 #[.slice la l.length cap, .slice lb m.length cbp] w fun e w' => e = .returned (.bool (eqR l m)) ∧ Ext [] w w' := by
  unfold maxLen at hn hn2
  refine enter (vs := [.slice la l.length cap, .slice lb m.length cbp]) [] Rl [] Try.func23 rfl (by kernel_rfl) (HP.ofHas hR) ?_
  refine Cfg.reg rfl [0, 1] [] (Γ' := [(0, [], .slice la l.length cap), (1, [], .slice lb m.length cbp)]) (nd := (fun _ => [])) (fun _ => by kernel_rfl) trivial ?_
  refine Cfg.reg rfl [0, 1, 10] [] (Γ' := [(10, [], .bool ((l.length : Int) != (m.length : Int))), (0, [], .slice la l.length cap), (1, [], .slice lb m.length cbp)]) (nd := (fun _ => [])) (fun _ => by kernel_rfl) trivial ?_
  refine Cfg.cond rfl (b := ((l.length : Int) != (m.length : Int))) (by kernel_rfl) (fun c1r => ?_) (fun c1r => ?_)
  · have c1 : ((l.length : Int) ≠ (m.length : Int)) := (bne_iff_ne.1 c1r)
    refine Cfg.reg rfl [4] [] (Γ' := [(4, [], .bool false)]) (nd := (fun _ => [])) (fun _ => by kernel_rfl) trivial ?_
    refine Cfg.ret rfl (rs := [.tmp 4]) rfl [.bool false] ⟨by kernel_rfl, trivial⟩ (fun w1 hp => ?_)
    exact ⟨by rw [eqR_no (by omega)]; rfl, hp.ext⟩
  · have c1 : ((l.length : Int) = (m.length : Int)) := (bne_eq_false_iff_eq.1 c1r)
    refine Cfg.reg rfl [0, 1, 12, 13] [] (Γ' := [(13, [], .int .i64 0), (12, [], .int .i64 (l.length : Int)), (0, [], .slice la l.length cap), (1, [], .slice lb m.length cbp)]) (nd := (fun _ => [])) (fun _ => by kernel_rfl) trivial ?_
    refine Cfg.loop rfl (ι := Nat) (fun (i : Nat) => [(13, [], .int .i64 (i : Int)), (12, [], .int .i64 (l.length : Int)), (0, [], .slice la l.length cap), (1, [], .slice lb m.length cbp)]) (fun (i : Nat) => []) (fun (i : Nat) => (i ≤ l.length) ∧ (∀ j, j < i → rfEq (l.getD j rz) (m.getD j rz) = true)) (fun (i : Nat) => l.length - i) 0 ?_ (Conv.mk (by kernel_rfl)) .slnil ?_
    · exact ⟨Nat.zero_le _, fun j h => absurd h (Nat.not_lt_zero j)⟩
    · rintro i ⟨hi, hall⟩
      refine Cfg.reg rfl [0, 1, 12, 13, 14] [] (Γ' := [(14, [], .bool (decide ((i : Int) < (l.length : Int)))), (13, [], .int .i64 (i : Int)), (12, [], .int .i64 (l.length : Int)), (0, [], .slice la l.length cap), (1, [], .slice lb m.length cbp)]) (nd := (fun _ => [])) (fun _ => by kernel_rfl) trivial ?_
      refine Cfg.cond rfl (b := (decide ((i : Int) < (l.length : Int)))) (by kernel_rfl) (fun c2r => ?_) (fun c2r => ?_)
      · have c2 : ((i : Int) < (l.length : Int)) := (of_decide_eq_true c2r)
        refine Cfg.reg rfl [0, 1, 5, 12, 13] [] (Γ' := [(5, [], .int .i64 (i : Int)), (13, [], .int .i64 (i : Int)), (12, [], .int .i64 (l.length : Int)), (0, [], .slice la l.length cap), (1, [], .slice lb m.length cbp)]) (nd := (fun _ => [])) (fun _ => by kernel_rfl) trivial ?_
        obtain ⟨sb, off, cs, te, fre, rfl, hmem, hcs⟩ := hI (by omega)
        obtain ⟨sb2, off2, cs2, te2, fre2, rfl, hmem2, hcs2⟩ := hJ (by omega)
        refine Conv.cfg (Γ' := [(5, [], .int .i64 (i : Int)), (13, [], .int .i64 (i : Int)), (12, [], .int .i64 (l.length : Int)), (0, [], .slice (some ⟨sb, off, none⟩) l.length cap), (1, [], .slice (some ⟨sb2, off2, none⟩) m.length cbp)]) (Conv.mk (by kernel_rfl)) ?_
        refine Cfg.regD rfl (by kernel_rfl) [0, 1, 12, 13, 24] [(0, false, none), (0, false, none), (0, false, none), (0, false, some (.agg (rc (l.getD i rz)).toArray)), (0, false, none), (0, false, none), (0, false, none), (0, false, some (.agg (rc (m.getD i rz)).toArray)), (0, false, some (.bool (rfEq (l.getD i rz) (m.getD i rz))))] (Γ' := [(24, [], .bool (!(rfEq (l.getD i rz) (m.getD i rz)))), (13, [], .int .i64 (i : Int)), (12, [], .int .i64 (l.length : Int)), (0, [], .slice (some ⟨sb, off, none⟩) l.length cap), (1, [], .slice (some ⟨sb2, off2, none⟩) m.length cbp)]) (nd := (fun S => [(0 ≤ (i : Int) ∧ (i : Int) < (l.length : Int)), (∀ w1, S w1 → (loadVar 56 ⟨sb, (addO off (i * 33)), none⟩).run Try.prog w1 = .ok (.agg (rc (l.getD i rz)).toArray) w1), (0 ≤ (i : Int) ∧ (i : Int) < (m.length : Int)), (∀ w1, S w1 → (loadVar 56 ⟨sb2, (addO off2 (i * 33)), none⟩).run Try.prog w1 = .ok (.agg (rc (m.getD i rz)).toArray) w1), (∀ w1, S w1 → (Op.equal 56 (.agg (rc (l.getD i rz)).toArray) (.agg (rc (m.getD i rz)).toArray)).run Try.prog w1 = .ok (rfEq (l.getD i rz) (m.getD i rz)) w1)])) (by kernel_rfl) (by kernel_rfl) (fun _ => by kernel_rfl) ⟨(by omega), (fun w1 h => load_list Try.underlying56 rfl (by kernel_rfl) (rc_len (hW.at i)) (fun j v hj => by rw [addO_eq]; exact (cell_cells (h.ro _ hmem)).trans (ref_cell hW hcs (by omega) hj))), (by omega), (fun w1 h => load_list Try.underlying56 rfl (by kernel_rfl) (rc_len (hV.at i)) (fun j v hj => by rw [addO_eq]; exact (cell_cells (h.ro _ hmem2)).trans (ref_cell hV hcs2 (by omega) hj))), (fun w1 _ => ref_equal (hW.at i) (hV.at i) w1), trivial⟩ ?_
        refine Cfg.cond rfl (b := (!(rfEq (l.getD i rz) (m.getD i rz)))) (by kernel_rfl) (fun c3r => ?_) (fun c3r => ?_)
        · have c3 : ((rfEq (l.getD i rz) (m.getD i rz)) = false) := (notT c3r)
          refine Cfg.reg rfl [4] [] (Γ' := [(4, [], .bool false)]) (nd := (fun _ => [])) (fun _ => by kernel_rfl) trivial ?_
          refine Cfg.ret rfl (rs := [.tmp 4]) rfl [.bool false] ⟨by kernel_rfl, trivial⟩ (fun w1 hp => ?_)
          exact ⟨by rw [eqR_at (by omega) c3]; rfl, hp.ext⟩
        · have c3 : ((rfEq (l.getD i rz) (m.getD i rz)) = true) := (notF c3r)
          refine Cfg.reg rfl [0, 1, 12, 13] [] (Γ' := [(13, [], .int .i64 ((i : Int) + 1)), (12, [], .int .i64 (l.length : Int)), (0, [], .slice (some ⟨sb, off, none⟩) l.length cap), (1, [], .slice (some ⟨sb2, off2, none⟩) m.length cbp)]) (nd := (fun _ => [((-9223372036854775808 : Int) ≤ ((i : Int) + 1) ∧ ((i : Int) + 1) ≤ 9223372036854775807)])) (fun _ => by kernel_rfl) ⟨(by omega), trivial⟩ ?_
          refine Cfg.again rfl (i + 1) ⟨by omega, fun j hj => by rcases Nat.lt_or_ge j i with h1 | h1; exact hall j h1; rw [show j = i by omega]; exact c3⟩ (by omega) (Conv.mk (by kernel_rfl)) .slnil
      · have c2 : (¬ ((i : Int) < (l.length : Int))) := (of_decide_eq_false c2r)
        refine Cfg.reg rfl [4] [] (Γ' := [(4, [], .bool true)]) (nd := (fun _ => [])) (fun _ => by kernel_rfl) trivial ?_
        refine Cfg.ret rfl (rs := [.tmp 4]) rfl [.bool true] ⟨by kernel_rfl, trivial⟩ (fun w1 hp => ?_)
        exact ⟨by rw [eqR_yes (by omega) (fun j hj => hall j (by omega))]; rfl, hp.ext⟩

set_option maxRecDepth 100000 in
theorem rCloneB (b cap : Nat) (l : List Rf) (junk : List Value) (w : World) (hW : W32 l) (hm : l.length ≤ 4096) (hR : Has w [(b, .cells (rv l ++ junk).toArray 56 (0, 0))]) :
    Calls Try.prog 47 #[.slice (some ⟨b, 0, none⟩) l.length cap] w fun e w' => ∃ o : K.Own, OwnOk o 33 l.length (rv l) ∧ e = .returned (.slice o.a l.length o.c) ∧ Has w' (o.o 56 (rv l)) ∧ (∀ x ∈ o.o 56 (rv l), w.heap.size ≤ x.1) ∧ Ext [] w w' := by
  refine enter (vs := [.slice (some ⟨b, 0, none⟩) l.length cap]) [] [(b, .cells ((rv l ++ junk).toArray) 56 (0, 0))] [] Try.func47 rfl (by kernel_rfl) (HP.ofHas hR) ?_
  refine Cfg.reg rfl [0] [] (Γ' := [(0, [], .slice (some ⟨b, 0, none⟩) l.length cap)]) (nd := (fun _ => [])) (fun _ => by kernel_rfl) trivial ?_
  refine Cfg.reg rfl [0, 4] [] (Γ' := [(4, [], .bool false), (0, [], .slice (some ⟨b, 0, none⟩) l.length cap)]) (nd := (fun _ => [])) (fun _ => by kernel_rfl) trivial ?_
  refine Cfg.condF rfl (b := false) (by kernel_rfl) rfl ?_
  refine Cfg.begL rfl ?_
  refine CfgL.eff (o := _) rfl (by kernel_rfl) (by kernel_rfl) (Eff.buildSlice (e := 56) (cells := #[]) (parts := #[]) rfl (by kernel_rfl) (fun _ => by kernel_rfl)) ?_
  rintro z ⟨hz, nz⟩
  refine CfgL.pure 1 [] none (Γ' := [(6, [], .slice (some ⟨b, 0, none⟩) l.length cap), (5, [], .slice (some ⟨z, 0, none⟩) 0 0), (4, [], .bool false), (0, [], .slice (some ⟨b, 0, none⟩) l.length cap)]) (nd := (fun _ => [])) (by kernel_rfl) (fun _ => by kernel_rfl) trivial ?_
  refine CfgL.eff (o := _) rfl (by kernel_rfl) (by kernel_rfl) (Eff.appendF rfl 33 48 Try.underlying26 (by kernel_rfl) (z := (.agg (rc rz).toArray)) (by kernel_rfl) rfl (some (z, 0, [])) (n := 0) (xs := []) (own_zero z 33) (by kernel_rfl) (b2 := b) (off2 := 0) (m := l.length) (c2 := cap) (by kernel_rfl) (rv l) (rv_len hW) (rv_all l) [] [] rfl (fun w1 h j v hj => rv_src h (List.mem_cons_self ..) hj) (by omega) (by omega)) ?_
  rintro o ko
  refine CfgL.pure 1 [] (some [2]) (Γ' := [(2, [], .slice (Own.a o) ((0 + l.length)) (Own.c o))]) (nd := (fun _ => [])) (by kernel_rfl) (fun _ => by kernel_rfl) trivial ?_
  refine CfgL.done rfl ?_
  refine Cfg.ret rfl (rs := [.tmp 2]) rfl [.slice (Own.a o) ((0 + l.length)) (Own.c o)] ⟨by kernel_rfl, trivial⟩ (fun w1 hp => ?_)
  have ko2 := ko
  rw [Nat.zero_add] at ko2
  exact ⟨o, ko2, by rw [Nat.zero_add]; rfl, fun x hx => hp.own x (by simpa using hx), fun x hx => (hp.mine x (by simpa using hx)).resolve_right (fun h => by cases h), hp.ext⟩

set_option maxRecDepth 100000 in
theorem rCloneN (w : World) :
    Calls Try.prog 47 #[.slice none 0 0] w fun e w' => e = .returned (.slice none 0 0) ∧ Ext [] w w' := by
  refine enter (vs := [.slice none 0 0]) [] [] [] Try.func47 rfl (by kernel_rfl) (HP.start w) ?_
  refine Cfg.reg rfl [0] [] (Γ' := [(0, [], .slice none 0 0)]) (nd := (fun _ => [])) (fun _ => by kernel_rfl) trivial ?_
  refine Cfg.reg rfl [0, 4] [] (Γ' := [(4, [], .bool true), (0, [], .slice none 0 0)]) (nd := (fun _ => [])) (fun _ => by kernel_rfl) trivial ?_
  refine Cfg.condT rfl (b := true) (by kernel_rfl) rfl ?_
  refine Cfg.reg rfl [2] [] (Γ' := [(2, [], .slice none 0 0)]) (nd := (fun _ => [])) (fun _ => by kernel_rfl) trivial ?_
  refine Cfg.ret rfl (rs := [.tmp 2]) rfl [.slice none 0 0] ⟨by kernel_rfl, trivial⟩ (fun w1 hp => ?_)
  exact ⟨rfl, hp.ext⟩


theorem rCloneO (o : K.Own) (l : List Rf) (k : OwnOk o 33 l.length (rv l)) (hW : W32 l) (hm : l.length ≤ 4096) (w : World) (hR : Has w (o.o 56 (rv l))) : Calls Try.prog 47 #[.slice o.a l.length o.c] w fun e w' =>
    ∃ q : K.Own, OwnOk q 33 l.length (rv l) ∧ e = .returned (.slice q.a l.length q.c) ∧ Has w' (q.o 56 (rv l)) ∧ (∀ x ∈ q.o 56 (rv l), w.heap.size ≤ x.1) ∧ Ext [] w w' := by
  cases o with
  | none =>
    have h0 := List.eq_nil_of_length_eq_zero (k.nil rfl)
    subst h0
    refine (rCloneN w).mono ?_
    rintro e w' ⟨he, hx⟩
    exact ⟨none, OwnOk.none 33, he, (fun e he => by cases he), (fun e he => by cases he), hx⟩
  | some p =>
    obtain ⟨b, cap, junk⟩ := p
    exact rCloneB b cap l junk w hW hm hR


set_option maxRecDepth 100000 in
theorem rCloneS (hd : ByteArray) (o1 o2 : K.Own) (l1 l2 : List Rf) (nx : Int) (Rl : List (Nat × Obj)) (w : World) (k1 : OwnOk o1 33 l1.length (rv l1)) (k2 : OwnOk o2 33 l2.length (rv l2)) (h1 : ∀ e ∈ o1.o 56 (rv l1), e ∈ Rl) (h2 : ∀ e ∈ o2.o 56 (rv l2), e ∈ Rl) (hW1 : W32 l1) (hW2 : W32 l2) (m1 : l1.length ≤ 4096) (m2 : l2.length ≤ 4096) (hR : Has w Rl) :
    Calls Try.prog 19 #[.agg #[.string hd, .slice (Own.a o1) l1.length (Own.c o1), .slice (Own.a o2) l2.length (Own.c o2), .int .u64 nx]] w fun e w' => ∃ x : K.Own × K.Own, (OwnOk x.1 33 l1.length (rv l1) ∧ OwnOk x.2 33 l2.length (rv l2)) ∧ e = .returned (.agg #[.string hd, .slice (Own.a x.1) l1.length (Own.c x.1), .slice (Own.a x.2) l2.length (Own.c x.2), .int .u64 nx]) ∧ ∃ R1, HP w [] R1 (Own.o 56 (rv l2) x.2 ++ (Own.o 56 (rv l1) x.1 ++ [])) w' := by
  refine enter (vs := [.agg #[.string hd, .slice (Own.a o1) l1.length (Own.c o1), .slice (Own.a o2) l2.length (Own.c o2), .int .u64 nx]]) [] Rl [] Try.func19 rfl (by kernel_rfl) (HP.ofHas hR) ?_
  refine Cfg.begL rfl ?_
  refine CfgL.eff (o := _) rfl (by kernel_rfl) (by kernel_rfl) (Eff.box (v := .agg #[.string hd, .slice (Own.a o1) l1.length (Own.c o1), .slice (Own.a o2) l2.length (Own.c o2), .int .u64 nx]) rfl (by kernel_rfl)) ?_
  rintro b1 ⟨hb1, nb1⟩
  refine CfgL.eff (o := _) rfl (by kernel_rfl) (by kernel_rfl) (Eff.alloc (z := (.agg #[.string ByteArray.empty, .slice none 0 0, .slice none 0 0, .int .u64 0])) rfl (by kernel_rfl)) ?_
  rintro b2 ⟨hb2, nb2⟩
  refine CfgL.done rfl ?_
  refine Conv.cfg (Γ' := [(2, [], .pointer (some ⟨b2, 0, none⟩)), (1, [], .pointer (some ⟨b1, 0, none⟩))]) (Conv.mk (by kernel_rfl)) ?_
  refine Cfg.begL rfl ?_
  refine CfgL.pure 2 [(0, false, none), (0, false, some (.slice (Own.a o1) l1.length (Own.c o1)))] none (Γ' := [(4, [], .slice (Own.a o1) l1.length (Own.c o1)), (3, [], .pointer (some ⟨b1, 1, none⟩)), (2, [], .pointer (some ⟨b2, 0, none⟩)), (1, [], .pointer (some ⟨b1, 0, none⟩))]) (nd := (fun S => [(∀ w1, S w1 → w1.cell? ⟨b1, 1, none⟩ = some (.slice (Own.a o1) l1.length (Own.c o1)))])) (by kernel_rfl) (fun _ => by kernel_rfl) ⟨(fun w1 h => h.ocell 1 rfl rfl), trivial⟩ ?_
  refine CfgL.eff (o := _) rfl (by kernel_rfl) (by kernel_rfl) (Eff.callOF (vs := [.slice (Own.a o1) l1.length (Own.c o1)]) 56 33 l1.length (rv l1) [(b2, .cells #[.string ByteArray.empty, .slice none 0 0, .slice none 0 0, .int .u64 0] 29 (0, 0)), (b1, .cells #[.string hd, .slice (Own.a o1) l1.length (Own.c o1), .slice (Own.a o2) l2.length (Own.c o2), .int .u64 nx] 29 (0, 0))] [] rfl rfl Try.func47 rfl rfl (by kernel_rfl) (fun w1 h => rCloneO o1 l1 k1 hW1 m1 w1 (h.hasR h1))) ?_
  rintro q1 kq1
  refine CfgL.pure 1 [] none (Γ' := [(6, [], .pointer (some ⟨b1, 1, none⟩)), (5, [], .slice (Own.a q1) l1.length (Own.c q1)), (4, [], .slice (Own.a o1) l1.length (Own.c o1)), (3, [], .pointer (some ⟨b1, 1, none⟩)), (2, [], .pointer (some ⟨b2, 0, none⟩)), (1, [], .pointer (some ⟨b1, 0, none⟩))]) (nd := (fun _ => [])) (by kernel_rfl) (fun _ => by kernel_rfl) trivial ?_
  refine CfgL.eff (o := _) rfl (by kernel_rfl) (by kernel_rfl) (Eff.store1 (b := b1) (off := 1) (v := .slice (Own.a q1) l1.length (Own.c q1)) rfl (by kernel_rfl) (by kernel_rfl) rfl (by kernel_rfl) 1 (cs := #[.string hd, .slice (Own.a o1) l1.length (Own.c o1), .slice (Own.a o2) l2.length (Own.c o2), .int .u64 nx]) (e := 29) (by kernel_rfl) (by simp)) ?_
  rintro ⟨⟩ -
  refine CfgL.done rfl ?_
  refine Conv.cfg (Γ' := [(2, [], .pointer (some ⟨b2, 0, none⟩)), (1, [], .pointer (some ⟨b1, 0, none⟩))]) (Conv.mk (by kernel_rfl)) ?_
  refine Cfg.begL rfl ?_
  refine CfgL.pure 2 [(0, false, none), (0, false, some (.slice (Own.a o2) l2.length (Own.c o2)))] none (Γ' := [(8, [], .slice (Own.a o2) l2.length (Own.c o2)), (7, [], .pointer (some ⟨b1, 2, none⟩)), (2, [], .pointer (some ⟨b2, 0, none⟩)), (1, [], .pointer (some ⟨b1, 0, none⟩))]) (nd := (fun S => [(∀ w1, S w1 → w1.cell? ⟨b1, 2, none⟩ = some (.slice (Own.a o2) l2.length (Own.c o2)))])) (by kernel_rfl) (fun _ => by kernel_rfl) ⟨(fun w1 h => h.ocell 1 rfl rfl), trivial⟩ ?_
  refine CfgL.eff (o := _) rfl (by kernel_rfl) (by kernel_rfl) (Eff.callOF (vs := [.slice (Own.a o2) l2.length (Own.c o2)]) 56 33 l2.length (rv l2) [(b2, .cells #[.string ByteArray.empty, .slice none 0 0, .slice none 0 0, .int .u64 0] 29 (0, 0)), (b1, .cells (#[.string hd, .slice (Own.a o1) l1.length (Own.c o1), .slice (Own.a o2) l2.length (Own.c o2), .int .u64 nx].setIfInBounds 1 (.slice (Own.a q1) l1.length (Own.c q1))) 29 (0, 0))] ([] ++ (Own.o 56 (rv l1) q1 ++ [])) rfl rfl Try.func47 rfl rfl (by kernel_rfl) (fun w1 h => rCloneO o2 l2 k2 hW2 m2 w1 (h.hasR h2))) ?_
  rintro q2 kq2
  refine CfgL.pure 1 [] none (Γ' := [(10, [], .pointer (some ⟨b1, 2, none⟩)), (9, [], .slice (Own.a q2) l2.length (Own.c q2)), (8, [], .slice (Own.a o2) l2.length (Own.c o2)), (7, [], .pointer (some ⟨b1, 2, none⟩)), (2, [], .pointer (some ⟨b2, 0, none⟩)), (1, [], .pointer (some ⟨b1, 0, none⟩))]) (nd := (fun _ => [])) (by kernel_rfl) (fun _ => by kernel_rfl) trivial ?_
  refine CfgL.eff (o := _) rfl (by kernel_rfl) (by kernel_rfl) (Eff.store1 (b := b1) (off := 2) (v := .slice (Own.a q2) l2.length (Own.c q2)) rfl (by kernel_rfl) (by kernel_rfl) rfl (by kernel_rfl) 1 (cs := (#[.string hd, .slice (Own.a o1) l1.length (Own.c o1), .slice (Own.a o2) l2.length (Own.c o2), .int .u64 nx].setIfInBounds 1 (.slice (Own.a q1) l1.length (Own.c q1)))) (e := 29) (by kernel_rfl) (by simp)) ?_
  rintro ⟨⟩ -
  refine CfgL.done rfl ?_
  refine Conv.cfg (Γ' := [(2, [], .pointer (some ⟨b2, 0, none⟩)), (1, [], .pointer (some ⟨b1, 0, none⟩))]) (Conv.mk (by kernel_rfl)) ?_
  refine Cfg.begL rfl ?_
  refine CfgL.pure 1 [(0, false, some (.agg #[.string hd, .slice (Own.a q1) l1.length (Own.c q1), .slice (Own.a q2) l2.length (Own.c q2), .int .u64 nx]))] none (Γ' := [(11, [], .agg #[.string hd, .slice (Own.a q1) l1.length (Own.c q1), .slice (Own.a q2) l2.length (Own.c q2), .int .u64 nx]), (2, [], .pointer (some ⟨b2, 0, none⟩)), (1, [], .pointer (some ⟨b1, 0, none⟩))]) (nd := (fun S => [(∀ w1, S w1 → (loadVar 29 ⟨b1, 0, none⟩).run Try.prog w1 = .ok (.agg #[.string hd, .slice (Own.a q1) l1.length (Own.c q1), .slice (Own.a q2) l2.length (Own.c q2), .int .u64 nx]) w1)])) (by kernel_rfl) (fun _ => by kernel_rfl) ⟨(fun w1 h => h.oload 1 rfl Try.underlying29 rfl (n := 4) (by kernel_rfl) rfl), trivial⟩ ?_
  refine CfgL.eff (o := _) rfl (by kernel_rfl) (by kernel_rfl) (Eff.storeN (b := b2) (off := 0) (vs := #[.string hd, .slice (Own.a q1) l1.length (Own.c q1), .slice (Own.a q2) l2.length (Own.c q2), .int .u64 nx]) (n := 4) rfl (by kernel_rfl) (by kernel_rfl) (by kernel_rfl) rfl (four_one rfl rfl rfl rfl) 0 (cs := #[.string ByteArray.empty, .slice none 0 0, .slice none 0 0, .int .u64 0]) (e := 29) (by kernel_rfl) (Nat.le_refl 4)) ?_
  rintro ⟨⟩ -
  refine CfgL.setO (O' := ([(b2, .cells #[.string hd, .slice (Own.a q1) l1.length (Own.c q1), .slice (Own.a q2) l2.length (Own.c q2), .int .u64 nx] 29 (0, 0)), (b1, .cells ((#[.string hd, .slice (Own.a o1) l1.length (Own.c o1), .slice (Own.a o2) l2.length (Own.c o2), .int .u64 nx].setIfInBounds 1 (.slice (Own.a q1) l1.length (Own.c q1))).setIfInBounds 2 (.slice (Own.a q2) l2.length (Own.c q2))) 29 (0, 0))] ++ (Own.o 56 (rv l2) q2 ++ (Own.o 56 (rv l1) q1 ++ [])))) (congrArg (fun (xq : Array Value) => (([(b2, .cells xq 29 (0, 0)), (b1, .cells ((#[.string hd, .slice (Own.a o1) l1.length (Own.c o1), .slice (Own.a o2) l2.length (Own.c o2), .int .u64 nx].setIfInBounds 1 (.slice (Own.a q1) l1.length (Own.c q1))).setIfInBounds 2 (.slice (Own.a q2) l2.length (Own.c q2))) 29 (0, 0))] ++ (Own.o 56 (rv l2) q2 ++ (Own.o 56 (rv l1) q1 ++ []))) : List (Nat × Obj))) (rfl)) ?_
  refine CfgL.done rfl ?_
  refine Conv.cfg (Γ' := [(2, [], .pointer (some ⟨b2, 0, none⟩))]) (Conv.mk (by kernel_rfl)) ?_
  refine Cfg.ret rfl (rs := [.cell 2 29]) rfl [.agg #[.string hd, .slice (Own.a q1) l1.length (Own.c q1), .slice (Own.a q2) l2.length (Own.c q2), .int .u64 nx]] ⟨⟨_, by kernel_rfl, (fun w1 h => h.oload 0 rfl Try.underlying29 rfl (n := 4) (by kernel_rfl) rfl)⟩, trivial⟩ (fun w1 hp => ?_)
  exact ⟨(q1, q2), ⟨kq1, kq2⟩, rfl, _, hp.sub (List.sublist_append_right _ _)⟩

set_option maxRecDepth 100000 in
theorem rSame (hd hd2 : ByteArray) (la lb ta tb : Option Addr) (cap cbp ca cb : Nat) (l m lt mt : List Rf) (nx ny : Int) (Rl : List (Nat × Obj)) (w : World) (hI : InR Rl la l) (hJ : InR Rl lb m) (hIt : InR Rl ta lt) (hJt : InR Rl tb mt) (hW : W32 l) (hV : W32 m) (hWt : W32 lt) (hVt : W32 mt) (hR : Has w Rl) (hn : l.length ≤ maxLen) (hn2 : m.length ≤ maxLen) (hn3 : lt.length ≤ maxLen) (hn4 : mt.length ≤ maxLen) :
    Calls Try.prog 9 #[.agg #[.string hd, .slice la l.length cap, .slice ta lt.length ca, .int .u64 nx], .agg #[.string hd2, .slice lb m.length cbp, .slice tb mt.length cb, .int .u64 ny]] w fun e w' => e = .returned (.bool (hd.toList == hd2.toList && nx == ny && eqR l m && eqR lt mt)) ∧ Ext [] w w' := by
  refine enter (vs := [.agg #[.string hd, .slice la l.length cap, .slice ta lt.length ca, .int .u64 nx], .agg #[.string hd2, .slice lb m.length cbp, .slice tb mt.length cb, .int .u64 ny]]) [] Rl [] Try.func9 rfl (by kernel_rfl) (HP.ofHas hR) ?_
  refine Cfg.begL rfl ?_
  refine CfgL.eff (o := _) rfl (by kernel_rfl) (by kernel_rfl) (Eff.box (v := .agg #[.string hd, .slice la l.length cap, .slice ta lt.length ca, .int .u64 nx]) rfl (by kernel_rfl)) ?_
  rintro b1 ⟨hb1, nb1⟩
  refine CfgL.eff (o := _) rfl (by kernel_rfl) (by kernel_rfl) (Eff.box (v := .agg #[.string hd2, .slice lb m.length cbp, .slice tb mt.length cb, .int .u64 ny]) rfl (by kernel_rfl)) ?_
  rintro b2 ⟨hb2, nb2⟩
  refine CfgL.pure 1 [] (some [2, 3]) (Γ' := [(3, [], .pointer (some ⟨b2, 0, none⟩)), (2, [], .pointer (some ⟨b1, 0, none⟩))]) (nd := (fun _ => [])) (by kernel_rfl) (fun _ => by kernel_rfl) trivial ?_
  refine CfgL.done rfl ?_
  refine Cfg.begL rfl ?_
  refine CfgL.pure 13 [(0, false, none), (0, false, some (.string hd)), (0, false, none), (0, false, some (.string hd2)), (0, false, none), (0, false, none), (0, false, none), (0, false, some (.int .u64 nx)), (0, false, none), (0, false, some (.int .u64 ny))] none (Γ' := [(17, [], .bool ((hd.toList == hd2.toList) && (nx == ny))), (16, [], .bool ((hd.toList == hd2.toList) && (nx == ny))), (15, [(10, true)], .bool (nx == ny)), (14, [(10, true)], .int .u64 ny), (13, [(10, true)], .pointer (some ⟨b2, 3, none⟩)), (12, [(10, true)], .int .u64 nx), (11, [(10, true)], .pointer (some ⟨b1, 3, none⟩)), (10, [], .bool (hd.toList == hd2.toList)), (9, [], .bool (hd.toList == hd2.toList)), (8, [], .string hd2), (7, [], .pointer (some ⟨b2, 0, none⟩)), (6, [], .string hd), (5, [], .pointer (some ⟨b1, 0, none⟩)), (3, [], .pointer (some ⟨b2, 0, none⟩)), (2, [], .pointer (some ⟨b1, 0, none⟩))]) (nd := (fun S => [(∀ w1, S w1 → w1.cell? ⟨b1, 0, none⟩ = some (.string hd)), (∀ w1, S w1 → w1.cell? ⟨b2, 0, none⟩ = some (.string hd2)), ((.bool (hd.toList == hd2.toList) : Value) = .bool true → (∀ w1, S w1 → w1.cell? ⟨b1, 3, none⟩ = some (.int .u64 nx))), ((.bool (hd.toList == hd2.toList) : Value) = .bool true → (∀ w1, S w1 → w1.cell? ⟨b2, 3, none⟩ = some (.int .u64 ny)))])) (by kernel_rfl) (fun _ => by kernel_rfl) ⟨(fun w1 h => h.ocell 1 rfl rfl), (fun w1 h => h.ocell 0 rfl rfl), (fun g0 => have q0 : ((hd.toList == hd2.toList) = true) := (boolV g0); (fun w1 h => h.ocell 1 rfl rfl)), (fun g0 => have q0 : ((hd.toList == hd2.toList) = true) := (boolV g0); (fun w1 h => h.ocell 0 rfl rfl)), trivial⟩ ?_
  by_cases c1 : ((hd.toList == hd2.toList) && (nx == ny)) = true
  · have c1k : ((hd.toList == hd2.toList) && (nx == ny)) = true := c1
    have c1q : (((hd.toList == hd2.toList) = true) ∧ (nx = ny)) := ⟨(andT1 c1k), (beq_iff_eq.1 (andT2 c1k))⟩
    refine CfgL.known 17 (b := ((hd.toList == hd2.toList) && (nx == ny))) (by kernel_rfl) true c1k ?_
    refine CfgL.pure 4 [(1, false, none), (1, false, some (.slice la l.length cap)), (1, false, none), (1, false, some (.slice lb m.length cbp))] none (Γ' := [(21, [], .slice lb m.length cbp), (20, [], .pointer (some ⟨b2, 1, none⟩)), (19, [], .slice la l.length cap), (18, [], .pointer (some ⟨b1, 1, none⟩)), (17, [], .bool true), (16, [], .bool ((hd.toList == hd2.toList) && (nx == ny))), (15, [(10, true)], .bool (nx == ny)), (14, [(10, true)], .int .u64 ny), (13, [(10, true)], .pointer (some ⟨b2, 3, none⟩)), (12, [(10, true)], .int .u64 nx), (11, [(10, true)], .pointer (some ⟨b1, 3, none⟩)), (10, [], .bool (hd.toList == hd2.toList)), (9, [], .bool (hd.toList == hd2.toList)), (8, [], .string hd2), (7, [], .pointer (some ⟨b2, 0, none⟩)), (6, [], .string hd), (5, [], .pointer (some ⟨b1, 0, none⟩)), (3, [], .pointer (some ⟨b2, 0, none⟩)), (2, [], .pointer (some ⟨b1, 0, none⟩))]) (nd := (fun S => [((.bool true : Value) = .bool true), ((.bool true : Value) = .bool true), (∀ w1, S w1 → w1.cell? ⟨b1, 1, none⟩ = some (.slice la l.length cap)), ((.bool true : Value) = .bool true), ((.bool true : Value) = .bool true), (∀ w1, S w1 → w1.cell? ⟨b2, 1, none⟩ = some (.slice lb m.length cbp))])) (by kernel_rfl) (fun _ => by kernel_rfl) ⟨rfl, rfl, (fun w1 h => h.ocell 1 rfl rfl), rfl, rfl, (fun w1 h => h.ocell 0 rfl rfl), trivial⟩ ?_
    refine CfgL.eff (o := _) rfl (by kernel_rfl) (by kernel_rfl) (Eff.callA (vs := [.slice la l.length cap, .slice lb m.length cbp]) (.bool (eqR l m)) rfl Try.func23 rfl rfl (by kernel_rfl) (fun w1 h => rEqual la lb cap cbp l m Rl w1 hI hJ hW hV (h.hasR (fun e he => he)) hn hn2)) ?_
    rintro ⟨⟩ -
    refine CfgL.pure 2 [] none (Γ' := [(24, [], .bool (eqR l m)), (23, [], .bool (eqR l m)), (22, [], .bool (eqR l m)), (21, [], .slice lb m.length cbp), (20, [], .pointer (some ⟨b2, 1, none⟩)), (19, [], .slice la l.length cap), (18, [], .pointer (some ⟨b1, 1, none⟩)), (17, [], .bool true), (16, [], .bool ((hd.toList == hd2.toList) && (nx == ny))), (15, [(10, true)], .bool (nx == ny)), (14, [(10, true)], .int .u64 ny), (13, [(10, true)], .pointer (some ⟨b2, 3, none⟩)), (12, [(10, true)], .int .u64 nx), (11, [(10, true)], .pointer (some ⟨b1, 3, none⟩)), (10, [], .bool (hd.toList == hd2.toList)), (9, [], .bool (hd.toList == hd2.toList)), (8, [], .string hd2), (7, [], .pointer (some ⟨b2, 0, none⟩)), (6, [], .string hd), (5, [], .pointer (some ⟨b1, 0, none⟩)), (3, [], .pointer (some ⟨b2, 0, none⟩)), (2, [], .pointer (some ⟨b1, 0, none⟩))]) (nd := (fun _ => [])) (by kernel_rfl) (fun _ => by kernel_rfl) trivial ?_
    by_cases c2 : (eqR l m) = true
    · have c2k : (eqR l m) = true := c2
      have c2q : ((eqR l m) = true) := c2k
      refine CfgL.known 24 (b := (eqR l m)) (by kernel_rfl) true c2k ?_
      refine CfgL.pure 4 [(1, false, none), (1, false, some (.slice ta lt.length ca)), (1, false, none), (1, false, some (.slice tb mt.length cb))] none (Γ' := [(28, [], .slice tb mt.length cb), (27, [], .pointer (some ⟨b2, 2, none⟩)), (26, [], .slice ta lt.length ca), (25, [], .pointer (some ⟨b1, 2, none⟩)), (24, [], .bool true), (23, [], .bool (eqR l m)), (22, [], .bool (eqR l m)), (21, [], .slice lb m.length cbp), (20, [], .pointer (some ⟨b2, 1, none⟩)), (19, [], .slice la l.length cap), (18, [], .pointer (some ⟨b1, 1, none⟩)), (17, [], .bool true), (16, [], .bool ((hd.toList == hd2.toList) && (nx == ny))), (15, [(10, true)], .bool (nx == ny)), (14, [(10, true)], .int .u64 ny), (13, [(10, true)], .pointer (some ⟨b2, 3, none⟩)), (12, [(10, true)], .int .u64 nx), (11, [(10, true)], .pointer (some ⟨b1, 3, none⟩)), (10, [], .bool (hd.toList == hd2.toList)), (9, [], .bool (hd.toList == hd2.toList)), (8, [], .string hd2), (7, [], .pointer (some ⟨b2, 0, none⟩)), (6, [], .string hd), (5, [], .pointer (some ⟨b1, 0, none⟩)), (3, [], .pointer (some ⟨b2, 0, none⟩)), (2, [], .pointer (some ⟨b1, 0, none⟩))]) (nd := (fun S => [((.bool true : Value) = .bool true), ((.bool true : Value) = .bool true), (∀ w1, S w1 → w1.cell? ⟨b1, 2, none⟩ = some (.slice ta lt.length ca)), ((.bool true : Value) = .bool true), ((.bool true : Value) = .bool true), (∀ w1, S w1 → w1.cell? ⟨b2, 2, none⟩ = some (.slice tb mt.length cb))])) (by kernel_rfl) (fun _ => by kernel_rfl) ⟨rfl, rfl, (fun w1 h => h.ocell 1 rfl rfl), rfl, rfl, (fun w1 h => h.ocell 0 rfl rfl), trivial⟩ ?_
      refine CfgL.eff (o := _) rfl (by kernel_rfl) (by kernel_rfl) (Eff.callA (vs := [.slice ta lt.length ca, .slice tb mt.length cb]) (.bool (eqR lt mt)) rfl Try.func23 rfl rfl (by kernel_rfl) (fun w1 h => rEqual ta tb ca cb lt mt Rl w1 hIt hJt hWt hVt (h.hasR (fun e he => he)) hn3 hn4)) ?_
      rintro ⟨⟩ -
      refine CfgL.pure 2 [] (some [4]) (Γ' := [(4, [], .bool (eqR lt mt))]) (nd := (fun _ => [])) (by kernel_rfl) (fun _ => by kernel_rfl) trivial ?_
      refine CfgL.done rfl ?_
      refine Cfg.ret rfl (rs := [.tmp 4]) rfl [.bool (eqR lt mt)] ⟨by kernel_rfl, trivial⟩ (fun w1 hp => ?_)
      exact ⟨by simp_all [resOf], hp.ext⟩
    · have c2k : (eqR l m) = false := (by simpa using c2)
      have c2q : ((eqR l m) = false) := c2k
      refine CfgL.known 24 (b := (eqR l m)) (by kernel_rfl) false c2k ?_
      refine CfgL.pure 7 [(2, false, none), (2, false, none), (2, false, none), (2, false, none), (2, false, none)] (some [4]) (Γ' := [(4, [], .bool false)]) (nd := (fun _ => [((.bool false : Value) ≠ .bool true), ((.bool false : Value) ≠ .bool true), ((.bool false : Value) ≠ .bool true), ((.bool false : Value) ≠ .bool true), ((.bool false : Value) ≠ .bool true)])) (by kernel_rfl) (fun _ => by kernel_rfl) ⟨(by simp), (by simp), (by simp), (by simp), (by simp), trivial⟩ ?_
      refine CfgL.done rfl ?_
      refine Cfg.ret rfl (rs := [.tmp 4]) rfl [.bool false] ⟨by kernel_rfl, trivial⟩ (fun w1 hp => ?_)
      exact ⟨by simp_all [resOf], hp.ext⟩
  · have c1k : ((hd.toList == hd2.toList) && (nx == ny)) = false := (by simpa using c1)
    have c1q : (((hd.toList == hd2.toList) = false) ∨ (nx ≠ ny)) := ((andF c1k).elim (fun h => Or.inl h) (fun h => Or.inr (beq_eq_false_iff_ne.1 h)))
    refine CfgL.known 17 (b := ((hd.toList == hd2.toList) && (nx == ny))) (by kernel_rfl) false c1k ?_
    refine CfgL.pure 14 [(2, false, none), (2, false, none), (2, false, none), (2, false, none), (2, false, none), (0, false, none), (0, false, none), (2, false, none), (2, false, none), (2, false, none), (2, false, none), (2, false, none)] (some [4]) (Γ' := [(4, [], .bool false)]) (nd := (fun _ => [((.bool false : Value) ≠ .bool true), ((.bool false : Value) ≠ .bool true), ((.bool false : Value) ≠ .bool true), ((.bool false : Value) ≠ .bool true), ((.bool false : Value) ≠ .bool true), ((.bool false : Value) ≠ .bool true), ((.bool false : Value) ≠ .bool true), ((.bool false : Value) ≠ .bool true), ((.bool false : Value) ≠ .bool true), ((.bool false : Value) ≠ .bool true)])) (by kernel_rfl) (fun _ => by kernel_rfl) ⟨(by simp), (by simp), (by simp), (by simp), (by simp), (by simp), (by simp), (by simp), (by simp), (by simp), trivial⟩ ?_
    refine CfgL.done rfl ?_
    refine Cfg.ret rfl (rs := [.tmp 4]) rfl [.bool false] ⟨by kernel_rfl, trivial⟩ (fun w1 hp => ?_)
    exact ⟨by simp_all [resOf], hp.ext⟩

end Go.Proofs.Ytfjaoofepmajlaa
