/- name.Pick: the digests of a kind, in order. Conditions: the texts are no longer than any can be; at most a million of them. -/
import Derived.Test.YtaggpgnijnjedaaName6
import Derived.Test.YtaggpgnijnjedaaK10
namespace Go.Proofs.Ytaggpgnijnjedaa
open K
set_option linter.unusedVariables false

/-- The digests of a kind among files' names. -/
def pickL (kd : Int) (ss : List ByteArray) : List (List UInt8) := ss.filterMap fun s => if npB s && (npK s == kd) then some (npL s) else none
def pk (kd : Int) (ss : List ByteArray) (i : Nat) : List (List UInt8) := pickL kd (ss.take i)
def dcells (ds : List (List UInt8)) : List Value := ds.flatMap fun l => (bv l).toList
def scells (ss : List ByteArray) : List Value := ss.map Value.string
def sat (ss : List ByteArray) (i : Nat) : ByteArray := ss.getD i ByteArray.empty
theorem pk_all (kd : Int) (ss : List ByteArray) : pk kd ss ss.length = pickL kd ss := by unfold pk; rw [List.take_length]
theorem take_sat {ss : List ByteArray} {i : Nat} (h : i < ss.length) : ss.take (i + 1) = ss.take i ++ [sat ss i] := by
  rw [List.take_succ_eq_append_getElem h]; simp [sat, List.getElem?_eq_getElem h]
theorem pk_yes {kd : Int} {ss : List ByteArray} {i : Nat} (h : i < ss.length) (h1 : npB (sat ss i) = true) (h2 : npK (sat ss i) = kd) : pk kd ss (i + 1) = pk kd ss i ++ [npL (sat ss i)] := by
  unfold pk pickL
  rw [take_sat h, List.filterMap_append]
  simp [h1, h2]
theorem pk_no {kd : Int} {ss : List ByteArray} {i : Nat} (h : i < ss.length) (h1 : npB (sat ss i) = false ∨ npK (sat ss i) ≠ kd) : pk kd ss (i + 1) = pk kd ss i := by
  unfold pk pickL
  rw [take_sat h, List.filterMap_append]
  rcases h1 with h1 | h1 <;> simp [h1]
theorem pk_len (kd : Int) (ss : List ByteArray) (i : Nat) : (pk kd ss i).length ≤ i := by
  unfold pk pickL
  refine Nat.le_trans (List.length_filterMap_le _ _) ?_
  simp; omega
theorem dcells_snoc (ds : List (List UInt8)) (l : List UInt8) : dcells ds ++ (bv l).toList = dcells (ds ++ [l]) := by simp [dcells]
theorem str_cell {w : World} {b i : Nat} {ss : List ByteArray} {junk : List Value} {t : TypeId} {fr : Nat × Nat} (h : w.heap[b]? = some (.cells (scells ss ++ junk).toArray t fr)) (hi : i < ss.length) : w.cell? ⟨b, i, none⟩ = some (.string (sat ss i)) := by
  rw [cell_cells h]
  simp [scells, sat, List.getElem?_append_left (show i < (ss.map Value.string).length by simpa using hi), List.getElem?_eq_getElem hi]
theorem sat_size {ss : List ByteArray} (h : ∀ s ∈ ss, s.size ≤ maxLen) (i : Nat) : (sat ss i).size ≤ maxLen := by
  unfold sat
  rw [List.getD_eq_getElem?_getD]
  cases hh : ss[i]? with
  | none => simp [maxLen]
  | some s => exact h s (List.mem_of_getElem? hh)

set_option maxRecDepth 100000 in
theorem namePick (kd : Int) (o : Own) (ss : List ByteArray) (w : World) (hol : OwnOk o 1 ss.length (scells ss)) (hss : ∀ s ∈ ss, s.size ≤ maxLen) (hh : Has w (o.o 9 (scells ss))) (hr : ss.length ≤ 1000000) :
    Calls Try.prog 12 #[.int .u8 kd, .slice (Own.a o) ss.length (Own.c o)] w fun e w' => ∃ o' : Own, OwnOk o' 32 (pickL kd ss).length (dcells (pickL kd ss)) ∧ e = .returned (.slice o'.a (pickL kd ss).length o'.c) ∧ Has w' (o'.o 25 (dcells (pickL kd ss))) ∧ (∀ x ∈ o'.o 25 (dcells (pickL kd ss)), w.heap.size ≤ x.1) ∧ Ext [] w w' := by
  refine enter (vs := [.int .u8 kd, .slice (Own.a o) ss.length (Own.c o)]) [] (Own.o 9 (scells ss) o) [] Try.func12 rfl (by kernel_rfl) (HP.ofHas hh) ?_
  refine Cfg.reg rfl [0, 1] [] (Γ' := [(0, [], .int .u8 kd), (1, [], .slice (Own.a o) ss.length (Own.c o))]) (nd := (fun _ => [])) (fun _ => by kernel_rfl) trivial ?_
  refine Cfg.reg rfl [0, 1, 5] [] (Γ' := [(5, [], .slice none 0 0), (0, [], .int .u8 kd), (1, [], .slice (Own.a o) ss.length (Own.c o))]) (nd := (fun _ => [])) (fun _ => by kernel_rfl) trivial ?_
  refine Cfg.reg rfl [0, 5, 11, 12, 13] [] (Γ' := [(13, [], .int .i64 0), (12, [], .int .i64 (ss.length : Int)), (11, [], .slice (Own.a o) ss.length (Own.c o)), (5, [], .slice none 0 0), (0, [], .int .u8 kd)]) (nd := (fun _ => [])) (fun _ => by kernel_rfl) trivial ?_
  refine Cfg.loop rfl (ι := Nat × Own) (fun (x : Nat × Own) => match x with | (i, own) => [(13, [], .int .i64 (i : Int)), (12, [], .int .i64 (ss.length : Int)), (11, [], .slice (Own.a o) ss.length (Own.c o)), (5, [], .slice (Own.a own) ((pk kd ss i).length) (Own.c own)), (0, [], .int .u8 kd)]) (fun (x : Nat × Own) => match x with | (i, own) => ([] ++ (Own.o 25 (dcells (pk kd ss i)) own ++ []))) (fun (x : Nat × Own) => match x with | (i, own) => (i ≤ ss.length) ∧ (OwnOk own 32 (pk kd ss i).length (dcells (pk kd ss i)))) (fun (x : Nat × Own) => match x with | (i, own) => ss.length - i) (0, none) ?_ (Conv.mk (by kernel_rfl)) (List.Sublist.refl _) ?_
  · exact ⟨Nat.zero_le _, OwnOk.none _⟩
  · rintro ⟨i, own⟩ ⟨hi, hok⟩
    refine Cfg.reg rfl [0, 5, 11, 12, 13, 14] [] (Γ' := [(14, [], .bool (decide ((i : Int) < (ss.length : Int)))), (13, [], .int .i64 (i : Int)), (12, [], .int .i64 (ss.length : Int)), (11, [], .slice (Own.a o) ss.length (Own.c o)), (5, [], .slice (Own.a own) ((pk kd ss i).length) (Own.c own)), (0, [], .int .u8 kd)]) (nd := (fun _ => [])) (fun _ => by kernel_rfl) trivial ?_
    refine Cfg.cond rfl (b := (decide ((i : Int) < (ss.length : Int)))) (by kernel_rfl) (fun c1r => ?_) (fun c1r => ?_)
    · have c1 : ((i : Int) < (ss.length : Int)) := (of_decide_eq_true c1r)
      obtain ⟨p, rfl⟩ := own_some hol (by omega)
      refine Conv.cfg (Γ' := [(14, [], .bool (decide ((i : Int) < (ss.length : Int)))), (13, [], .int .i64 (i : Int)), (12, [], .int .i64 (ss.length : Int)), (11, [], .slice (some ⟨p.1, 0, none⟩) ss.length p.2.1), (5, [], .slice (Own.a own) ((pk kd ss i).length) (Own.c own)), (0, [], .int .u8 kd)]) (Conv.mk (by kernel_rfl)) ?_
      refine Cfg.reg rfl [0, 5, 7, 11, 12, 13] [(0, false, none), (0, false, some (.string (sat ss i)))] (Γ' := [(7, [], .string (sat ss i)), (13, [], .int .i64 (i : Int)), (12, [], .int .i64 (ss.length : Int)), (11, [], .slice (some ⟨p.1, 0, none⟩) ss.length p.2.1), (5, [], .slice (Own.a own) ((pk kd ss i).length) (Own.c own)), (0, [], .int .u8 kd)]) (nd := (fun S => [(0 ≤ (i : Int) ∧ (i : Int) < (ss.length : Int)), (∀ w1, S w1 → w1.cell? ⟨p.1, i, none⟩ = some (.string (sat ss i)))])) (fun _ => by kernel_rfl) ⟨(by omega), (fun w1 h => str_cell (h.ro _ (List.mem_cons_self ..)) (by omega)), trivial⟩ ?_
      refine Cfg.begL rfl ?_
      refine CfgL.pure 1 [] none (Γ' := [(18, [], .string (sat ss i)), (7, [], .string (sat ss i)), (13, [], .int .i64 (i : Int)), (12, [], .int .i64 (ss.length : Int)), (11, [], .slice (some ⟨p.1, 0, none⟩) ss.length p.2.1), (5, [], .slice (Own.a own) ((pk kd ss i).length) (Own.c own)), (0, [], .int .u8 kd)]) (nd := (fun _ => [])) (by kernel_rfl) (fun _ => by kernel_rfl) trivial ?_
      refine CfgL.eff (o := _) rfl (by kernel_rfl) (by kernel_rfl) (Eff.callA (vs := [.string (sat ss i)]) (.tuple #[.int .u8 (npK (sat ss i)), .agg (bv (npL (sat ss i))), .bool (npB (sat ss i))]) rfl Try.func13 rfl rfl (by kernel_rfl) (fun w1 _ => nameParse (sat ss i) w1 (sat_size hss i))) ?_
      rintro ⟨⟩ -
      refine CfgL.pure 4 [] none (Γ' := [(22, [], .bool (npB (sat ss i))), (21, [], .agg (bv (npL (sat ss i)))), (20, [], .int .u8 (npK (sat ss i))), (17, [], .tuple #[.int .u8 (npK (sat ss i)), .agg (bv (npL (sat ss i))), .bool (npB (sat ss i))]), (19, [], .tuple #[.int .u8 (npK (sat ss i)), .agg (bv (npL (sat ss i))), .bool (npB (sat ss i))]), (18, [], .string (sat ss i)), (7, [], .string (sat ss i)), (13, [], .int .i64 (i : Int)), (12, [], .int .i64 (ss.length : Int)), (11, [], .slice (some ⟨p.1, 0, none⟩) ss.length p.2.1), (5, [], .slice (Own.a own) ((pk kd ss i).length) (Own.c own)), (0, [], .int .u8 kd)]) (nd := (fun _ => [])) (by kernel_rfl) (fun _ => by kernel_rfl) trivial ?_
      refine CfgL.eff (o := _) rfl (by kernel_rfl) (by kernel_rfl) (Eff.alloc (z := (.agg (bv (List.replicate 32 0)))) rfl (by kernel_rfl)) ?_
      rintro b1 ⟨hb1, nb1⟩
      refine CfgL.pure 1 [] none (Γ' := [(8, [], .int .u8 (npK (sat ss i))), (9, [], .pointer (some ⟨b1, 0, none⟩)), (22, [], .bool (npB (sat ss i))), (21, [], .agg (bv (npL (sat ss i)))), (20, [], .int .u8 (npK (sat ss i))), (17, [], .tuple #[.int .u8 (npK (sat ss i)), .agg (bv (npL (sat ss i))), .bool (npB (sat ss i))]), (19, [], .tuple #[.int .u8 (npK (sat ss i)), .agg (bv (npL (sat ss i))), .bool (npB (sat ss i))]), (18, [], .string (sat ss i)), (7, [], .string (sat ss i)), (13, [], .int .i64 (i : Int)), (12, [], .int .i64 (ss.length : Int)), (11, [], .slice (some ⟨p.1, 0, none⟩) ss.length p.2.1), (5, [], .slice (Own.a own) ((pk kd ss i).length) (Own.c own)), (0, [], .int .u8 kd)]) (nd := (fun _ => [])) (by kernel_rfl) (fun _ => by kernel_rfl) trivial ?_
      refine CfgL.eff (o := _) rfl (by kernel_rfl) (by kernel_rfl) (Eff.storeN (b := b1) (off := 0) (vs := (bv (npL (sat ss i)))) (n := 32) rfl (by kernel_rfl) (by kernel_rfl) (by kernel_rfl) ((bv_size _).trans (npL_len _)) (all_bv _) 0 (cs := (bv (List.replicate 32 0))) (e := 25) (by kernel_rfl) (by rw [zsize]; omega)) ?_
      rintro ⟨⟩ -
      refine CfgL.setO (O' := ([(b1, .cells (bv (npL (sat ss i))) 25 (0, 0))] ++ (Own.o 25 (dcells (pk kd ss i)) own ++ []))) (congrArg (fun (x : Array Value) => (([(b1, .cells x 25 (0, 0))] ++ (Own.o 25 (dcells (pk kd ss i)) own ++ [])) : List (Nat × Obj))) (spl_all (((bv_size _).trans (npL_len _)).trans zsize.symm))) ?_
      refine CfgL.pure 1 [] (some [0, 5, 8, 9, 10, 11, 12, 13]) (Γ' := [(10, [], .bool (npB (sat ss i))), (8, [], .int .u8 (npK (sat ss i))), (9, [], .pointer (some ⟨b1, 0, none⟩)), (13, [], .int .i64 (i : Int)), (12, [], .int .i64 (ss.length : Int)), (11, [], .slice (some ⟨p.1, 0, none⟩) ss.length p.2.1), (5, [], .slice (Own.a own) ((pk kd ss i).length) (Own.c own)), (0, [], .int .u8 kd)]) (nd := (fun _ => [])) (by kernel_rfl) (fun _ => by kernel_rfl) trivial ?_
      refine CfgL.done rfl ?_
      refine Cfg.reg rfl [0, 5, 9, 11, 12, 13, 28] [] (Γ' := [(28, [], .bool ((npB (sat ss i)) && ((npK (sat ss i)) == kd))), (9, [], .pointer (some ⟨b1, 0, none⟩)), (13, [], .int .i64 (i : Int)), (12, [], .int .i64 (ss.length : Int)), (11, [], .slice (some ⟨p.1, 0, none⟩) ss.length p.2.1), (5, [], .slice (Own.a own) ((pk kd ss i).length) (Own.c own)), (0, [], .int .u8 kd)]) (nd := (fun _ => [])) (fun _ => by kernel_rfl) trivial ?_
      refine Cfg.cond rfl (b := ((npB (sat ss i)) && ((npK (sat ss i)) == kd))) (by kernel_rfl) (fun c2r => ?_) (fun c2r => ?_)
      · have c2 : (((npB (sat ss i)) = true) ∧ ((npK (sat ss i)) = kd)) := ⟨(andT1 c2r), (beq_iff_eq.1 (andT2 c2r))⟩
        refine Cfg.begL rfl ?_
        refine CfgL.pure 2 [(0, false, none), (0, false, some (.agg (bv (npL (sat ss i)))))] none (Γ' := [(30, [], .agg (bv (npL (sat ss i)))), (29, [], .slice (Own.a own) ((pk kd ss i).length) (Own.c own)), (28, [], .bool ((npB (sat ss i)) && ((npK (sat ss i)) == kd))), (9, [], .pointer (some ⟨b1, 0, none⟩)), (13, [], .int .i64 (i : Int)), (12, [], .int .i64 (ss.length : Int)), (11, [], .slice (some ⟨p.1, 0, none⟩) ss.length p.2.1), (5, [], .slice (Own.a own) ((pk kd ss i).length) (Own.c own)), (0, [], .int .u8 kd)]) (nd := (fun S => [(∀ w1, S w1 → (loadVar 25 ⟨b1, 0, none⟩).run Try.prog w1 = .ok (.agg (bv (npL (sat ss i)))) w1)])) (by kernel_rfl) (fun _ => by kernel_rfl) ⟨(fun w1 h => h.oload 0 rfl Try.underlying25 rfl (n := 32) (by kernel_rfl) ((bv_size _).trans (npL_len _))), trivial⟩ ?_
        refine CfgL.eff (o := _) rfl (by kernel_rfl) (by kernel_rfl) (Eff.buildAgg (vs := (bv (npL (sat ss i)))) (n := 32) rfl (by kernel_rfl) Try.underlying28 (by kernel_rfl) (z := (.agg (bv (List.replicate 32 0)))) (by kernel_rfl) ((bv_size _).trans (npL_len _)) (by decide) (by decide)) ?_
        rintro b2 ⟨hb2, nb2⟩
        refine CfgL.eff (o := _) rfl (by kernel_rfl) (by kernel_rfl) (Eff.appendF rfl 32 32 Try.underlying28 (by kernel_rfl) (z := (.agg (bv (List.replicate 32 0)))) (by kernel_rfl) (by kernel_rfl) own (xs := (dcells (pk kd ss i))) hok (by kernel_rfl) (b2 := b2) (off2 := 0) (m := 1) (c2 := 1) (by kernel_rfl) ((bv (npL (sat ss i))).toList) (by rw [Array.length_toList, bv_size, npL_len]) (all_bv _) [(b2, .cells (bv (npL (sat ss i))) 25 (0, 0)), (b1, .cells (bv (npL (sat ss i))) 25 (0, 0))] [] (by rfl) (fun w1 h j v hj => by rw [Nat.zero_add]; exact h.ocell 0 rfl (by rw [← Array.getElem?_toList]; exact hj)) (by have := pk_len kd ss i; omega) (by have := pk_len kd ss i; omega)) ?_
        rintro o2 ko2
        refine CfgL.pure 1 [] (some [0, 5, 11, 12, 13]) (Γ' := [(5, [], .slice (Own.a o2) (((pk kd ss i).length + 1)) (Own.c o2)), (13, [], .int .i64 (i : Int)), (12, [], .int .i64 (ss.length : Int)), (11, [], .slice (some ⟨p.1, 0, none⟩) ss.length p.2.1), (0, [], .int .u8 kd)]) (nd := (fun _ => [])) (by kernel_rfl) (fun _ => by kernel_rfl) trivial ?_
        refine CfgL.done rfl ?_
        refine Cfg.reg rfl [0, 5, 11, 12, 13] [] (Γ' := [(13, [], .int .i64 ((i : Int) + 1)), (5, [], .slice (Own.a o2) (((pk kd ss i).length + 1)) (Own.c o2)), (12, [], .int .i64 (ss.length : Int)), (11, [], .slice (some ⟨p.1, 0, none⟩) ss.length p.2.1), (0, [], .int .u8 kd)]) (nd := (fun _ => [((-9223372036854775808 : Int) ≤ ((i : Int) + 1) ∧ ((i : Int) + 1) ≤ 9223372036854775807)])) (fun _ => by kernel_rfl) ⟨(by omega), trivial⟩ ?_
        have hpk : pk kd ss (i + 1) = pk kd ss i ++ [npL (sat ss i)] := pk_yes (by omega) c2.1 c2.2
        refine Cfg.setO (O' := ([(b2, .cells (bv (npL (sat ss i))) 25 (0, 0)), (b1, .cells (bv (npL (sat ss i))) 25 (0, 0))] ++ (Own.o 25 (dcells (pk kd ss (i + 1))) o2 ++ []))) (congrArg (fun (x : List Value) => (([(b2, .cells (bv (npL (sat ss i))) 25 (0, 0)), (b1, .cells (bv (npL (sat ss i))) 25 (0, 0))] ++ (Own.o 25 x o2 ++ [])) : List (Nat × Obj))) (by rw [hpk, dcells_snoc])) ?_
        refine Cfg.setG (Γ' := [(13, [], .int .i64 ((i : Int) + 1)), (5, [], .slice (Own.a o2) ((pk kd ss (i + 1)).length) (Own.c o2)), (12, [], .int .i64 (ss.length : Int)), (11, [], .slice (some ⟨p.1, 0, none⟩) ss.length p.2.1), (0, [], .int .u8 kd)]) (congrArg (fun (x : Nat) => ([(13, [], .int .i64 ((i : Int) + 1)), (5, [], .slice (Own.a o2) x (Own.c o2)), (12, [], .int .i64 (ss.length : Int)), (11, [], .slice (some ⟨p.1, 0, none⟩) ss.length p.2.1), (0, [], .int .u8 kd)] : Env)) (by rw [hpk, List.length_append]; rfl)) ?_
        refine Cfg.again rfl (i + 1, o2) ⟨by omega, by rw [hpk, ← dcells_snoc, List.length_append]; exact ko2⟩ (by show ss.length - (i + 1) < ss.length - i; omega) (Conv.mk (by kernel_rfl)) (.cons _ (.cons _ (List.Sublist.refl _)))
      · have c2 : (((npB (sat ss i)) = false) ∨ ((npK (sat ss i)) ≠ kd)) := ((andF c2r).elim (fun h => Or.inl h) (fun h => Or.inr (beq_eq_false_iff_ne.1 h)))
        refine Cfg.reg rfl [0, 5, 11, 12, 13] [] (Γ' := [(13, [], .int .i64 ((i : Int) + 1)), (12, [], .int .i64 (ss.length : Int)), (11, [], .slice (some ⟨p.1, 0, none⟩) ss.length p.2.1), (5, [], .slice (Own.a own) ((pk kd ss i).length) (Own.c own)), (0, [], .int .u8 kd)]) (nd := (fun _ => [((-9223372036854775808 : Int) ≤ ((i : Int) + 1) ∧ ((i : Int) + 1) ≤ 9223372036854775807)])) (fun _ => by kernel_rfl) ⟨(by omega), trivial⟩ ?_
        have hpk : pk kd ss (i + 1) = pk kd ss i := pk_no (by omega) c2
        refine Cfg.setO (O' := ([(b1, .cells (bv (npL (sat ss i))) 25 (0, 0))] ++ (Own.o 25 (dcells (pk kd ss (i + 1))) own ++ []))) (congrArg (fun (x : List Value) => (([(b1, .cells (bv (npL (sat ss i))) 25 (0, 0))] ++ (Own.o 25 x own ++ [])) : List (Nat × Obj))) (by rw [hpk])) ?_
        refine Cfg.setG (Γ' := [(13, [], .int .i64 ((i : Int) + 1)), (12, [], .int .i64 (ss.length : Int)), (11, [], .slice (some ⟨p.1, 0, none⟩) ss.length p.2.1), (5, [], .slice (Own.a own) ((pk kd ss (i + 1)).length) (Own.c own)), (0, [], .int .u8 kd)]) (congrArg (fun (x : Nat) => ([(13, [], .int .i64 ((i : Int) + 1)), (12, [], .int .i64 (ss.length : Int)), (11, [], .slice (some ⟨p.1, 0, none⟩) ss.length p.2.1), (5, [], .slice (Own.a own) x (Own.c own)), (0, [], .int .u8 kd)] : Env)) (by rw [hpk])) ?_
        refine Cfg.again rfl (i + 1, own) ⟨by omega, by rw [hpk]; exact hok⟩ (by show ss.length - (i + 1) < ss.length - i; omega) (Conv.mk (by kernel_rfl)) (.cons _ (List.Sublist.refl _))
    · have c1 : (¬ ((i : Int) < (ss.length : Int))) := (of_decide_eq_false c1r)
      refine Cfg.reg rfl [4] [] (Γ' := [(4, [], .slice (Own.a own) ((pk kd ss i).length) (Own.c own))]) (nd := (fun _ => [])) (fun _ => by kernel_rfl) trivial ?_
      refine Cfg.ret rfl (rs := [.tmp 4]) rfl [.slice (Own.a own) ((pk kd ss i).length) (Own.c own)] ⟨by kernel_rfl, trivial⟩ (fun w1 hp => ?_)
      have hi2 : i = ss.length := by omega
      subst hi2
      simp only [pk_all] at hok hp ⊢
      refine ⟨own, hok, rfl, fun x hx => hp.own x (List.mem_append_right _ (List.mem_append_left _ hx)), fun x hx => ?_, hp.ext⟩
      rcases hp.mine x (List.mem_append_right _ (List.mem_append_left _ hx)) with h1 | h1
      · exact h1
      · cases h1

end Go.Proofs.Ytaggpgnijnjedaa
