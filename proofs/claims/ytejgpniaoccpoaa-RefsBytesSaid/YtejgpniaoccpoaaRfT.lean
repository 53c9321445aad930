/- refs: the document's rows. -/
import Derived.Test.YtejgpniaoccpoaaRfS
namespace Go.Proofs.Ytejgpniaoccpoaa
open K
set_option linter.unusedVariables false

set_option maxRecDepth 100000 in
theorem refRow (la : Option Addr) (cap : Nat) (xs : List Rf) (Rl : List (Nat × Obj)) (w : World) (hI : InR Rl la xs) (hW : W32 xs) (hR : Has w Rl) (hn : xs.length ≤ 16) (hz : ∀ x ∈ xs, x.1.size ≤ 24) :
    Calls Try.prog 23 #[.slice la xs.length cap] w fun e w' => e = .returned (.string (tx (rowR xs))) ∧ Ext [] w w' := by
  have hts := tx_size
  refine enter (vs := [.slice la xs.length cap]) [] Rl [] Try.func23 rfl (by kernel_rfl) (HP.ofHas hR) ?_
  refine Cfg.reg rfl [0] [] (Γ' := [(0, [], .slice la xs.length cap)]) (nd := (fun _ => [])) (fun _ => by kernel_rfl) trivial ?_
  refine Cfg.begL rfl ?_
  refine CfgL.pure 3 [] none (Γ' := [(8, [], .int .u64 ((xs.length : Int) % 18446744073709551616)), (7, [], .int .i64 (xs.length : Int)), (6, [], .slice la xs.length cap), (0, [], .slice la xs.length cap)]) (nd := (fun _ => [])) (by kernel_rfl) (fun _ => by kernel_rfl) trivial ?_
  refine CfgL.eff (o := _) rfl (by kernel_rfl) (by kernel_rfl) (Eff.callA (vs := [.int .u64 ((xs.length : Int) % 18446744073709551616), .int .i64 4]) (.string (beS xs.length 4)) rfl Try.func24 rfl rfl (by kernel_rfl) (fun w1 _ => by rw [show ((xs.length : Int) % 18446744073709551616) = (xs.length : Int) by omega]; exact rNum xs.length 4 w1 (by omega) (by decide))) ?_
  rintro ⟨⟩ -
  refine CfgL.pure 1 [] (some [0, 3]) (Γ' := [(3, [], .string (beS xs.length 4)), (0, [], .slice la xs.length cap)]) (nd := (fun _ => [])) (by kernel_rfl) (fun _ => by kernel_rfl) trivial ?_
  refine CfgL.done rfl ?_
  refine Cfg.reg rfl [3, 10, 11, 12] [] (Γ' := [(12, [], .int .i64 0), (11, [], .int .i64 (xs.length : Int)), (10, [], .slice la xs.length cap), (3, [], .string (beS xs.length 4))]) (nd := (fun _ => [])) (fun _ => by kernel_rfl) trivial ?_
  refine Cfg.setG (Γ' := [(12, [], .int .i64 0), (11, [], .int .i64 (xs.length : Int)), (10, [], .slice la xs.length cap), (3, [], .string (tx (four xs.length ++ flat refL (xs.take 0))))]) (congrArg (fun (xq : ByteArray) => ([(12, [], .int .i64 0), (11, [], .int .i64 (xs.length : Int)), (10, [], .slice la xs.length cap), (3, [], .string xq)] : Env)) (by rw [List.take_zero, flat_nil, List.append_nil]; rfl)) ?_
  refine Cfg.loop rfl (ι := Nat) (fun (i : Nat) => [(12, [], .int .i64 (i : Int)), (11, [], .int .i64 (xs.length : Int)), (10, [], .slice la xs.length cap), (3, [], .string (tx (four xs.length ++ flat refL (xs.take i))))]) (fun (i : Nat) => []) (fun (i : Nat) => (i ≤ xs.length)) (fun (i : Nat) => xs.length - i) 0 ?_ (Conv.mk (by kernel_rfl)) .slnil ?_
  · exact Nat.zero_le _
  · rintro i hi
    have hfl : (flat refL (xs.take i)).length ≤ 60 * i := flat_le xs hW hz i
    refine Cfg.reg rfl [3, 10, 11, 12, 13] [] (Γ' := [(13, [], .bool (decide ((i : Int) < (xs.length : Int)))), (12, [], .int .i64 (i : Int)), (11, [], .int .i64 (xs.length : Int)), (10, [], .slice la xs.length cap), (3, [], .string (tx (four xs.length ++ flat refL (xs.take i))))]) (nd := (fun _ => [])) (fun _ => by kernel_rfl) trivial ?_
    refine Cfg.cond rfl (b := (decide ((i : Int) < (xs.length : Int)))) (by kernel_rfl) (fun c1r => ?_) (fun c1r => ?_)
    · have c1 : ((i : Int) < (xs.length : Int)) := (of_decide_eq_true c1r)
      have hzi := nm24 hz i
      obtain ⟨sb, off, cs, te, fre, rfl, hmem, hcs⟩ := hI (by omega)
      refine Conv.cfg (Γ' := [(13, [], .bool (decide ((i : Int) < (xs.length : Int)))), (12, [], .int .i64 (i : Int)), (11, [], .int .i64 (xs.length : Int)), (10, [], .slice (some ⟨sb, off, none⟩) xs.length cap), (3, [], .string (tx (four xs.length ++ flat refL (xs.take i))))]) (Conv.mk (by kernel_rfl)) ?_
      refine Cfg.begL rfl ?_
      refine CfgL.pure 2 [(0, false, none), (0, false, some (.agg (rc (xs.getD i rz)).toArray))] none (Γ' := [(15, [], .agg (rc (xs.getD i rz)).toArray), (14, [], .pointer (some ⟨sb, (addO off (i * 33)), none⟩)), (13, [], .bool (decide ((i : Int) < (xs.length : Int)))), (12, [], .int .i64 (i : Int)), (11, [], .int .i64 (xs.length : Int)), (10, [], .slice (some ⟨sb, off, none⟩) xs.length cap), (3, [], .string (tx (four xs.length ++ flat refL (xs.take i))))]) (nd := (fun S => [(0 ≤ (i : Int) ∧ (i : Int) < (xs.length : Int)), (∀ w1, S w1 → (loadVar 50 ⟨sb, (addO off (i * 33)), none⟩).run Try.prog w1 = .ok (.agg (rc (xs.getD i rz)).toArray) w1)])) (by kernel_rfl) (fun _ => by kernel_rfl) ⟨(by omega), (fun w1 h => load_list Try.underlying50 rfl (by kernel_rfl) (rc_len (hW.at i)) (fun j v hj => by rw [addO_eq]; exact (cell_cells (h.ro _ hmem)).trans (ref_cell hW hcs (by omega) hj))), trivial⟩ ?_
      refine CfgL.eff (o := _) rfl (by kernel_rfl) (by kernel_rfl) (Eff.alloc (z := (.agg (rc rz).toArray)) rfl (by kernel_rfl)) ?_
      rintro xb ⟨hxb, nxb⟩
      refine CfgL.eff (o := _) rfl (by kernel_rfl) (by kernel_rfl) (Eff.storeN (b := xb) (off := 0) (vs := (rc (xs.getD i rz)).toArray) (n := 33) rfl (by kernel_rfl) (by kernel_rfl) (by kernel_rfl) (by rw [List.size_toArray, rc_len (hW.at i)]) (rc_all _) 0 (cs := (rc rz).toArray) (e := 50) (by kernel_rfl) (by show 0 + 33 ≤ 33; decide)) ?_
      rintro ⟨⟩ -
      refine CfgL.setO (O' := [(xb, .cells ((rc (xs.getD i rz)).toArray) 50 (0, 0))]) (congrArg (fun (xq : Array Value) => ([(xb, .cells xq 50 (0, 0))] : List (Nat × Obj))) (spl_all (by rw [List.size_toArray, rc_len (hW.at i)]; rfl))) ?_
      refine CfgL.done rfl ?_
      refine Conv.cfg (Γ' := [(5, [], .pointer (some ⟨xb, 0, none⟩)), (12, [], .int .i64 (i : Int)), (11, [], .int .i64 (xs.length : Int)), (10, [], .slice (some ⟨sb, off, none⟩) xs.length cap), (3, [], .string (tx (four xs.length ++ flat refL (xs.take i))))]) (Conv.mk (by kernel_rfl)) ?_
      refine Cfg.begA rfl (by kernel_rfl) [(xb, .cells ((rc (xs.getD i rz)).toArray) 50 (0, 0))] ?_
      refine CfgA.pure [0, 1, 2, 5, 6] [(0, false, none), (0, false, none), (0, false, some (.string (xs.getD i rz).1)), (0, false, none), (0, false, some (.agg (bv (xs.getD i rz).2)))] none (l' := #[true, true, true, false, false, true, true, false, false, false]) (by kernel_rfl) (by kernel_rfl) (.cons_cons _ .slnil) 5 rfl (Γ' := [(22, [], .agg (bv (xs.getD i rz).2)), (21, [], .pointer (some ⟨xb, 1, none⟩)), (18, [], .string (xs.getD i rz).1), (17, [], .pointer (some ⟨xb, 0, none⟩)), (16, [], .string (tx (four xs.length ++ flat refL (xs.take i)))), (5, [], .pointer (some ⟨xb, 0, none⟩)), (12, [], .int .i64 (i : Int)), (11, [], .int .i64 (xs.length : Int)), (10, [], .slice (some ⟨sb, off, none⟩) xs.length cap), (3, [], .string (tx (four xs.length ++ flat refL (xs.take i))))]) (nd := (fun S => [(∀ w1, S w1 → w1.cell? ⟨xb, 0, none⟩ = some (.string (xs.getD i rz).1)), (∀ w1, S w1 → (loadVar 45 ⟨xb, 1, none⟩).run Try.prog w1 = .ok (.agg (bv (xs.getD i rz).2)) w1)])) (fun _ => by kernel_rfl) ⟨(fun w1 h => h.ocell 0 rfl rfl), (fun w1 h => load_bytes Try.underlying45 rfl (by kernel_rfl) (hW.at i) (fun j hj => by rw [cell_cells (h.own (xb, _) (List.mem_of_getElem? (i := 0) rfl)), List.getElem?_toArray]; exact rc_byte (hW.at i) hj)), trivial⟩ ?_
      refine CfgA.eff 3 (o := _) rfl (by kernel_rfl) (fuel' := 4) rfl (by kernel_rfl) (by kernel_rfl) (Eff.callA (vs := [.string (xs.getD i rz).1]) (.string (tx (text4 (xs.getD i rz).1))) rfl Try.func22 rfl rfl (by kernel_rfl) (fun w1 _ => rText (xs.getD i rz).1 w1 (by omega))) (fun _ _ => (.cons_cons _ .slnil)) ?_
      rintro ⟨⟩ -
      refine CfgA.pure [4] [] none (l' := #[true, true, true, true, true, true, true, false, false, false]) (by kernel_rfl) (by kernel_rfl) (.cons_cons _ .slnil) 3 rfl (Γ' := [(20, [], .string ((tx (four xs.length ++ flat refL (xs.take i))) ++ (tx (text4 (xs.getD i rz).1)))), (19, [], .string (tx (text4 (xs.getD i rz).1))), (22, [], .agg (bv (xs.getD i rz).2)), (21, [], .pointer (some ⟨xb, 1, none⟩)), (18, [], .string (xs.getD i rz).1), (17, [], .pointer (some ⟨xb, 0, none⟩)), (16, [], .string (tx (four xs.length ++ flat refL (xs.take i)))), (5, [], .pointer (some ⟨xb, 0, none⟩)), (12, [], .int .i64 (i : Int)), (11, [], .int .i64 (xs.length : Int)), (10, [], .slice (some ⟨sb, off, none⟩) xs.length cap), (3, [], .string (tx (four xs.length ++ flat refL (xs.take i))))]) (nd := (fun _ => [((tx (four xs.length ++ flat refL (xs.take i))).size + (tx (text4 (xs.getD i rz).1)).size ≤ 9223372036854775807)])) (fun _ => by kernel_rfl) ⟨(by simp only [tx_size, List.length_append, be_len, text4_len, four]; omega), trivial⟩ ?_
      refine CfgA.eff 7 (o := _) rfl (by kernel_rfl) (fuel' := 2) rfl (by kernel_rfl) (by kernel_rfl) (Eff.callA (vs := [.agg (bv (xs.getD i rz).2)]) (.string (tx (xs.getD i rz).2)) rfl Try.func52 rfl rfl (by kernel_rfl) (fun w1 _ => rDigest (xs.getD i rz).2 w1 (hW.at i))) (fun _ _ => (.cons_cons _ .slnil)) ?_
      rintro ⟨⟩ -
      refine CfgA.pure [8, 9] [] (some [3, 10, 11, 12]) (l' := #[true, true, true, true, true, true, true, true, true, true]) (by kernel_rfl) (by kernel_rfl) (.cons_cons _ .slnil) 0 rfl (Γ' := [(3, [], .string (((tx (four xs.length ++ flat refL (xs.take i))) ++ (tx (text4 (xs.getD i rz).1))) ++ (tx (xs.getD i rz).2))), (12, [], .int .i64 (i : Int)), (11, [], .int .i64 (xs.length : Int)), (10, [], .slice (some ⟨sb, off, none⟩) xs.length cap)]) (nd := (fun _ => [(((tx (four xs.length ++ flat refL (xs.take i))) ++ (tx (text4 (xs.getD i rz).1))).size + (tx (xs.getD i rz).2).size ≤ 9223372036854775807)])) (fun _ => by kernel_rfl) ⟨(by have hwi := hW.at i; simp only [ByteArray.size_append, tx_size, List.length_append, be_len, text4_len, four, hwi]; omega), trivial⟩ ?_
      refine CfgA.done (by kernel_rfl) ?_
      refine Cfg.reg rfl [3, 10, 11, 12] [] (Γ' := [(12, [], .int .i64 ((i : Int) + 1)), (3, [], .string (((tx (four xs.length ++ flat refL (xs.take i))) ++ (tx (text4 (xs.getD i rz).1))) ++ (tx (xs.getD i rz).2))), (11, [], .int .i64 (xs.length : Int)), (10, [], .slice (some ⟨sb, off, none⟩) xs.length cap)]) (nd := (fun _ => [((-9223372036854775808 : Int) ≤ ((i : Int) + 1) ∧ ((i : Int) + 1) ≤ 9223372036854775807)])) (fun _ => by kernel_rfl) ⟨(by omega), trivial⟩ ?_
      refine Cfg.setG (Γ' := [(12, [], .int .i64 ((i : Int) + 1)), (3, [], .string (tx (four xs.length ++ flat refL (xs.take (i + 1))))), (11, [], .int .i64 (xs.length : Int)), (10, [], .slice (some ⟨sb, off, none⟩) xs.length cap)]) (congrArg (fun (xq : ByteArray) => ([(12, [], .int .i64 ((i : Int) + 1)), (3, [], .string xq), (11, [], .int .i64 (xs.length : Int)), (10, [], .slice (some ⟨sb, off, none⟩) xs.length cap)] : Env)) (by rw [tx_app, tx_app, flat_succ rz (by omega), List.append_assoc, List.append_assoc]; rfl)) ?_
      refine Cfg.again rfl (i + 1) (show i + 1 ≤ xs.length by omega) (by omega) (Conv.mk (by kernel_rfl)) (.cons _ .slnil)
    · have c1 : (¬ ((i : Int) < (xs.length : Int))) := (of_decide_eq_false c1r)
      refine Cfg.reg rfl [2] [] (Γ' := [(2, [], .string (tx (four xs.length ++ flat refL (xs.take i))))]) (nd := (fun _ => [])) (fun _ => by kernel_rfl) trivial ?_
      refine Cfg.ret rfl (rs := [.tmp 2]) rfl [.string (tx (four xs.length ++ flat refL (xs.take i)))] ⟨by kernel_rfl, trivial⟩ (fun w1 hp => ?_)
      obtain rfl : i = xs.length := by omega
      exact ⟨by rw [List.take_length]; rfl, hp.ext⟩

set_option maxRecDepth 100000 in
theorem refTake (b : Nat) (z : IN) (w : World) (hB : w.heap[b]? = some (.cells (inR z) 70 (0, 0))) :
    Calls Try.prog 32 #[.pointer (some ⟨b, 0, none⟩)] w fun e w' => ∃ o : K.Own, OwnOk o 33 (takeT z).1.length (rv (takeT z).1) ∧ e = .returned (.slice o.a (takeT z).1.length o.c) ∧ Ext [b] w w' ∧ w'.heap[b]? = some (.cells (inR (takeT z).2) 70 (0, 0)) ∧ Has w' (o.o 50 (rv (takeT z).1)) ∧ (∀ x ∈ o.o 50 (rv (takeT z).1), w.heap.size ≤ x.1) := by
  have hbm := bound16 z
  refine enter (vs := [.pointer (some ⟨b, 0, none⟩)]) [b] [] [(b, .cells (inR z) 70 (0, 0))] Try.func32 rfl (by kernel_rfl) (HP.startM (R := []) (fun _ h => by cases h) hB (by simp)) ?_
  refine Cfg.reg rfl [0] [] (Γ' := [(0, [], .pointer (some ⟨b, 0, none⟩))]) (nd := (fun _ => [])) (fun _ => by kernel_rfl) trivial ?_
  refine Cfg.begL rfl ?_
  refine CfgL.pure 1 [] none (Γ' := [(7, [], .pointer (some ⟨b, 0, none⟩)), (0, [], .pointer (some ⟨b, 0, none⟩))]) (nd := (fun _ => [])) (by kernel_rfl) (fun _ => by kernel_rfl) trivial ?_
  refine CfgL.eff (o := _) rfl (by kernel_rfl) (by kernel_rfl) (Eff.callM (vs := [.pointer (some ⟨b, 0, none⟩), .int .i64 16]) (.int .i64 ((boundF z (16 : Int) 6).1 : Int)) 0 (b := b) (ob := .cells (inR z) 70 (0, 0)) (.cells (inR ((boundF z (16 : Int) 6).2)) 70 (0, 0)) rfl Try.func62 rfl rfl (by kernel_rfl) (by kernel_rfl) (fun w1 h => rCountI b z (16 : Int) w1 (h.own (b, _) (List.mem_of_getElem? (i := 0) rfl)) (by omega))) ?_
  rintro ⟨⟩ -
  refine CfgL.pure 1 [] (some [0, 3]) (Γ' := [(3, [], .int .i64 ((boundF z (16 : Int) 6).1 : Int)), (0, [], .pointer (some ⟨b, 0, none⟩))]) (nd := (fun _ => [])) (by kernel_rfl) (fun _ => by kernel_rfl) trivial ?_
  refine CfgL.done rfl ?_
  refine Cfg.reg rfl [0, 3, 4] [] (Γ' := [(4, [], .slice none 0 0), (3, [], .int .i64 ((boundF z (16 : Int) 6).1 : Int)), (0, [], .pointer (some ⟨b, 0, none⟩))]) (nd := (fun _ => [])) (fun _ => by kernel_rfl) trivial ?_
  refine Cfg.reg rfl [0, 3, 4, 5] [] (Γ' := [(5, [], .int .i64 0), (4, [], .slice none 0 0), (3, [], .int .i64 ((boundF z (16 : Int) 6).1 : Int)), (0, [], .pointer (some ⟨b, 0, none⟩))]) (nd := (fun _ => [])) (fun _ => by kernel_rfl) trivial ?_
  refine Cfg.loop rfl (ι := Nat × IN × List Rf × K.Own) (fun (xz : Nat × IN × List Rf × K.Own) => match xz with | (i, y, acc, own) => [(5, [], .int .i64 (i : Int)), (4, [], .slice (Own.a own) acc.length (Own.c own)), (3, [], .int .i64 ((boundF z (16 : Int) 6).1 : Int)), (0, [], .pointer (some ⟨b, 0, none⟩))]) (fun (xz : Nat × IN × List Rf × K.Own) => match xz with | (i, y, acc, own) => ([(b, .cells (inR y) 70 (0, 0))] ++ (Own.o 50 (rv acc) own ++ []))) (fun (xz : Nat × IN × List Rf × K.Own) => match xz with | (i, y, acc, own) => (i ≤ (boundF z 16 6).1) ∧ (acc.length = i) ∧ (takeL takeR ((boundF z 16 6).1 - i) y acc = takeT z) ∧ (OwnOk own 33 acc.length (rv acc))) (fun (xz : Nat × IN × List Rf × K.Own) => match xz with | (i, y, acc, own) => (boundF z 16 6).1 - i) (0, (boundF z 16 6).2, [], none) ?_ (Conv.mk (by kernel_rfl)) (List.Sublist.refl _) ?_
  · exact ⟨Nat.zero_le _, rfl, by rw [Nat.sub_zero]; rfl, OwnOk.none _⟩
  · rintro ⟨i, y, acc, own⟩ ⟨hi, hal, htot, hok⟩
    refine Cfg.reg rfl [0, 3, 4, 5, 18] [(0, false, none), (0, false, none), (0, false, none), (0, false, none), (0, false, none), (0, false, none), (0, false, none), (0, false, some (.int .i64 y.er))] (Γ' := [(18, [], .bool ((decide ((i : Int) < ((boundF z (16 : Int) 6).1 : Int))) && (y.er == (0 : Int)))), (5, [], .int .i64 (i : Int)), (4, [], .slice (Own.a own) acc.length (Own.c own)), (3, [], .int .i64 ((boundF z (16 : Int) 6).1 : Int)), (0, [], .pointer (some ⟨b, 0, none⟩))]) (nd := (fun S => [((.bool (decide ((i : Int) < ((boundF z (16 : Int) 6).1 : Int))) : Value) = .bool true → (∀ w1, S w1 → w1.cell? ⟨b, 1, none⟩ = some (.int .i64 y.er)))])) (fun _ => by kernel_rfl) ⟨(fun g0 => have q0 : ((i : Int) < ((boundF z (16 : Int) 6).1 : Int)) := (of_decide_eq_true (boolV g0)); (fun w1 h => h.ocell 0 rfl rfl)), trivial⟩ ?_
    refine Cfg.cond rfl (b := ((decide ((i : Int) < ((boundF z (16 : Int) 6).1 : Int))) && (y.er == (0 : Int)))) (by kernel_rfl) (fun c1r => ?_) (fun c1r => ?_)
    · have c1 : (((i : Int) < ((boundF z (16 : Int) 6).1 : Int)) ∧ (y.er = (0 : Int))) := ⟨(of_decide_eq_true (andT1 c1r)), (beq_iff_eq.1 (andT2 c1r))⟩
      refine Cfg.begL rfl ?_
      refine CfgL.pure 1 [] none (Γ' := [(21, [], .pointer (some ⟨b, 0, none⟩)), (18, [], .bool ((decide ((i : Int) < ((boundF z (16 : Int) 6).1 : Int))) && (y.er == (0 : Int)))), (5, [], .int .i64 (i : Int)), (4, [], .slice (Own.a own) acc.length (Own.c own)), (3, [], .int .i64 ((boundF z (16 : Int) 6).1 : Int)), (0, [], .pointer (some ⟨b, 0, none⟩))]) (nd := (fun _ => [])) (by kernel_rfl) (fun _ => by kernel_rfl) trivial ?_
      refine CfgL.eff (o := _) rfl (by kernel_rfl) (by kernel_rfl) (Eff.callM (vs := [.pointer (some ⟨b, 0, none⟩), .int .i64 24]) (.string (tx (textF y (24 : Int)).1)) 0 (b := b) (ob := .cells (inR y) 70 (0, 0)) (.cells (inR ((textF y (24 : Int)).2)) 70 (0, 0)) rfl Try.func31 rfl rfl (by kernel_rfl) (by kernel_rfl) (fun w1 h => rTextI b y (24 : Int) w1 (h.own (b, _) (List.mem_of_getElem? (i := 0) rfl)) (by omega))) ?_
      rintro ⟨⟩ -
      refine CfgL.pure 1 [] (some [0, 3, 4, 5, 6]) (Γ' := [(6, [], .string (tx (textF y (24 : Int)).1)), (5, [], .int .i64 (i : Int)), (4, [], .slice (Own.a own) acc.length (Own.c own)), (3, [], .int .i64 ((boundF z (16 : Int) 6).1 : Int)), (0, [], .pointer (some ⟨b, 0, none⟩))]) (nd := (fun _ => [])) (by kernel_rfl) (fun _ => by kernel_rfl) trivial ?_
      refine CfgL.done rfl ?_
      refine Cfg.begL rfl ?_
      refine CfgL.pure 3 [] none (Γ' := [(25, [], .pointer (some ⟨b, 0, none⟩)), (24, [], .string (tx (textF y (24 : Int)).1)), (23, [], .slice (Own.a own) acc.length (Own.c own)), (6, [], .string (tx (textF y (24 : Int)).1)), (5, [], .int .i64 (i : Int)), (4, [], .slice (Own.a own) acc.length (Own.c own)), (3, [], .int .i64 ((boundF z (16 : Int) 6).1 : Int)), (0, [], .pointer (some ⟨b, 0, none⟩))]) (nd := (fun _ => [])) (by kernel_rfl) (fun _ => by kernel_rfl) trivial ?_
      refine CfgL.eff (o := _) rfl (by kernel_rfl) (by kernel_rfl) (Eff.callM (vs := [.pointer (some ⟨b, 0, none⟩)]) (.agg (bv (digF ((textF y (24 : Int)).2)).1)) 0 (b := b) (ob := .cells (inR ((textF y (24 : Int)).2)) 70 (0, 0)) (.cells (inR ((digF ((textF y (24 : Int)).2)).2)) 70 (0, 0)) rfl Try.func63 rfl rfl (by kernel_rfl) (by kernel_rfl) (fun w1 h => rDigI b ((textF y (24 : Int)).2) w1 (h.own (b, _) (List.mem_of_getElem? (i := 0) rfl)))) ?_
      rintro ⟨⟩ -
      refine CfgL.pure 1 [(0, false, some (.agg (rc (takeR y).1).toArray))] none (Γ' := [(27, [], .agg (rc (takeR y).1).toArray), (26, [], .agg (bv (digF ((textF y (24 : Int)).2)).1)), (25, [], .pointer (some ⟨b, 0, none⟩)), (24, [], .string (tx (textF y (24 : Int)).1)), (23, [], .slice (Own.a own) acc.length (Own.c own)), (6, [], .string (tx (textF y (24 : Int)).1)), (5, [], .int .i64 (i : Int)), (4, [], .slice (Own.a own) acc.length (Own.c own)), (3, [], .int .i64 ((boundF z (16 : Int) 6).1 : Int)), (0, [], .pointer (some ⟨b, 0, none⟩))]) (nd := (fun S => [(∀ w1, S w1 → (Instr.build 50 #[(0, .string (tx (textF y (24 : Int)).1)), (1, .agg (bv (digF ((textF y (24 : Int)).2)).1))]).run Try.prog w1 = .ok (.agg (rc (takeR y).1).toArray) w1)])) (by kernel_rfl) (fun _ => by kernel_rfl) ⟨(fun w1 _ => build_ref (tx (textF y 24).1) (t := (digF (textF y 24).2).1) (dig32_len _) w1), trivial⟩ ?_
      refine CfgL.eff (o := _) rfl (by kernel_rfl) (by kernel_rfl) (Eff.buildAgg (vs := (rc (takeR y).1).toArray) (n := 33) rfl (by kernel_rfl) Try.underlying22 (by kernel_rfl) (z := (.agg (rc rz).toArray)) (by kernel_rfl) (by rw [List.size_toArray]; exact rc_len (dig32_len _)) (by decide) (by decide)) ?_
      rintro bk ⟨hbk, nbk⟩
      refine CfgL.eff (o := _) rfl (by kernel_rfl) (by kernel_rfl) (Eff.appendF rfl 33 48 Try.underlying22 (by kernel_rfl) (z := (.agg (rc rz).toArray)) (by kernel_rfl) (by kernel_rfl) own (xs := (rv acc)) hok (by kernel_rfl) (b2 := bk) (off2 := 0) (m := 1) (c2 := 1) (by kernel_rfl) (rc (takeR y).1) (rc_len (dig32_len _)) (rc_all _) [(bk, .cells ((rc (takeR y).1).toArray) 50 (0, 0)), (b, .cells (inR ((digF ((textF y (24 : Int)).2)).2)) 70 (0, 0))] [] (by rfl) (fun w1 h j v hj => rc_src h 0 rfl hj) (by omega) (by omega)) ?_
      rintro o4 ko4
      refine CfgL.pure 1 [] (some [0, 3, 4, 5]) (Γ' := [(4, [], .slice (Own.a o4) ((acc.length + 1)) (Own.c o4)), (5, [], .int .i64 (i : Int)), (3, [], .int .i64 ((boundF z (16 : Int) 6).1 : Int)), (0, [], .pointer (some ⟨b, 0, none⟩))]) (nd := (fun _ => [])) (by kernel_rfl) (fun _ => by kernel_rfl) trivial ?_
      refine CfgL.done rfl ?_
      refine Cfg.reg rfl [0, 3, 4, 5] [] (Γ' := [(5, [], .int .i64 ((i : Int) + 1)), (4, [], .slice (Own.a o4) ((acc.length + 1)) (Own.c o4)), (3, [], .int .i64 ((boundF z (16 : Int) 6).1 : Int)), (0, [], .pointer (some ⟨b, 0, none⟩))]) (nd := (fun _ => [((-9223372036854775808 : Int) ≤ ((i : Int) + 1) ∧ ((i : Int) + 1) ≤ 9223372036854775807)])) (fun _ => by kernel_rfl) ⟨(by omega), trivial⟩ ?_
      have hrv : rv (acc ++ [(takeR y).1]) = rv acc ++ rc (takeR y).1 := by rw [rv_app, rv_one]
      have htot2 : takeL takeR ((boundF z 16 6).1 - (i + 1)) (takeR y).2 (acc ++ [(takeR y).1]) = takeT z := by rw [← takeL_go c1.2, show (boundF z 16 6).1 - (i + 1) + 1 = (boundF z 16 6).1 - i by omega]; exact htot
      refine Cfg.setO (O' := ([(bk, .cells ((rc (takeR y).1).toArray) 50 (0, 0)), (b, .cells (inR ((digF ((textF y (24 : Int)).2)).2)) 70 (0, 0))] ++ (Own.o 50 (rv (acc ++ [(takeR y).1])) o4 ++ []))) (congrArg (fun (xq : List Value) => (([(bk, .cells ((rc (takeR y).1).toArray) 50 (0, 0)), (b, .cells (inR ((digF ((textF y (24 : Int)).2)).2)) 70 (0, 0))] ++ (Own.o 50 xq o4 ++ [])) : List (Nat × Obj))) (by rw [hrv])) ?_
      refine Cfg.setG (Γ' := [(5, [], .int .i64 ((i : Int) + 1)), (4, [], .slice (Own.a o4) ((acc ++ [(takeR y).1]).length) (Own.c o4)), (3, [], .int .i64 ((boundF z (16 : Int) 6).1 : Int)), (0, [], .pointer (some ⟨b, 0, none⟩))]) (congrArg (fun (xq : Nat) => ([(5, [], .int .i64 ((i : Int) + 1)), (4, [], .slice (Own.a o4) xq (Own.c o4)), (3, [], .int .i64 ((boundF z (16 : Int) 6).1 : Int)), (0, [], .pointer (some ⟨b, 0, none⟩))] : Env)) (by rw [List.length_append]; rfl)) ?_
      refine Cfg.again rfl (i + 1, (takeR y).2, acc ++ [(takeR y).1], o4) ⟨by omega, by rw [List.length_append, hal]; rfl, htot2, by rw [hrv, List.length_append]; exact ko4⟩ (by show (boundF z 16 6).1 - (i + 1) < (boundF z 16 6).1 - i; omega) (Conv.mk (by kernel_rfl)) (.cons _ (.cons_cons _ (List.Sublist.refl _)))
    · have c1 : ((¬ ((i : Int) < ((boundF z (16 : Int) 6).1 : Int))) ∨ (y.er ≠ (0 : Int))) := ((andF c1r).elim (fun h => Or.inl (of_decide_eq_false h)) (fun h => Or.inr (beq_eq_false_iff_ne.1 h)))
      refine Cfg.reg rfl [2] [] (Γ' := [(2, [], .slice (Own.a own) acc.length (Own.c own))]) (nd := (fun _ => [])) (fun _ => by kernel_rfl) trivial ?_
      refine Cfg.ret rfl (rs := [.tmp 2]) rfl [.slice (Own.a own) acc.length (Own.c own)] ⟨by kernel_rfl, trivial⟩ (fun w1 hp => ?_)
      have hx : takeT z = (acc, y) := by
        rw [← htot]
        by_cases hie : i = (boundF z 16 6).1
        · rw [hie, Nat.sub_self]; rfl
        · exact takeL_bad (by rcases c1 with c1 | c1; omega; exact c1)
      rw [hx]
      refine ⟨own, hok, rfl, hp.ext, hp.own (b, _) (List.mem_append_left _ (List.mem_of_getElem? (i := 0) rfl)), fun x hx => hp.own x (List.mem_append_right _ (List.mem_append_left _ hx)), fun x hx => ?_⟩
      rcases hp.mine x (List.mem_append_right _ (List.mem_append_left _ hx)) with h1 | h1
      · exact h1
      · exfalso
        obtain rfl := List.mem_singleton.1 h1
        have hd := hp.dist
        rw [List.map_append] at hd
        exact (List.nodup_append.1 hd).2.2 _ (List.mem_map.2 ⟨_, List.mem_of_getElem? (i := 0) rfl, rfl⟩) _ (List.mem_map.2 ⟨x, List.mem_append_left _ hx, rfl⟩) rfl

end Go.Proofs.Ytejgpniaoccpoaa
