/- refs: is a state gone through? -/
import Derived.Test.YtejgpniaoccpoaaRfW
import Derived.Test.YtejgpniaoccpoaaRfA
namespace Go.Proofs.Ytejgpniaoccpoaa
open K
set_option linter.unusedVariables false

/-- What is so of every state that bytes are. -/
structure PSok (s : RSt) : Prop where
  w : W32 s.l
  v : W32 s.m
  a : s.l.length ≤ 16
  b : s.m.length ≤ 16
  nl : ∀ x ∈ s.l, x.1.size ≤ maxLen
  nm : ∀ x ∈ s.m, x.1.size ≤ maxLen
  nh : s.hd.size ≤ maxLen
  nx : 0 ≤ s.nx ∧ s.nx < 18446744073709551616
theorem eight_lt (z : IN) : (eightF z).1 < 18446744073709551616 := valF_lt _
theorem p1_n (t : List UInt8) : (tx (p1 t).1).size ≤ maxLen := by rw [tx_size]; unfold p1; exact Nat.le_trans (take_size (l := t) _ _ (by decide)) (by decide)
theorem p2_w (t : List UInt8) : W32 (p2 t).1 := by unfold p2; exact rowsT_w _
theorem p3_w (t : List UInt8) : W32 (p3 t).1 := by unfold p3; exact rowsT_w _
theorem p2_l (t : List UInt8) : (p2 t).1.length ≤ 16 := by unfold p2; exact rowsT_len _
theorem p3_l (t : List UInt8) : (p3 t).1.length ≤ 16 := by unfold p3; exact rowsT_len _
theorem p2_n (t : List UInt8) : ∀ x ∈ (p2 t).1, x.1.size ≤ maxLen := by unfold p2; exact nmP _
theorem p3_n (t : List UInt8) : ∀ x ∈ (p3 t).1, x.1.size ≤ maxLen := by unfold p3; exact nmP _
theorem p4_l (t : List UInt8) : 0 ≤ ((p4 t).1 : Int) ∧ ((p4 t).1 : Int) < 18446744073709551616 := by
  have h4 : (p4 t).1 < 18446744073709551616 := by unfold p4; exact eight_lt _
  omega
theorem PSok.of {a : ByteArray} {L M : List Rf} {n : Int} (h1 : a.size ≤ maxLen) (h2 : W32 L) (h3 : W32 M) (h4 : L.length ≤ 16) (h5 : M.length ≤ 16) (h6 : ∀ x ∈ L, x.1.size ≤ maxLen) (h7 : ∀ x ∈ M, x.1.size ≤ maxLen) (h8 : 0 ≤ n ∧ n < 18446744073709551616) : PSok ⟨a, L, M, n⟩ := ⟨h2, h3, h4, h5, h6, h7, h1, h8⟩
theorem pS_ok (t : List UInt8) : PSok (pS t) := by
  rw [pS_eq]
  exact PSok.of (p1_n t) (p2_w t) (p3_w t) (p2_l t) (p3_l t) (p2_n t) (p3_n t) (p4_l t)
theorem pS_lens (t : List UInt8) : PSok (parseS t) := by
  unfold parseS; split
  · exact pS_ok t
  · exact ⟨W32.nil, W32.nil, Nat.zero_le _, Nat.zero_le _, (fun x hx => by cases hx), (fun x hx => by cases hx), Nat.zero_le _, by show (0 : Int) ≤ 0 ∧ (0 : Int) < 18446744073709551616; decide⟩
theorem bytesF_le {s : RSt} (hc : checkF s = 0) (hW : W32 s.l) (hV : W32 s.m) : (bytesF s).length ≤ 9223372036854775807 := by
  obtain ⟨c1, c2, c3⟩ := checkF_ok hc
  have h1 := rowR_le hW (chkF_ok c2)
  have h2 := rowR_le hV (chkF_ok c3)
  have h3 := refB_len c1
  have h8 : (eight s.nx.toNat).length = 8 := be_len _ _
  unfold bytesF
  simp only [List.length_append, text4_len, h8]
  omega

set_option maxRecDepth 100000 in
theorem light24 (hd : ByteArray) (la ta : Option Addr) (cap ca : Nat) (l m : List Rf) (nx : Int) (Rl : List (Nat × Obj)) (w : World) (hI : InR Rl la l) (hJ : InR Rl ta m) (hW : W32 l) (hV : W32 m) (hR : Has w Rl) (hn : l.length ≤ maxLen) (hm : m.length ≤ maxLen) :
    Calls Try.prog 5 #[.agg #[.string hd, .slice la l.length cap, .slice ta m.length ca, .int .u64 nx]] w fun e w' => (∃ b : Bool, True ∧ e = .returned (.bool b)) ∧ Ext [] w w' := by
  have hml : maxLen = 9223372036854775807 := rfl
  rw [hml] at hn hm
  refine enter (vs := [.agg #[.string hd, .slice la l.length cap, .slice ta m.length ca, .int .u64 nx]]) [] Rl [] Try.func5 rfl (by kernel_rfl) (HP.ofHas hR) ?_
  refine Cfg.begL rfl ?_
  refine CfgL.eff (o := _) rfl (by kernel_rfl) (by kernel_rfl) (Eff.box (v := .agg #[.string hd, .slice la l.length cap, .slice ta m.length ca, .int .u64 nx]) rfl (by kernel_rfl)) ?_
  rintro sx ⟨hsx, nsx⟩
  refine CfgL.pure 1 [] (some [1]) (Γ' := [(1, [], .pointer (some ⟨sx, 0, none⟩))]) (nd := (fun _ => [])) (by kernel_rfl) (fun _ => by kernel_rfl) trivial ?_
  refine CfgL.done rfl ?_
  refine Cfg.begL rfl ?_
  refine CfgL.pure 4 [(0, false, none), (0, false, some (.slice la l.length cap)), (0, false, none), (0, false, some (.slice ta m.length ca))] none (Γ' := [(10, [], .slice ta m.length ca), (9, [], .pointer (some ⟨sx, 2, none⟩)), (8, [], .slice la l.length cap), (7, [], .pointer (some ⟨sx, 1, none⟩)), (1, [], .pointer (some ⟨sx, 0, none⟩))]) (nd := (fun S => [(∀ w1, S w1 → w1.cell? ⟨sx, 1, none⟩ = some (.slice la l.length cap)), (∀ w1, S w1 → w1.cell? ⟨sx, 2, none⟩ = some (.slice ta m.length ca))])) (by kernel_rfl) (fun _ => by kernel_rfl) ⟨(fun w1 h => h.ocell 0 rfl rfl), (fun w1 h => h.ocell 0 rfl rfl), trivial⟩ ?_
  refine CfgL.eff (o := _) rfl (by kernel_rfl) (by kernel_rfl) (Eff.buildSlice (e := 22) (cells := #[.slice la l.length cap, .slice ta m.length ca]) (parts := #[(0, .slice la l.length cap), (1, .slice ta m.length ca)]) rfl (by kernel_rfl) (fun _ => by kernel_rfl)) ?_
  rintro sl2 ⟨hsl2, nsl2⟩
  refine CfgL.pure 2 [] (some [1, 11, 12, 13]) (Γ' := [(13, [], .int .i64 0), (12, [], .int .i64 (2 : Int)), (11, [], .slice (some ⟨sl2, 0, none⟩) 2 2), (1, [], .pointer (some ⟨sx, 0, none⟩))]) (nd := (fun _ => [])) (by kernel_rfl) (fun _ => by kernel_rfl) trivial ?_
  refine CfgL.done rfl ?_
  refine Cfg.loop rfl (ι := Nat) (fun (k : Nat) => [(13, [], .int .i64 (k : Int)), (12, [], .int .i64 (2 : Int)), (11, [], .slice (some ⟨sl2, 0, none⟩) 2 2), (1, [], .pointer (some ⟨sx, 0, none⟩))]) (fun (k : Nat) => [(sl2, .cells #[.slice la l.length cap, .slice ta m.length ca] 22 (0, 0)), (sx, .cells #[.string hd, .slice la l.length cap, .slice ta m.length ca, .int .u64 nx] 25 (0, 0))]) (fun (k : Nat) => (k ≤ 2)) (fun (k : Nat) => 2 - k) 0 ?_ (Conv.mk (by kernel_rfl)) (.cons_cons _ (.cons_cons _ .slnil)) ?_
  · exact Nat.zero_le _
  · rintro k hk
    refine Cfg.reg rfl [1, 11, 12, 13, 14] [] (Γ' := [(14, [], .bool (decide ((k : Int) < (2 : Int)))), (13, [], .int .i64 (k : Int)), (12, [], .int .i64 (2 : Int)), (11, [], .slice (some ⟨sl2, 0, none⟩) 2 2), (1, [], .pointer (some ⟨sx, 0, none⟩))]) (nd := (fun _ => [])) (fun _ => by kernel_rfl) trivial ?_
    refine Cfg.cond rfl (b := (decide ((k : Int) < (2 : Int)))) (by kernel_rfl) (fun c1r => ?_) (fun c1r => ?_)
    · have c1 : ((k : Int) < (2 : Int)) := (of_decide_eq_true c1r)
      by_cases hk0 : k = 0
      ·
        refine Cfg.reg rfl [1, 4, 11, 12, 13] [(0, false, none), (0, false, some (.slice la l.length cap))] (Γ' := [(4, [], .slice la l.length cap), (13, [], .int .i64 (k : Int)), (12, [], .int .i64 (2 : Int)), (11, [], .slice (some ⟨sl2, 0, none⟩) 2 2), (1, [], .pointer (some ⟨sx, 0, none⟩))]) (nd := (fun S => [(0 ≤ (k : Int) ∧ (k : Int) < (2 : Int)), (∀ w1, S w1 → w1.cell? ⟨sl2, k, none⟩ = some (.slice la l.length cap))])) (fun _ => by kernel_rfl) ⟨(by omega), (fun w1 h => h.ocell 0 rfl (by rw [show k = 0 by omega]; rfl)), trivial⟩ ?_
        refine Cfg.reg rfl [1, 4, 11, 12, 13, 17, 18, 19] [] (Γ' := [(19, [], .int .i64 0), (18, [], .int .i64 (l.length : Int)), (17, [], .slice la l.length cap), (4, [], .slice la l.length cap), (13, [], .int .i64 (k : Int)), (12, [], .int .i64 (2 : Int)), (11, [], .slice (some ⟨sl2, 0, none⟩) 2 2), (1, [], .pointer (some ⟨sx, 0, none⟩))]) (nd := (fun _ => [])) (fun _ => by kernel_rfl) trivial ?_
        refine Cfg.loop rfl (ι := Nat) (fun (i : Nat) => [(19, [], .int .i64 (i : Int)), (18, [], .int .i64 (l.length : Int)), (17, [], .slice la l.length cap), (4, [], .slice la l.length cap), (13, [], .int .i64 (k : Int)), (12, [], .int .i64 (2 : Int)), (11, [], .slice (some ⟨sl2, 0, none⟩) 2 2), (1, [], .pointer (some ⟨sx, 0, none⟩))]) (fun (i : Nat) => [(sl2, .cells #[.slice la l.length cap, .slice ta m.length ca] 22 (0, 0)), (sx, .cells #[.string hd, .slice la l.length cap, .slice ta m.length ca, .int .u64 nx] 25 (0, 0))]) (fun (i : Nat) => (i ≤ l.length)) (fun (i : Nat) => l.length - i) 0 ?_ (Conv.mk (by kernel_rfl)) (.cons_cons _ (.cons_cons _ .slnil)) ?_
        · exact Nat.zero_le _
        · rintro i hi
          refine Cfg.reg rfl [1, 4, 11, 12, 13, 17, 18, 19, 20] [] (Γ' := [(20, [], .bool (decide ((i : Int) < (l.length : Int)))), (19, [], .int .i64 (i : Int)), (18, [], .int .i64 (l.length : Int)), (17, [], .slice la l.length cap), (4, [], .slice la l.length cap), (13, [], .int .i64 (k : Int)), (12, [], .int .i64 (2 : Int)), (11, [], .slice (some ⟨sl2, 0, none⟩) 2 2), (1, [], .pointer (some ⟨sx, 0, none⟩))]) (nd := (fun _ => [])) (fun _ => by kernel_rfl) trivial ?_
          refine Cfg.cond rfl (b := (decide ((i : Int) < (l.length : Int)))) (by kernel_rfl) (fun c2r => ?_) (fun c2r => ?_)
          · have c2 : ((i : Int) < (l.length : Int)) := (of_decide_eq_true c2r)
            obtain ⟨sb, off, cs, te, fre, rfl, hmem, hcs⟩ := hI (by omega)
            refine Conv.cfg (Γ' := [(20, [], .bool (decide ((i : Int) < (l.length : Int)))), (19, [], .int .i64 (i : Int)), (18, [], .int .i64 (l.length : Int)), (17, [], .slice (some ⟨sb, off, none⟩) l.length cap), (4, [], .slice (some ⟨sb, off, none⟩) l.length cap), (13, [], .int .i64 (k : Int)), (12, [], .int .i64 (2 : Int)), (11, [], .slice (some ⟨sl2, 0, none⟩) 2 2), (1, [], .pointer (some ⟨sx, 0, none⟩))]) (Conv.mk (by kernel_rfl)) ?_
            refine Cfg.begL rfl ?_
            refine CfgL.pure 2 [(0, false, none), (0, false, some (.agg (rc (l.getD i rz)).toArray))] none (Γ' := [(22, [], .agg (rc (l.getD i rz)).toArray), (21, [], .pointer (some ⟨sb, (addO off (i * 33)), none⟩)), (20, [], .bool (decide ((i : Int) < (l.length : Int)))), (19, [], .int .i64 (i : Int)), (18, [], .int .i64 (l.length : Int)), (17, [], .slice (some ⟨sb, off, none⟩) l.length cap), (4, [], .slice (some ⟨sb, off, none⟩) l.length cap), (13, [], .int .i64 (k : Int)), (12, [], .int .i64 (2 : Int)), (11, [], .slice (some ⟨sl2, 0, none⟩) 2 2), (1, [], .pointer (some ⟨sx, 0, none⟩))]) (nd := (fun S => [(0 ≤ (i : Int) ∧ (i : Int) < (l.length : Int)), (∀ w1, S w1 → (loadVar 50 ⟨sb, (addO off (i * 33)), none⟩).run Try.prog w1 = .ok (.agg (rc (l.getD i rz)).toArray) w1)])) (by kernel_rfl) (fun _ => by kernel_rfl) ⟨(by omega), (fun w1 h => load_list Try.underlying50 rfl (by kernel_rfl) (rc_len (hW.at i)) (fun j v hj => by rw [addO_eq]; exact (cell_cells (h.ro _ hmem)).trans (ref_cell hW hcs (by omega) hj))), trivial⟩ ?_
            refine CfgL.eff (o := _) rfl (by kernel_rfl) (by kernel_rfl) (Eff.alloc (z := (.agg (rc rz).toArray)) rfl (by kernel_rfl)) ?_
            rintro xb ⟨hxb, nxb⟩
            refine CfgL.eff (o := _) rfl (by kernel_rfl) (by kernel_rfl) (Eff.storeN (b := xb) (off := 0) (vs := (rc (l.getD i rz)).toArray) (n := 33) rfl (by kernel_rfl) (by kernel_rfl) (by kernel_rfl) (by rw [List.size_toArray, rc_len (hW.at i)]) (rc_all _) 0 (cs := (rc rz).toArray) (e := 50) (by kernel_rfl) (by show 0 + 33 ≤ 33; decide)) ?_
            rintro ⟨⟩ -
            refine CfgL.setO (O' := [(xb, .cells ((rc (l.getD i rz)).toArray) 50 (0, 0)), (sl2, .cells #[.slice (some ⟨sb, off, none⟩) l.length cap, .slice ta m.length ca] 22 (0, 0)), (sx, .cells #[.string hd, .slice (some ⟨sb, off, none⟩) l.length cap, .slice ta m.length ca, .int .u64 nx] 25 (0, 0))]) (congrArg (fun (xq : Array Value) => ([(xb, .cells xq 50 (0, 0)), (sl2, .cells #[.slice (some ⟨sb, off, none⟩) l.length cap, .slice ta m.length ca] 22 (0, 0)), (sx, .cells #[.string hd, .slice (some ⟨sb, off, none⟩) l.length cap, .slice ta m.length ca, .int .u64 nx] 25 (0, 0))] : List (Nat × Obj))) (spl_all (by rw [List.size_toArray, rc_len (hW.at i)]; rfl))) ?_
            refine CfgL.done rfl ?_
            refine Conv.cfg (Γ' := [(6, [], .pointer (some ⟨xb, 0, none⟩)), (19, [], .int .i64 (i : Int)), (18, [], .int .i64 (l.length : Int)), (17, [], .slice (some ⟨sb, off, none⟩) l.length cap), (4, [], .slice (some ⟨sb, off, none⟩) l.length cap), (13, [], .int .i64 (k : Int)), (12, [], .int .i64 (2 : Int)), (11, [], .slice (some ⟨sl2, 0, none⟩) 2 2), (1, [], .pointer (some ⟨sx, 0, none⟩))]) (Conv.mk (by kernel_rfl)) ?_
            refine Cfg.reg rfl [1, 4, 11, 12, 13, 17, 18, 19, 31] [(0, false, none), (0, false, none), (0, false, none), (0, false, none), (0, false, none), (0, false, some (.string (l.getD i rz).1))] (Γ' := [(31, [], .bool ((decide ((l.length : Int) > (20 : Int))) || (decide (((l.getD i rz).1.size : Int) > (100 : Int))))), (19, [], .int .i64 (i : Int)), (18, [], .int .i64 (l.length : Int)), (17, [], .slice (some ⟨sb, off, none⟩) l.length cap), (4, [], .slice (some ⟨sb, off, none⟩) l.length cap), (13, [], .int .i64 (k : Int)), (12, [], .int .i64 (2 : Int)), (11, [], .slice (some ⟨sl2, 0, none⟩) 2 2), (1, [], .pointer (some ⟨sx, 0, none⟩))]) (nd := (fun S => [((.bool (decide ((l.length : Int) > (20 : Int))) : Value) = .bool false → (∀ w1, S w1 → w1.cell? ⟨xb, 0, none⟩ = some (.string (l.getD i rz).1)))])) (fun _ => by kernel_rfl) ⟨(fun g0 => have q0 : (¬ ((l.length : Int) > (20 : Int))) := (of_decide_eq_false (boolV g0)); (fun w1 h => h.ocell 0 rfl rfl)), trivial⟩ ?_
            refine Cfg.cond rfl (b := ((decide ((l.length : Int) > (20 : Int))) || (decide (((l.getD i rz).1.size : Int) > (100 : Int))))) (by kernel_rfl) (fun c3r => ?_) (fun c3r => ?_)
            · have c3 : (((l.length : Int) > (20 : Int)) ∨ (((l.getD i rz).1.size : Int) > (100 : Int))) := ((orT c3r).elim (fun h => Or.inl (of_decide_eq_true h)) (fun h => Or.inr (of_decide_eq_true h)))
              refine Cfg.reg rfl [2] [] (Γ' := [(2, [], .bool false)]) (nd := (fun _ => [])) (fun _ => by kernel_rfl) trivial ?_
              refine Cfg.ret rfl (rs := [.tmp 2]) rfl [.bool false] ⟨by kernel_rfl, trivial⟩ (fun w1 hp => ?_)
              exact ⟨⟨_, trivial, rfl⟩, hp.ext⟩
            · have c3 : ((¬ ((l.length : Int) > (20 : Int))) ∧ (¬ (((l.getD i rz).1.size : Int) > (100 : Int)))) := ⟨(of_decide_eq_false (orF1 c3r)), (of_decide_eq_false (orF2 c3r))⟩
              refine Cfg.reg rfl [1, 4, 11, 12, 13, 17, 18, 19] [] (Γ' := [(19, [], .int .i64 ((i : Int) + 1)), (18, [], .int .i64 (l.length : Int)), (17, [], .slice (some ⟨sb, off, none⟩) l.length cap), (4, [], .slice (some ⟨sb, off, none⟩) l.length cap), (13, [], .int .i64 (k : Int)), (12, [], .int .i64 (2 : Int)), (11, [], .slice (some ⟨sl2, 0, none⟩) 2 2), (1, [], .pointer (some ⟨sx, 0, none⟩))]) (nd := (fun _ => [((-9223372036854775808 : Int) ≤ ((i : Int) + 1) ∧ ((i : Int) + 1) ≤ 9223372036854775807)])) (fun _ => by kernel_rfl) ⟨(by omega), trivial⟩ ?_
              refine Cfg.again rfl (i + 1) (show i + 1 ≤ l.length by omega) (by omega) (Conv.mk (by kernel_rfl)) (.cons _ (.cons_cons _ (.cons_cons _ .slnil)))
          · have c2 : (¬ ((i : Int) < (l.length : Int))) := (of_decide_eq_false c2r)
            refine Cfg.reg rfl [1, 11, 12, 13] [] (Γ' := [(13, [], .int .i64 ((k : Int) + 1)), (12, [], .int .i64 (2 : Int)), (11, [], .slice (some ⟨sl2, 0, none⟩) 2 2), (1, [], .pointer (some ⟨sx, 0, none⟩))]) (nd := (fun _ => [((-9223372036854775808 : Int) ≤ ((k : Int) + 1) ∧ ((k : Int) + 1) ≤ 9223372036854775807)])) (fun _ => by kernel_rfl) ⟨(by omega), trivial⟩ ?_
            refine Cfg.again rfl (k + 1) (show k + 1 ≤ 2 by omega) (by omega) (Conv.mk (by kernel_rfl)) (.cons_cons _ (.cons_cons _ .slnil))
      ·
        refine Cfg.reg rfl [1, 4, 11, 12, 13] [(0, false, none), (0, false, some (.slice ta m.length ca))] (Γ' := [(4, [], .slice ta m.length ca), (13, [], .int .i64 (k : Int)), (12, [], .int .i64 (2 : Int)), (11, [], .slice (some ⟨sl2, 0, none⟩) 2 2), (1, [], .pointer (some ⟨sx, 0, none⟩))]) (nd := (fun S => [(0 ≤ (k : Int) ∧ (k : Int) < (2 : Int)), (∀ w1, S w1 → w1.cell? ⟨sl2, k, none⟩ = some (.slice ta m.length ca))])) (fun _ => by kernel_rfl) ⟨(by omega), (fun w1 h => h.ocell 0 rfl (by rw [show k = 1 by omega]; rfl)), trivial⟩ ?_
        refine Cfg.reg rfl [1, 4, 11, 12, 13, 17, 18, 19] [] (Γ' := [(19, [], .int .i64 0), (18, [], .int .i64 (m.length : Int)), (17, [], .slice ta m.length ca), (4, [], .slice ta m.length ca), (13, [], .int .i64 (k : Int)), (12, [], .int .i64 (2 : Int)), (11, [], .slice (some ⟨sl2, 0, none⟩) 2 2), (1, [], .pointer (some ⟨sx, 0, none⟩))]) (nd := (fun _ => [])) (fun _ => by kernel_rfl) trivial ?_
        refine Cfg.loop rfl (ι := Nat) (fun (i : Nat) => [(19, [], .int .i64 (i : Int)), (18, [], .int .i64 (m.length : Int)), (17, [], .slice ta m.length ca), (4, [], .slice ta m.length ca), (13, [], .int .i64 (k : Int)), (12, [], .int .i64 (2 : Int)), (11, [], .slice (some ⟨sl2, 0, none⟩) 2 2), (1, [], .pointer (some ⟨sx, 0, none⟩))]) (fun (i : Nat) => [(sl2, .cells #[.slice la l.length cap, .slice ta m.length ca] 22 (0, 0)), (sx, .cells #[.string hd, .slice la l.length cap, .slice ta m.length ca, .int .u64 nx] 25 (0, 0))]) (fun (i : Nat) => (i ≤ m.length)) (fun (i : Nat) => m.length - i) 0 ?_ (Conv.mk (by kernel_rfl)) (.cons_cons _ (.cons_cons _ .slnil)) ?_
        · exact Nat.zero_le _
        · rintro i hi
          refine Cfg.reg rfl [1, 4, 11, 12, 13, 17, 18, 19, 20] [] (Γ' := [(20, [], .bool (decide ((i : Int) < (m.length : Int)))), (19, [], .int .i64 (i : Int)), (18, [], .int .i64 (m.length : Int)), (17, [], .slice ta m.length ca), (4, [], .slice ta m.length ca), (13, [], .int .i64 (k : Int)), (12, [], .int .i64 (2 : Int)), (11, [], .slice (some ⟨sl2, 0, none⟩) 2 2), (1, [], .pointer (some ⟨sx, 0, none⟩))]) (nd := (fun _ => [])) (fun _ => by kernel_rfl) trivial ?_
          refine Cfg.cond rfl (b := (decide ((i : Int) < (m.length : Int)))) (by kernel_rfl) (fun c4r => ?_) (fun c4r => ?_)
          · have c4 : ((i : Int) < (m.length : Int)) := (of_decide_eq_true c4r)
            obtain ⟨sb, off, cs, te, fre, rfl, hmem, hcs⟩ := hJ (by omega)
            refine Conv.cfg (Γ' := [(20, [], .bool (decide ((i : Int) < (m.length : Int)))), (19, [], .int .i64 (i : Int)), (18, [], .int .i64 (m.length : Int)), (17, [], .slice (some ⟨sb, off, none⟩) m.length ca), (4, [], .slice (some ⟨sb, off, none⟩) m.length ca), (13, [], .int .i64 (k : Int)), (12, [], .int .i64 (2 : Int)), (11, [], .slice (some ⟨sl2, 0, none⟩) 2 2), (1, [], .pointer (some ⟨sx, 0, none⟩))]) (Conv.mk (by kernel_rfl)) ?_
            refine Cfg.begL rfl ?_
            refine CfgL.pure 2 [(0, false, none), (0, false, some (.agg (rc (m.getD i rz)).toArray))] none (Γ' := [(22, [], .agg (rc (m.getD i rz)).toArray), (21, [], .pointer (some ⟨sb, (addO off (i * 33)), none⟩)), (20, [], .bool (decide ((i : Int) < (m.length : Int)))), (19, [], .int .i64 (i : Int)), (18, [], .int .i64 (m.length : Int)), (17, [], .slice (some ⟨sb, off, none⟩) m.length ca), (4, [], .slice (some ⟨sb, off, none⟩) m.length ca), (13, [], .int .i64 (k : Int)), (12, [], .int .i64 (2 : Int)), (11, [], .slice (some ⟨sl2, 0, none⟩) 2 2), (1, [], .pointer (some ⟨sx, 0, none⟩))]) (nd := (fun S => [(0 ≤ (i : Int) ∧ (i : Int) < (m.length : Int)), (∀ w1, S w1 → (loadVar 50 ⟨sb, (addO off (i * 33)), none⟩).run Try.prog w1 = .ok (.agg (rc (m.getD i rz)).toArray) w1)])) (by kernel_rfl) (fun _ => by kernel_rfl) ⟨(by omega), (fun w1 h => load_list Try.underlying50 rfl (by kernel_rfl) (rc_len (hV.at i)) (fun j v hj => by rw [addO_eq]; exact (cell_cells (h.ro _ hmem)).trans (ref_cell hV hcs (by omega) hj))), trivial⟩ ?_
            refine CfgL.eff (o := _) rfl (by kernel_rfl) (by kernel_rfl) (Eff.alloc (z := (.agg (rc rz).toArray)) rfl (by kernel_rfl)) ?_
            rintro xb ⟨hxb, nxb⟩
            refine CfgL.eff (o := _) rfl (by kernel_rfl) (by kernel_rfl) (Eff.storeN (b := xb) (off := 0) (vs := (rc (m.getD i rz)).toArray) (n := 33) rfl (by kernel_rfl) (by kernel_rfl) (by kernel_rfl) (by rw [List.size_toArray, rc_len (hV.at i)]) (rc_all _) 0 (cs := (rc rz).toArray) (e := 50) (by kernel_rfl) (by show 0 + 33 ≤ 33; decide)) ?_
            rintro ⟨⟩ -
            refine CfgL.setO (O' := [(xb, .cells ((rc (m.getD i rz)).toArray) 50 (0, 0)), (sl2, .cells #[.slice la l.length cap, .slice (some ⟨sb, off, none⟩) m.length ca] 22 (0, 0)), (sx, .cells #[.string hd, .slice la l.length cap, .slice (some ⟨sb, off, none⟩) m.length ca, .int .u64 nx] 25 (0, 0))]) (congrArg (fun (xq : Array Value) => ([(xb, .cells xq 50 (0, 0)), (sl2, .cells #[.slice la l.length cap, .slice (some ⟨sb, off, none⟩) m.length ca] 22 (0, 0)), (sx, .cells #[.string hd, .slice la l.length cap, .slice (some ⟨sb, off, none⟩) m.length ca, .int .u64 nx] 25 (0, 0))] : List (Nat × Obj))) (spl_all (by rw [List.size_toArray, rc_len (hV.at i)]; rfl))) ?_
            refine CfgL.done rfl ?_
            refine Conv.cfg (Γ' := [(6, [], .pointer (some ⟨xb, 0, none⟩)), (19, [], .int .i64 (i : Int)), (18, [], .int .i64 (m.length : Int)), (17, [], .slice (some ⟨sb, off, none⟩) m.length ca), (4, [], .slice (some ⟨sb, off, none⟩) m.length ca), (13, [], .int .i64 (k : Int)), (12, [], .int .i64 (2 : Int)), (11, [], .slice (some ⟨sl2, 0, none⟩) 2 2), (1, [], .pointer (some ⟨sx, 0, none⟩))]) (Conv.mk (by kernel_rfl)) ?_
            refine Cfg.reg rfl [1, 4, 11, 12, 13, 17, 18, 19, 31] [(0, false, none), (0, false, none), (0, false, none), (0, false, none), (0, false, none), (0, false, some (.string (m.getD i rz).1))] (Γ' := [(31, [], .bool ((decide ((m.length : Int) > (20 : Int))) || (decide (((m.getD i rz).1.size : Int) > (100 : Int))))), (19, [], .int .i64 (i : Int)), (18, [], .int .i64 (m.length : Int)), (17, [], .slice (some ⟨sb, off, none⟩) m.length ca), (4, [], .slice (some ⟨sb, off, none⟩) m.length ca), (13, [], .int .i64 (k : Int)), (12, [], .int .i64 (2 : Int)), (11, [], .slice (some ⟨sl2, 0, none⟩) 2 2), (1, [], .pointer (some ⟨sx, 0, none⟩))]) (nd := (fun S => [((.bool (decide ((m.length : Int) > (20 : Int))) : Value) = .bool false → (∀ w1, S w1 → w1.cell? ⟨xb, 0, none⟩ = some (.string (m.getD i rz).1)))])) (fun _ => by kernel_rfl) ⟨(fun g0 => have q0 : (¬ ((m.length : Int) > (20 : Int))) := (of_decide_eq_false (boolV g0)); (fun w1 h => h.ocell 0 rfl rfl)), trivial⟩ ?_
            refine Cfg.cond rfl (b := ((decide ((m.length : Int) > (20 : Int))) || (decide (((m.getD i rz).1.size : Int) > (100 : Int))))) (by kernel_rfl) (fun c5r => ?_) (fun c5r => ?_)
            · have c5 : (((m.length : Int) > (20 : Int)) ∨ (((m.getD i rz).1.size : Int) > (100 : Int))) := ((orT c5r).elim (fun h => Or.inl (of_decide_eq_true h)) (fun h => Or.inr (of_decide_eq_true h)))
              refine Cfg.reg rfl [2] [] (Γ' := [(2, [], .bool false)]) (nd := (fun _ => [])) (fun _ => by kernel_rfl) trivial ?_
              refine Cfg.ret rfl (rs := [.tmp 2]) rfl [.bool false] ⟨by kernel_rfl, trivial⟩ (fun w1 hp => ?_)
              exact ⟨⟨_, trivial, rfl⟩, hp.ext⟩
            · have c5 : ((¬ ((m.length : Int) > (20 : Int))) ∧ (¬ (((m.getD i rz).1.size : Int) > (100 : Int)))) := ⟨(of_decide_eq_false (orF1 c5r)), (of_decide_eq_false (orF2 c5r))⟩
              refine Cfg.reg rfl [1, 4, 11, 12, 13, 17, 18, 19] [] (Γ' := [(19, [], .int .i64 ((i : Int) + 1)), (18, [], .int .i64 (m.length : Int)), (17, [], .slice (some ⟨sb, off, none⟩) m.length ca), (4, [], .slice (some ⟨sb, off, none⟩) m.length ca), (13, [], .int .i64 (k : Int)), (12, [], .int .i64 (2 : Int)), (11, [], .slice (some ⟨sl2, 0, none⟩) 2 2), (1, [], .pointer (some ⟨sx, 0, none⟩))]) (nd := (fun _ => [((-9223372036854775808 : Int) ≤ ((i : Int) + 1) ∧ ((i : Int) + 1) ≤ 9223372036854775807)])) (fun _ => by kernel_rfl) ⟨(by omega), trivial⟩ ?_
              refine Cfg.again rfl (i + 1) (show i + 1 ≤ m.length by omega) (by omega) (Conv.mk (by kernel_rfl)) (.cons _ (.cons_cons _ (.cons_cons _ .slnil)))
          · have c4 : (¬ ((i : Int) < (m.length : Int))) := (of_decide_eq_false c4r)
            refine Cfg.reg rfl [1, 11, 12, 13] [] (Γ' := [(13, [], .int .i64 ((k : Int) + 1)), (12, [], .int .i64 (2 : Int)), (11, [], .slice (some ⟨sl2, 0, none⟩) 2 2), (1, [], .pointer (some ⟨sx, 0, none⟩))]) (nd := (fun _ => [((-9223372036854775808 : Int) ≤ ((k : Int) + 1) ∧ ((k : Int) + 1) ≤ 9223372036854775807)])) (fun _ => by kernel_rfl) ⟨(by omega), trivial⟩ ?_
            refine Cfg.again rfl (k + 1) (show k + 1 ≤ 2 by omega) (by omega) (Conv.mk (by kernel_rfl)) (.cons_cons _ (.cons_cons _ .slnil))
    · have c1 : (¬ ((k : Int) < (2 : Int))) := (of_decide_eq_false c1r)
      refine Cfg.reg rfl [2] [(0, false, none), (0, false, some (.string hd))] (Γ' := [(2, [], .bool (decide ((hd.size : Int) ≤ (100 : Int))))]) (nd := (fun S => [(∀ w1, S w1 → w1.cell? ⟨sx, 0, none⟩ = some (.string hd))])) (fun _ => by kernel_rfl) ⟨(fun w1 h => h.ocell 1 rfl rfl), trivial⟩ ?_
      refine Cfg.ret rfl (rs := [.tmp 2]) rfl [.bool (decide ((hd.size : Int) ≤ (100 : Int)))] ⟨by kernel_rfl, trivial⟩ (fun w1 hp => ?_)
      exact ⟨⟨_, trivial, rfl⟩, hp.ext⟩

end Go.Proofs.Ytejgpniaoccpoaa
