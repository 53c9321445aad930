/- strings.Builder: what is written is held; String gives it. Conditions: the builder is the call's own, its bytes no longer than memory bears. -/
import Derived.Test.YtoopekjbikcebaaDoorK13
import Derived.Test.YtoopekjbikcebaaDoorRows
namespace Go.Proofs.YtoopekjbikcebaaDoor
open K
set_option linter.unusedVariables false

set_option maxRecDepth 100000 in
theorem bCheck0 (b : Nat) (v : Value) (w : World) (hB : w.heap[b]? = some (.cells #[.pointer none, v] 46 (0, 0))) :
    Calls Tryd.prog 23 #[.pointer (some ⟨b, 0, none⟩)] w fun e w' => e = .returned (.tuple #[]) ∧ Ext [b] w w' ∧ w'.heap[b]? = some (.cells #[.pointer (some ⟨b, 0, none⟩), v] 46 (0, 0)) := by
  refine enter (vs := [.pointer (some ⟨b, 0, none⟩)]) [b] [] [(b, .cells #[.pointer none, v] 46 (0, 0))] Tryd.func23 rfl (by kernel_rfl) (HP.startM (R := []) (fun _ h => by cases h) hB (by simp)) ?_
  refine Cfg.reg rfl [0, 6] [(0, false, none), (0, false, none), (0, false, none), (0, false, some (.pointer none))] (Γ' := [(6, [], .bool true), (0, [], .pointer (some ⟨b, 0, none⟩))]) (nd := (fun S => [(∀ w1, S w1 → w1.cell? ⟨b, 0, none⟩ = some (.pointer none))])) (fun _ => by kernel_rfl) ⟨(fun w1 h => h.ocell 0 rfl rfl), trivial⟩ ?_
  refine Cfg.condT rfl (b := true) (by kernel_rfl) rfl ?_
  refine Cfg.begL rfl ?_
  refine CfgL.pure 2 [] (some [7, 8]) (Γ' := [(8, [], .pointer (some ⟨b, 0, none⟩)), (7, [], .pointer (some ⟨b, 0, none⟩))]) (nd := (fun _ => [])) (by kernel_rfl) (fun _ => by kernel_rfl) trivial ?_
  refine CfgL.eff (o := _) rfl (by kernel_rfl) (by kernel_rfl) (Eff.conv (u := .pointer (some ⟨b, 0, none⟩)) (.pointer (some ⟨b, 0, none⟩)) rfl (by kernel_rfl) (fun w1 h => toUnsafe Tryd.underlying43 Tryd.underlying75 (by kernel_rfl) (h.own (b, _) (List.mem_cons_self ..)) rfl)) ?_
  rintro ⟨⟩ -
  refine CfgL.eff (o := _) rfl (by kernel_rfl) (by kernel_rfl) (Eff.callE (vs := [.pointer (some ⟨b, 0, none⟩)]) (.pointer (some ⟨b, 0, none⟩)) (e := Extern.AbiNoEscape.same) rfl Tryd.func32 rfl rfl (by kernel_rfl) (by kernel_rfl) (by kernel_rfl) (fun w1 h => rfl)) ?_
  rintro ⟨⟩ -
  refine CfgL.eff (o := _) rfl (by kernel_rfl) (by kernel_rfl) (Eff.conv (u := .pointer (some ⟨b, 0, none⟩)) (.pointer (some ⟨b, 0, none⟩)) rfl (by kernel_rfl) (fun w1 h => fromUnsafe Tryd.underlying75 Tryd.underlying43 (by kernel_rfl) (by kernel_rfl) (h.own (b, _) (List.mem_cons_self ..)) rfl)) ?_
  rintro ⟨⟩ -
  refine CfgL.pure 2 [] (some [11, 13]) (Γ' := [(13, [], .pointer (some ⟨b, 0, none⟩)), (11, [], .pointer (some ⟨b, 0, none⟩))]) (nd := (fun _ => [])) (by kernel_rfl) (fun _ => by kernel_rfl) trivial ?_
  refine CfgL.eff (o := _) rfl (by kernel_rfl) (by kernel_rfl) (Eff.store1 (b := b) (off := 0) (v := .pointer (some ⟨b, 0, none⟩)) rfl (by kernel_rfl) (by kernel_rfl) rfl (by kernel_rfl) 0 (cs := #[.pointer none, v]) (e := 46) (by kernel_rfl) (Nat.zero_lt_succ 1)) ?_
  rintro ⟨⟩ -
  refine CfgL.done rfl ?_
  refine Conv.cfg (Γ' := []) (Conv.mk (by kernel_rfl)) ?_
  refine Cfg.fin rfl (rs := []) rfl [] trivial (fun w1 hp => ?_)
  exact ⟨rfl, hp.ext, hp.own (b, _) (List.mem_cons_self ..)⟩

set_option maxRecDepth 100000 in
theorem bCheck1 (b : Nat) (v : Value) (w : World) (hB : w.heap[b]? = some (.cells #[.pointer (some ⟨b, 0, none⟩), v] 46 (0, 0))) :
    Calls Tryd.prog 23 #[.pointer (some ⟨b, 0, none⟩)] w fun e w' => e = .returned (.tuple #[]) ∧ Ext [b] w w' ∧ w'.heap[b]? = some (.cells #[.pointer (some ⟨b, 0, none⟩), v] 46 (0, 0)) := by
  refine enter (vs := [.pointer (some ⟨b, 0, none⟩)]) [b] [] [(b, .cells #[.pointer (some ⟨b, 0, none⟩), v] 46 (0, 0))] Tryd.func23 rfl (by kernel_rfl) (HP.startM (R := []) (fun _ h => by cases h) hB (by simp)) ?_
  refine Cfg.reg rfl [0, 6] [(0, false, none), (0, false, none), (0, false, none), (0, false, some (.pointer (some ⟨b, 0, none⟩)))] (Γ' := [(6, [], .bool false), (0, [], .pointer (some ⟨b, 0, none⟩))]) (nd := (fun S => [(∀ w1, S w1 → w1.cell? ⟨b, 0, none⟩ = some (.pointer (some ⟨b, 0, none⟩)))])) (fun _ => by kernel_rfl) ⟨(fun w1 h => h.ocell 0 rfl rfl), trivial⟩ ?_
  refine Cfg.condF rfl (b := false) (by kernel_rfl) rfl ?_
  refine Cfg.begL rfl ?_
  refine CfgL.pure 5 [(0, false, none), (0, false, none), (0, false, none), (0, false, some (.pointer (some ⟨b, 0, none⟩)))] (some [17, 18]) (Γ' := [(18, [], .pointer (some ⟨b, 0, none⟩)), (17, [], .pointer (some ⟨b, 0, none⟩))]) (nd := (fun S => [(∀ w1, S w1 → w1.cell? ⟨b, 0, none⟩ = some (.pointer (some ⟨b, 0, none⟩)))])) (by kernel_rfl) (fun _ => by kernel_rfl) ⟨(fun w1 h => h.ocell 0 rfl rfl), trivial⟩ ?_
  refine CfgL.eff (o := _) rfl (by kernel_rfl) (by kernel_rfl) (Eff.neqSame rfl (p := ⟨b, 0, none⟩) (by kernel_rfl) (by kernel_rfl) Tryd.underlying43 (by kernel_rfl)) ?_
  rintro ⟨⟩ -
  refine CfgL.done rfl ?_
  refine Conv.cfg (Γ' := [(19, [], .bool false)]) (Conv.mk (by kernel_rfl)) ?_
  refine Cfg.condF rfl (b := false) (by kernel_rfl) rfl ?_
  refine Cfg.fin rfl (rs := []) rfl [] trivial (fun w1 hp => ?_)
  exact ⟨rfl, hp.ext, hp.own (b, _) (List.mem_cons_self ..)⟩

theorem bCheck (b : Nat) (p v : Value) (w : World) (hp : p = .pointer none ∨ p = .pointer (some ⟨b, 0, none⟩)) (hB : w.heap[b]? = some (.cells #[p, v] 46 (0, 0))) :
    Calls Tryd.prog 23 #[.pointer (some ⟨b, 0, none⟩)] w fun e w' => e = .returned (.tuple #[]) ∧ Ext [b] w w' ∧ w'.heap[b]? = some (.cells #[.pointer (some ⟨b, 0, none⟩), v] 46 (0, 0)) := by
  rcases hp with rfl | rfl
  · exact bCheck0 b v w hB
  · exact bCheck1 b v w hB

set_option maxRecDepth 100000 in
theorem bWriteString (b : Nat) (l : List UInt8) (B : Bd) (s : ByteArray) (w : World) (hok : BdOk b l B) (hh : Has w (bl 46 5 b l B)) (hd : ((bl 46 5 b l B).map (·.1)).Nodup) (hr : l.length + s.size ≤ 140737488355328) :
    Calls Tryd.prog 15 #[.pointer (some ⟨b, 0, none⟩), .string s] w fun e w' => ∃ B' : Bd, BdOk b (l ++ s.data.toList) B' ∧ e = .returned (.tuple #[.int .i64 (s.size : Int), .nilIface]) ∧ ∃ R1, HP w ((bl 46 5 b l B).map (·.1)) R1 (bl 46 5 b (l ++ s.data.toList) B') w' := by
  refine enter (vs := [.pointer (some ⟨b, 0, none⟩), .string s]) ((bl 46 5 b l B).map (·.1)) [] ([(b, .cells #[B.1, .slice (Own.a B.2) l.length (Own.c B.2)] 46 (0, 0))] ++ (Own.o 5 ((bv l).toList) B.2 ++ [])) Tryd.func15 rfl (by kernel_rfl) (bl_start hh hd (R := []) (fun _ h => by cases h) (fun _ h => by cases h)) ?_
  refine Cfg.reg rfl [0, 1] [] (Γ' := [(0, [], .pointer (some ⟨b, 0, none⟩)), (1, [], .string s)]) (nd := (fun _ => [])) (fun _ => by kernel_rfl) trivial ?_
  refine Cfg.begL rfl ?_
  refine CfgL.pure 1 [] none (Γ' := [(6, [], .pointer (some ⟨b, 0, none⟩)), (0, [], .pointer (some ⟨b, 0, none⟩)), (1, [], .string s)]) (nd := (fun _ => [])) (by kernel_rfl) (fun _ => by kernel_rfl) trivial ?_
  refine CfgL.eff (o := _) rfl (by kernel_rfl) (by kernel_rfl) (Eff.callM (vs := [.pointer (some ⟨b, 0, none⟩)]) (.tuple #[]) 0 (b := b) (ob := .cells #[B.1, .slice (Own.a B.2) l.length (Own.c B.2)] 46 (0, 0)) (.cells #[.pointer (some ⟨b, 0, none⟩), .slice (Own.a B.2) l.length (Own.c B.2)] 46 (0, 0)) rfl Tryd.func23 rfl rfl (by kernel_rfl) (by kernel_rfl) (fun w1 h => bCheck b B.1 (.slice (Own.a B.2) l.length (Own.c B.2)) w1 hok.ptr (h.own (b, _) (List.mem_cons_self ..)))) ?_
  rintro ⟨⟩ -
  refine CfgL.done rfl ?_
  refine Conv.cfg (Γ' := [(0, [], .pointer (some ⟨b, 0, none⟩)), (1, [], .string s)]) (Conv.mk (by kernel_rfl)) ?_
  refine Cfg.begL rfl ?_
  refine CfgL.pure 6 [(0, false, none), (0, false, none), (0, false, none), (0, false, none), (0, false, some (.slice (Own.a B.2) l.length (Own.c B.2)))] (some [1, 8, 12, 13]) (Γ' := [(13, [], .string s), (12, [], .slice (Own.a B.2) l.length (Own.c B.2)), (8, [], .pointer (some ⟨b, 0, none⟩)), (1, [], .string s)]) (nd := (fun S => [(∀ w1, S w1 → w1.cell? ⟨b, 1, none⟩ = some (.slice (Own.a B.2) l.length (Own.c B.2)))])) (by kernel_rfl) (fun _ => by kernel_rfl) ⟨(fun w1 h => h.ocell 0 rfl rfl), trivial⟩ ?_
  refine CfgL.eff (o := _) rfl (by kernel_rfl) (by kernel_rfl) (Eff.appendS rfl Tryd.underlying44 Tryd.underlying9 (by kernel_rfl) (by kernel_rfl) B.2 hok.own hok.pos (by kernel_rfl) (s := s) (by kernel_rfl) [(b, .cells #[.pointer (some ⟨b, 0, none⟩), .slice (Own.a B.2) l.length (Own.c B.2)] 46 (0, 0))] [] rfl hr) ?_
  rintro o ⟨ko, kp⟩
  refine CfgL.pure 2 [] (some [1, 14, 16]) (Γ' := [(16, [], .pointer (some ⟨b, 1, none⟩)), (14, [], .slice (Own.a o) ((l.length + s.size)) (Own.c o)), (1, [], .string s)]) (nd := (fun _ => [])) (by kernel_rfl) (fun _ => by kernel_rfl) trivial ?_
  refine CfgL.eff (o := _) rfl (by kernel_rfl) (by kernel_rfl) (Eff.store1 (b := b) (off := 1) (v := .slice (Own.a o) ((l.length + s.size)) (Own.c o)) rfl (by kernel_rfl) (by kernel_rfl) rfl (by kernel_rfl) 0 (cs := #[.pointer (some ⟨b, 0, none⟩), .slice (Own.a B.2) l.length (Own.c B.2)]) (e := 46) (by kernel_rfl) (Nat.lt_succ_self 1)) ?_
  rintro ⟨⟩ -
  refine CfgL.done rfl ?_
  refine Conv.cfg (Γ' := [(1, [], .string s)]) (Conv.mk (by kernel_rfl)) ?_
  refine Cfg.reg rfl [4, 5] [] (Γ' := [(5, [], .nilIface), (4, [], .int .i64 (s.size : Int))]) (nd := (fun _ => [])) (fun _ => by kernel_rfl) trivial ?_
  refine Cfg.ret rfl (rs := [.tmp 4, .tmp 5]) rfl [.int .i64 (s.size : Int), .nilIface] ⟨by kernel_rfl, by kernel_rfl, trivial⟩ (fun w1 hp => ?_)
  rw [bv_app] at hp ko
  have hlen : l.length + s.size = (l ++ s.data.toList).length := by rw [List.length_append, ba_len]
  rw [hlen] at ko hp
  exact ⟨(.pointer (some ⟨b, 0, none⟩), o), ⟨.inr rfl, ko, kp⟩, rfl, _, bl_end hp⟩

set_option maxRecDepth 100000 in
theorem bString (b : Nat) (l : List UInt8) (B : Bd) (w : World) (hok : BdOk b l B) (hh : Has w (bl 46 5 b l B)) (hd : ((bl 46 5 b l B).map (·.1)).Nodup) (hr : l.length ≤ 140737488355328) :
    Calls Tryd.prog 17 #[.pointer (some ⟨b, 0, none⟩)] w fun e w' => ∃ _ : Unit, True ∧ e = .returned (.string ⟨l.toArray⟩) ∧ ∃ R1, HP w ((bl 46 5 b l B).map (·.1)) R1 [] w' := by
  refine enter (vs := [.pointer (some ⟨b, 0, none⟩)]) ((bl 46 5 b l B).map (·.1)) [] ([(b, .cells #[B.1, .slice (Own.a B.2) l.length (Own.c B.2)] 46 (0, 0))] ++ (Own.o 5 ((bv l).toList) B.2 ++ [])) Tryd.func17 rfl (by kernel_rfl) (bl_start hh hd (R := []) (fun _ h => by cases h) (fun _ h => by cases h)) ?_
  refine Cfg.reg rfl [0] [] (Γ' := [(0, [], .pointer (some ⟨b, 0, none⟩))]) (nd := (fun _ => [])) (fun _ => by kernel_rfl) trivial ?_
  refine Cfg.begA rfl (by kernel_rfl) [(b, .cells #[B.1, .slice (Own.a B.2) l.length (Own.c B.2)] 46 (0, 0))] ?_
  refine CfgA.pure [0, 1, 2, 3, 5, 6, 7, 8, 9] [(0, false, none), (0, false, none), (0, false, none), (0, false, some (.slice (Own.a B.2) l.length (Own.c B.2))), (0, false, none), (0, false, none), (0, false, none), (0, false, some (.slice (Own.a B.2) l.length (Own.c B.2)))] (some [6, 12]) (l' := #[true, true, true, true, false, true, true, true, true, true, false, false]) (by kernel_rfl) (by kernel_rfl) (.cons_cons _ (List.Sublist.trans (List.Sublist.refl _) (List.sublist_append_right _ _))) 3 rfl (Γ' := [(12, [], .int .i64 (l.length : Int)), (6, [], .slice (Own.a B.2) l.length (Own.c B.2))]) (nd := (fun S => [(∀ w1, S w1 → w1.cell? ⟨b, 1, none⟩ = some (.slice (Own.a B.2) l.length (Own.c B.2))), (∀ w1, S w1 → w1.cell? ⟨b, 1, none⟩ = some (.slice (Own.a B.2) l.length (Own.c B.2)))])) (fun _ => by kernel_rfl) ⟨(fun w1 h => h.ocell 0 rfl rfl), (fun w1 h => h.ocell 0 rfl rfl), trivial⟩ ?_
  refine CfgA.eff 4 (o := _) rfl (by kernel_rfl) (fuel' := 2) rfl (by kernel_rfl) (by kernel_rfl) (Eff.sliceData rfl B.2 hok.pos (n := l.length) (by kernel_rfl)) (fun _ _ => (.cons_cons _ (List.Sublist.trans (List.Sublist.refl _) (List.sublist_append_right _ _)))) ?_
  rintro ⟨⟩ -
  refine CfgA.eff 10 (o := _) rfl (by kernel_rfl) (fuel' := 1) rfl (by kernel_rfl) (by kernel_rfl) (Eff.unsafeStr rfl Tryd.underlying63 (by kernel_rfl) B.2 hok.own (by kernel_rfl) (by kernel_rfl) [(b, .cells #[B.1, .slice (Own.a B.2) l.length (Own.c B.2)] 46 (0, 0))] [] rfl (by omega)) (fun _ _ => (.cons_cons _ .slnil)) ?_
  rintro ⟨⟩ -
  refine CfgA.pure [11] [] (some [2]) (l' := #[true, true, true, true, true, true, true, true, true, true, true, true]) (by kernel_rfl) (by kernel_rfl) (.cons_cons _ .slnil) 0 rfl (Γ' := [(2, [], .string ⟨l.toArray⟩)]) (nd := (fun _ => [])) (fun _ => by kernel_rfl) trivial ?_
  refine CfgA.done (by kernel_rfl) ?_
  refine Cfg.ret rfl (rs := [.tmp 2]) rfl [.string ⟨l.toArray⟩] ⟨by kernel_rfl, trivial⟩ (fun w1 hp => ?_)
  exact ⟨(), trivial, rfl, _, hp.sub (List.nil_sublist _)⟩

end Go.Proofs.YtoopekjbikcebaaDoor
