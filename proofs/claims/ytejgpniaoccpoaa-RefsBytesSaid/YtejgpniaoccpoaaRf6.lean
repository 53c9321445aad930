/- refs: a row with one ref more, in its place. -/
import Derived.Test.YtejgpniaoccpoaaRf5
namespace Go.Proofs.Ytejgpniaoccpoaa
open K
set_option linter.unusedVariables false

/-- A row with one ref more, ahead of the greater ones. -/
def withI (l : List Rf) (x : Rf) : Nat := if fidx (pGt x) l < 0 then l.length else (fidx (pGt x) l).toNat
theorem withI_le (l : List Rf) (x : Rf) : withI l x ≤ l.length := by have := fidx_lt (pGt x) l; unfold withI; split <;> omega
theorem own_notin {w0 w : World} {M : List Nat} {R : List (Nat × Obj)} {a : Nat} {ob : Obj} {L T Fl : List (Nat × Obj)} (h : HP w0 M R (Fl ++ (L ++ T)) w) (hm : (a, ob) ∈ Fl) : ∀ y ∈ L, a ≠ y.1 := by
  intro y hy he
  have hd := h.dist
  rw [List.map_append, List.map_append] at hd
  exact (List.nodup_append.1 hd).2.2 a (List.mem_map.2 ⟨_, hm, rfl⟩) a (List.mem_append_left _ (List.mem_map.2 ⟨y, hy, he.symm⟩)) rfl

set_option maxRecDepth 100000 in
theorem rWith (o : K.Own) (l : List Rf) (x : Rf) (w : World) (hok : OwnOk o 33 l.length (rv l)) (hW : W32 l) (hx : x.2.length = 32) (hm : l.length ≤ 4096) (hA : Has w (o.o 50 (rv l))) (hd : ((o.o 50 (rv l)).map (·.1)).Nodup) :
    Calls Try.prog 42 #[.slice (Own.a o) l.length (Own.c o), .agg (rc x).toArray] w fun e w' => ∃ o2 : K.Own, OwnOk o2 33 (l.length + 1) (rv (insF l (withI l x) x)) ∧ e = .returned (.slice o2.a (l.length + 1) o2.c) ∧ ∃ R1, HP w ((o.o 50 (rv l)).map (·.1)) R1 (o2.o 50 (rv (insF l (withI l x) x))) w' := by
  have hfl := fidx_lt (pGt x) l
  refine enter (vs := [.slice (Own.a o) l.length (Own.c o), .agg (rc x).toArray]) ((o.o 50 (rv l)).map (·.1)) [] ([] ++ (Own.o 50 (rv l) o ++ [])) Try.func42 rfl (by kernel_rfl) (by rw [List.append_nil]; exact HP.ofL hA hd (fun e he => by cases he) (fun e he => by cases he)) ?_
  refine Cfg.begL rfl ?_
  refine CfgL.eff (o := _) rfl (by kernel_rfl) (by kernel_rfl) (Eff.box (v := .agg (rc x).toArray) rfl (by kernel_rfl)) ?_
  rintro xb ⟨hxb, nxb⟩
  refine CfgL.pure 1 [] (some [0, 3]) (Γ' := [(3, [], .pointer (some ⟨xb, 0, none⟩)), (0, [], .slice (Own.a o) l.length (Own.c o))]) (nd := (fun _ => [])) (by kernel_rfl) (fun _ => by kernel_rfl) trivial ?_
  refine CfgL.done rfl ?_
  refine Cfg.begL rfl ?_
  refine CfgL.pure 2 [] none (Γ' := [(7, [], .func (.func 67) #[] #[.pointer (some ⟨xb, 0, none⟩)]), (6, [], .slice (Own.a o) l.length (Own.c o)), (3, [], .pointer (some ⟨xb, 0, none⟩)), (0, [], .slice (Own.a o) l.length (Own.c o))]) (nd := (fun _ => [])) (by kernel_rfl) (fun _ => by kernel_rfl) trivial ?_
  refine CfgL.eff (o := _) rfl (by kernel_rfl) (by kernel_rfl) (Eff.callA (vs := [.slice (Own.a o) l.length (Own.c o), .func (.func 67) #[] #[.pointer (some ⟨xb, 0, none⟩)]]) (.int .i64 (fidx (pGt x) l)) rfl Try.func64 rfl rfl (by kernel_rfl) (fun w1 h => idxWith (Own.a o) (Own.c o) l xb x ((xb, Obj.cells (rc x).toArray 50 (0, 0)) :: o.o 50 (rv l)) w1 ((inR_own hok).mono (fun e he => List.mem_cons_of_mem _ he)) hW (h.has (fun e he => by rcases List.mem_cons.1 he with rfl | he; exact List.mem_append_left _ (List.mem_cons_self ..); exact List.mem_cons_of_mem _ (show e ∈ o.o 50 (rv l) ++ [] from List.mem_append_left _ he))) (by unfold maxLen; omega) (List.mem_cons_self ..))) ?_
  rintro ⟨⟩ -
  refine CfgL.pure 1 [] (some [0, 3, 5]) (Γ' := [(5, [], .int .i64 (fidx (pGt x) l)), (3, [], .pointer (some ⟨xb, 0, none⟩)), (0, [], .slice (Own.a o) l.length (Own.c o))]) (nd := (fun _ => [])) (by kernel_rfl) (fun _ => by kernel_rfl) trivial ?_
  refine CfgL.done rfl ?_
  refine Cfg.reg rfl [0, 3, 5, 10] [] (Γ' := [(10, [], .bool (decide ((fidx (pGt x) l) < (0 : Int)))), (5, [], .int .i64 (fidx (pGt x) l)), (3, [], .pointer (some ⟨xb, 0, none⟩)), (0, [], .slice (Own.a o) l.length (Own.c o))]) (nd := (fun _ => [])) (fun _ => by kernel_rfl) trivial ?_
  refine Cfg.cond rfl (b := (decide ((fidx (pGt x) l) < (0 : Int)))) (by kernel_rfl) (fun c1r => ?_) (fun c1r => ?_)
  · have c1 : ((fidx (pGt x) l) < (0 : Int)) := (of_decide_eq_true c1r)
    refine Cfg.reg rfl [0, 3, 5] [] (Γ' := [(5, [], .int .i64 (l.length : Int)), (3, [], .pointer (some ⟨xb, 0, none⟩)), (0, [], .slice (Own.a o) l.length (Own.c o))]) (nd := (fun _ => [])) (fun _ => by kernel_rfl) trivial ?_
    refine Cfg.begL rfl ?_
    refine CfgL.pure 3 [(0, false, none), (0, false, none), (0, false, some (.agg (rc x).toArray))] none (Γ' := [(15, [], .agg (rc x).toArray), (14, [], .int .i64 (l.length : Int)), (13, [], .slice (Own.a o) l.length (Own.c o)), (5, [], .int .i64 (l.length : Int)), (3, [], .pointer (some ⟨xb, 0, none⟩)), (0, [], .slice (Own.a o) l.length (Own.c o))]) (nd := (fun S => [(∀ w1, S w1 → (loadVar 50 ⟨xb, 0, none⟩).run Try.prog w1 = .ok (.agg (rc x).toArray) w1)])) (by kernel_rfl) (fun _ => by kernel_rfl) ⟨(fun w1 h => load_list Try.underlying50 rfl (by kernel_rfl) (rc_len hx) (fun j v hj => by rw [Nat.zero_add]; exact h.ocell 0 rfl (by rw [List.getElem?_toArray]; exact hj))), trivial⟩ ?_
    refine CfgL.eff (o := _) rfl (by kernel_rfl) (by kernel_rfl) (Eff.buildAgg (vs := (rc x).toArray) (n := 33) rfl (by kernel_rfl) Try.underlying22 (by kernel_rfl) (z := (.agg (rc rz).toArray)) (by kernel_rfl) (by rw [List.size_toArray]; exact rc_len hx) (by decide) (by decide)) ?_
    rintro vb ⟨hvb, nvb⟩
    refine CfgL.eff (o := _) rfl (by kernel_rfl) (by kernel_rfl) (Eff.callH (vs := [.slice (Own.a o) l.length (Own.c o), .int .i64 (l.length : Int), .slice (some ⟨vb, 0, none⟩) 1 1]) (fun o2 : K.Own => .slice o2.a (l.length + 1) o2.c) (o.o 50 (rv l)) (fun o2 => o2.o 50 (rv (insF l (withI l x) x))) (fun o2 => OwnOk o2 33 (l.length + 1) (rv (insF l (withI l x) x))) [(vb, .cells ((rc x).toArray) 50 (0, 0)), (xb, .cells ((rc x).toArray) 50 (0, 0))] [] rfl rfl Try.func68 rfl rfl (by kernel_rfl) (fun w1 h hA1 _ => by have h9 := rInsertO o (withI l x) vb l x w1 hok (withI_le l x) hW hx hm hA1 (h.has (fun e he => by rw [List.mem_singleton.1 he]; exact List.mem_cons_self ..)) (own_notin (Fl := [(vb, .cells ((rc x).toArray) 50 (0, 0)), (xb, .cells ((rc x).toArray) 50 (0, 0))]) (L := o.o 50 (rv l)) (T := []) h (List.mem_cons_self ..)); rw [show ((withI l x : Nat) : Int) = (l.length : Int) by unfold withI; first | (rw [if_pos c1]; done) | (rw [if_neg c1]; omega) | (split <;> omega)] at h9; exact h9)) ?_
    rintro o2 ko2
    refine CfgL.pure 1 [] (some [4]) (Γ' := [(4, [], .slice (Own.a o2) ((l.length + 1)) (Own.c o2))]) (nd := (fun _ => [])) (by kernel_rfl) (fun _ => by kernel_rfl) trivial ?_
    refine CfgL.done rfl ?_
    refine Cfg.ret rfl (rs := [.tmp 4]) rfl [.slice (Own.a o2) ((l.length + 1)) (Own.c o2)] ⟨by kernel_rfl, trivial⟩ (fun w1 hp => ?_)
    exact ⟨o2, ko2, rfl, _, by have h9 := hp.sub (List.sublist_append_right _ _); rw [List.append_nil] at h9; exact h9⟩
  · have c1 : (¬ ((fidx (pGt x) l) < (0 : Int))) := (of_decide_eq_false c1r)
    refine Cfg.begL rfl ?_
    refine CfgL.pure 3 [(0, false, none), (0, false, none), (0, false, some (.agg (rc x).toArray))] none (Γ' := [(15, [], .agg (rc x).toArray), (14, [], .int .i64 (fidx (pGt x) l)), (13, [], .slice (Own.a o) l.length (Own.c o)), (10, [], .bool (decide ((fidx (pGt x) l) < (0 : Int)))), (5, [], .int .i64 (fidx (pGt x) l)), (3, [], .pointer (some ⟨xb, 0, none⟩)), (0, [], .slice (Own.a o) l.length (Own.c o))]) (nd := (fun S => [(∀ w1, S w1 → (loadVar 50 ⟨xb, 0, none⟩).run Try.prog w1 = .ok (.agg (rc x).toArray) w1)])) (by kernel_rfl) (fun _ => by kernel_rfl) ⟨(fun w1 h => load_list Try.underlying50 rfl (by kernel_rfl) (rc_len hx) (fun j v hj => by rw [Nat.zero_add]; exact h.ocell 0 rfl (by rw [List.getElem?_toArray]; exact hj))), trivial⟩ ?_
    refine CfgL.eff (o := _) rfl (by kernel_rfl) (by kernel_rfl) (Eff.buildAgg (vs := (rc x).toArray) (n := 33) rfl (by kernel_rfl) Try.underlying22 (by kernel_rfl) (z := (.agg (rc rz).toArray)) (by kernel_rfl) (by rw [List.size_toArray]; exact rc_len hx) (by decide) (by decide)) ?_
    rintro vb ⟨hvb, nvb⟩
    refine CfgL.eff (o := _) rfl (by kernel_rfl) (by kernel_rfl) (Eff.callH (vs := [.slice (Own.a o) l.length (Own.c o), .int .i64 (fidx (pGt x) l), .slice (some ⟨vb, 0, none⟩) 1 1]) (fun o2 : K.Own => .slice o2.a (l.length + 1) o2.c) (o.o 50 (rv l)) (fun o2 => o2.o 50 (rv (insF l (withI l x) x))) (fun o2 => OwnOk o2 33 (l.length + 1) (rv (insF l (withI l x) x))) [(vb, .cells ((rc x).toArray) 50 (0, 0)), (xb, .cells ((rc x).toArray) 50 (0, 0))] [] rfl rfl Try.func68 rfl rfl (by kernel_rfl) (fun w1 h hA1 _ => by have h9 := rInsertO o (withI l x) vb l x w1 hok (withI_le l x) hW hx hm hA1 (h.has (fun e he => by rw [List.mem_singleton.1 he]; exact List.mem_cons_self ..)) (own_notin (Fl := [(vb, .cells ((rc x).toArray) 50 (0, 0)), (xb, .cells ((rc x).toArray) 50 (0, 0))]) (L := o.o 50 (rv l)) (T := []) h (List.mem_cons_self ..)); rw [show ((withI l x : Nat) : Int) = (fidx (pGt x) l) by unfold withI; first | (rw [if_pos c1]; done) | (rw [if_neg c1]; omega) | (split <;> omega)] at h9; exact h9)) ?_
    rintro o2 ko2
    refine CfgL.pure 1 [] (some [4]) (Γ' := [(4, [], .slice (Own.a o2) ((l.length + 1)) (Own.c o2))]) (nd := (fun _ => [])) (by kernel_rfl) (fun _ => by kernel_rfl) trivial ?_
    refine CfgL.done rfl ?_
    refine Cfg.ret rfl (rs := [.tmp 4]) rfl [.slice (Own.a o2) ((l.length + 1)) (Own.c o2)] ⟨by kernel_rfl, trivial⟩ (fun w1 hp => ?_)
    exact ⟨o2, ko2, rfl, _, by have h9 := hp.sub (List.sublist_append_right _ _); rw [List.append_nil] at h9; exact h9⟩

end Go.Proofs.Ytejgpniaoccpoaa
