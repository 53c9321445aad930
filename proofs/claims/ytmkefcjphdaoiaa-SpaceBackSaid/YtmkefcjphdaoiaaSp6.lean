/- space: whether a sector is free. -/
import Derived.Test.YtmkefcjphdaoiaaSp4
namespace Go.Proofs.Ytmkefcjphdaoiaa
open K
set_option linter.unusedVariables false

theorem in_lt {f q : Int} {n : Nat} (h : inP f n q = true) : f ≤ q ∧ q < f + (n : Int) := by simpa [inP] using h

set_option maxRecDepth 100000 in
theorem isC (s b cp : Nat) (jk : List Value) (f q : Int) (fr : List Bool) (w : World) (hf : I64 f) (hq : I64 q) (hm : fr.length ≤ 4096) (hR : Has w (spC s f (b, cp, jk) fr)) :
    Calls Try.prog 15 #[.pointer (some ⟨s, 0, none⟩), .int .i64 q] w fun e w' => e = .returned (.bool (inP f fr.length q && fr.getD (q - f).toNat false)) ∧ Ext [] w w' := by
  refine enter (vs := [.pointer (some ⟨s, 0, none⟩), .int .i64 q]) [] [(s, .cells #[.int .i64 f, .slice (some ⟨b, 0, none⟩) fr.length cp] 94 (0, 0)), (b, .cells ((rb fr ++ jk).toArray) 4 (0, 0))] [] Try.func15 rfl (by kernel_rfl) (HP.ofHas hR) ?_
  refine Cfg.reg rfl [0, 1] [] (Γ' := [(0, [], .pointer (some ⟨s, 0, none⟩)), (1, [], .int .i64 q)]) (nd := (fun _ => [])) (fun _ => by kernel_rfl) trivial ?_
  refine Cfg.begL rfl ?_
  refine CfgL.pure 2 [] none (Γ' := [(9, [], .int .i64 q), (8, [], .pointer (some ⟨s, 0, none⟩)), (0, [], .pointer (some ⟨s, 0, none⟩)), (1, [], .int .i64 q)]) (nd := (fun _ => [])) (by kernel_rfl) (fun _ => by kernel_rfl) trivial ?_
  refine CfgL.eff (o := _) rfl (by kernel_rfl) (by kernel_rfl) (Eff.callA (vs := [.pointer (some ⟨s, 0, none⟩), .int .i64 q]) (.tuple #[.int .i64 (if inP f fr.length q then q - f else 0), .bool (inP f fr.length q)]) rfl Try.func55 rfl rfl (by kernel_rfl) (fun w1 h => place s f q (some (b, cp, jk)) fr w1 hf hq hm (h.hasR (fun e he => by rw [List.mem_singleton.1 he]; exact List.mem_cons_self ..)))) ?_
  rintro ⟨⟩ -
  refine CfgL.pure 5 [] (some [0, 5, 6]) (Γ' := [(6, [], .bool (inP f fr.length q)), (5, [], .int .i64 (if inP f fr.length q then q - f else 0)), (0, [], .pointer (some ⟨s, 0, none⟩))]) (nd := (fun _ => [])) (by kernel_rfl) (fun _ => by kernel_rfl) trivial ?_
  refine CfgL.done rfl ?_
  refine Cfg.reg rfl [4] [(0, false, none), (0, false, none), (0, false, none), (0, false, none), (0, false, none), (0, false, some (.slice (some ⟨b, 0, none⟩) fr.length cp)), (0, false, none), (0, false, none), (0, false, some (.bool (fr.getD (q - f).toNat false)))] (Γ' := [(4, [], .bool ((inP f fr.length q) && (fr.getD (q - f).toNat false)))]) (nd := (fun S => [((.bool (inP f fr.length q) : Value) = .bool true → (∀ w1, S w1 → w1.cell? ⟨s, 1, none⟩ = some (.slice (some ⟨b, 0, none⟩) fr.length cp))), ((.bool (inP f fr.length q) : Value) = .bool true → (0 ≤ (if inP f fr.length q then q - f else 0) ∧ (if inP f fr.length q then q - f else 0) < (fr.length : Int))), ((.bool (inP f fr.length q) : Value) = .bool true → (∀ w1, S w1 → w1.cell? ⟨b, ((if inP f fr.length q then q - f else 0)).toNat, none⟩ = some (.bool (fr.getD (q - f).toNat false))))])) (fun _ => by kernel_rfl) ⟨(fun g0 => have q0 : ((inP f fr.length q) = true) := (boolV g0); (fun w1 h => h.rcell 0 rfl rfl)), (fun g0 => have q0 : ((inP f fr.length q) = true) := (boolV g0); (by have := in_lt q0; rw [if_pos q0]; omega)), (fun g0 => have q0 : ((inP f fr.length q) = true) := (boolV g0); (fun w1 h => by have := in_lt q0; rw [if_pos q0]; exact h.rcell 1 rfl (rb_cell fr jk (by omega)))), trivial⟩ ?_
  refine Cfg.ret rfl (rs := [.tmp 4]) rfl [.bool ((inP f fr.length q) && (fr.getD (q - f).toNat false))] ⟨by kernel_rfl, trivial⟩ (fun w1 hp => ?_)
  exact ⟨rfl, hp.ext⟩

set_option maxRecDepth 100000 in
theorem claimC (s b cp : Nat) (jk : List Value) (f : Int) (fr : List Bool) (la : Option Addr) (cap : Nat) (l : List (Int × Int)) (Rl : List (Nat × Obj)) (w : World) (hf : I64 f) (hm : fr.length ≤ 4096) (hn : 0 < fr.length) (hI : InS Rl la (2 * l.length) (rcell l)) (hl : l.length ≤ maxLen) (h1 : ∀ i, I64 (ra l i)) (h2 : ∀ i, I64 (rl l i)) (hA : Has w (spC s f (b, cp, jk) fr)) (hd : ((spC s f (b, cp, jk) fr).map (·.1)).Nodup) (hRl : Has w Rl) (hnr : ∀ e ∈ Rl, e.1 ∉ (spC s f (b, cp, jk) fr).map (·.1)) :
    Calls Try.prog 12 #[.pointer (some ⟨s, 0, none⟩), .slice la l.length cap] w fun e w' => ∃ x : Nat × Nat × List Value, e = .returned (.int .i64 ((turnF f fr.length false l fr).1 : Int)) ∧ ∃ R1, HP w [s, b] R1 (spC s f x (turnR f false l fr)) w' := by
  refine enter (vs := [.pointer (some ⟨s, 0, none⟩), .slice la l.length cap]) [s, b] Rl [(s, .cells #[.int .i64 f, .slice (some ⟨b, 0, none⟩) fr.length cp] 94 (0, 0)), (b, .cells ((rb fr ++ jk).toArray) 4 (0, 0))] Try.func12 rfl (by kernel_rfl) (HP.ofL hA hd hRl hnr) ?_
  refine Cfg.reg rfl [0, 1] [] (Γ' := [(0, [], .pointer (some ⟨s, 0, none⟩)), (1, [], .slice la l.length cap)]) (nd := (fun _ => [])) (fun _ => by kernel_rfl) trivial ?_
  refine Cfg.begL rfl ?_
  refine CfgL.pure 2 [] none (Γ' := [(6, [], .slice la l.length cap), (5, [], .pointer (some ⟨s, 0, none⟩)), (0, [], .pointer (some ⟨s, 0, none⟩)), (1, [], .slice la l.length cap)]) (nd := (fun _ => [])) (by kernel_rfl) (fun _ => by kernel_rfl) trivial ?_
  refine CfgL.eff (o := _) rfl (by kernel_rfl) (by kernel_rfl) (Eff.callH (vs := [.pointer (some ⟨s, 0, none⟩), .bool false, .slice la l.length cap]) (fun _ : Nat × Nat × List Value => .int .i64 ((turnF f fr.length false l fr).1 : Int)) (spC s f (b, cp, jk) fr) (fun x => spC s f x (turnR f false l fr)) (fun _ => True) [] [] rfl rfl Try.func53 rfl rfl (by kernel_rfl) (fun w1 h hA1 hd1 => (turnC s b cp jk f fr false la cap l Rl w1 hf hm hn hI hl h1 h2 hA1 hd1 (h.hasR (fun e he => he)) hnr).mono fun e w2 hx => by obtain ⟨x, he, R1, hq⟩ := hx; exact ⟨x, trivial, he, R1, hq⟩)) ?_
  rintro xq -
  refine CfgL.pure 1 [] (some [4]) (Γ' := [(4, [], .int .i64 ((turnF f fr.length false l fr).1 : Int))]) (nd := (fun _ => [])) (by kernel_rfl) (fun _ => by kernel_rfl) trivial ?_
  refine CfgL.done rfl ?_
  refine Cfg.ret rfl (rs := [.tmp 4]) rfl [.int .i64 ((turnF f fr.length false l fr).1 : Int)] ⟨by kernel_rfl, trivial⟩ (fun w1 hp => ?_)
  have h3 : HP w [s, b] Rl ([] ++ (spC s f xq (turnR f false l fr) ++ [])) w1 := hp
  rw [List.nil_append, List.append_nil] at h3
  exact ⟨xq, rfl, _, h3⟩

set_option maxRecDepth 100000 in
theorem giveC (s b cp : Nat) (jk : List Value) (f : Int) (fr : List Bool) (la : Option Addr) (cap : Nat) (l : List (Int × Int)) (Rl : List (Nat × Obj)) (w : World) (hf : I64 f) (hm : fr.length ≤ 4096) (hn : 0 < fr.length) (hI : InS Rl la (2 * l.length) (rcell l)) (hl : l.length ≤ maxLen) (h1 : ∀ i, I64 (ra l i)) (h2 : ∀ i, I64 (rl l i)) (hA : Has w (spC s f (b, cp, jk) fr)) (hd : ((spC s f (b, cp, jk) fr).map (·.1)).Nodup) (hRl : Has w Rl) (hnr : ∀ e ∈ Rl, e.1 ∉ (spC s f (b, cp, jk) fr).map (·.1)) :
    Calls Try.prog 18 #[.pointer (some ⟨s, 0, none⟩), .slice la l.length cap] w fun e w' => ∃ x : Nat × Nat × List Value, e = .returned (.int .i64 ((turnF f fr.length true l fr).1 : Int)) ∧ ∃ R1, HP w [s, b] R1 (spC s f x (turnR f true l fr)) w' := by
  refine enter (vs := [.pointer (some ⟨s, 0, none⟩), .slice la l.length cap]) [s, b] Rl [(s, .cells #[.int .i64 f, .slice (some ⟨b, 0, none⟩) fr.length cp] 94 (0, 0)), (b, .cells ((rb fr ++ jk).toArray) 4 (0, 0))] Try.func18 rfl (by kernel_rfl) (HP.ofL hA hd hRl hnr) ?_
  refine Cfg.reg rfl [0, 1] [] (Γ' := [(0, [], .pointer (some ⟨s, 0, none⟩)), (1, [], .slice la l.length cap)]) (nd := (fun _ => [])) (fun _ => by kernel_rfl) trivial ?_
  refine Cfg.begL rfl ?_
  refine CfgL.pure 2 [] none (Γ' := [(6, [], .slice la l.length cap), (5, [], .pointer (some ⟨s, 0, none⟩)), (0, [], .pointer (some ⟨s, 0, none⟩)), (1, [], .slice la l.length cap)]) (nd := (fun _ => [])) (by kernel_rfl) (fun _ => by kernel_rfl) trivial ?_
  refine CfgL.eff (o := _) rfl (by kernel_rfl) (by kernel_rfl) (Eff.callH (vs := [.pointer (some ⟨s, 0, none⟩), .bool true, .slice la l.length cap]) (fun _ : Nat × Nat × List Value => .int .i64 ((turnF f fr.length true l fr).1 : Int)) (spC s f (b, cp, jk) fr) (fun x => spC s f x (turnR f true l fr)) (fun _ => True) [] [] rfl rfl Try.func53 rfl rfl (by kernel_rfl) (fun w1 h hA1 hd1 => (turnC s b cp jk f fr true la cap l Rl w1 hf hm hn hI hl h1 h2 hA1 hd1 (h.hasR (fun e he => he)) hnr).mono fun e w2 hx => by obtain ⟨x, he, R1, hq⟩ := hx; exact ⟨x, trivial, he, R1, hq⟩)) ?_
  rintro xq -
  refine CfgL.pure 1 [] (some [4]) (Γ' := [(4, [], .int .i64 ((turnF f fr.length true l fr).1 : Int))]) (nd := (fun _ => [])) (by kernel_rfl) (fun _ => by kernel_rfl) trivial ?_
  refine CfgL.done rfl ?_
  refine Cfg.ret rfl (rs := [.tmp 4]) rfl [.int .i64 ((turnF f fr.length true l fr).1 : Int)] ⟨by kernel_rfl, trivial⟩ (fun w1 hp => ?_)
  have h3 : HP w [s, b] Rl ([] ++ (spC s f xq (turnR f true l fr) ++ [])) w1 := hp
  rw [List.nil_append, List.append_nil] at h3
  exact ⟨xq, rfl, _, h3⟩

end Go.Proofs.Ytmkefcjphdaoiaa
