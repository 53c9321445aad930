/- space: Take, of a space that has sectors. -/
import Derived.Test.YtmkefcjphdaoiaaSp8
namespace Go.Proofs.Ytmkefcjphdaoiaa
open K
set_option linter.unusedVariables false

def tkG (f : Int) (fr : List Bool) (n : Int) : Option (Nat × Nat) → Int × Nat × List Bool
  | none => (0, 0, fr)
  | some r => (f + (r.1 : Int), (turnF f fr.length false [(f + (r.1 : Int), n)] fr).1, turnR f false [(f + (r.1 : Int), n)] fr)
/-- What Take answers, and what is free then. -/
def takeF (f : Int) (fr : List Bool) (n : Int) : Int × Nat × List Bool :=
  if n < 1 then (0, 2, fr) else match (runsAt fr 0).find? (fun r => decide (n ≤ (r.2 : Int))) with
    | none => (0, 14, fr)
    | some r => tkG f fr n (some r)
abbrev TS := Int × Nat × List Bool × Nat × Nat × List Value
def TJ (f : Int) (fr : List Bool) (n : Int) (b cp : Nat) (jk : List Value) (pre : List (Nat × Nat)) (z : TS) : Prop :=
  (z.1, z.2.1, z.2.2.1) = tkG f fr n (pre.find? fun r => decide (n ≤ (r.2 : Int))) ∧ (pre.find? (fun r => decide (n ≤ (r.2 : Int))) = none → z.2.2.2 = (b, cp, jk))
def tkP (n : Int) (r : Nat × Nat) : Bool := !decide (n ≤ (r.2 : Int))
theorem tk_none {n : Int} {pre : List (Nat × Nat)} (h : ∀ y ∈ pre, tkP n y = true) : pre.find? (fun r => decide (n ≤ (r.2 : Int))) = none := by
  rw [List.find?_eq_none]
  intro x hx
  have := h x hx
  simpa [tkP] using this
theorem tk_some {n : Int} {pre rest : List (Nat × Nat)} {a : Nat × Nat} (h : ∀ y ∈ pre, tkP n y = true) (ha : tkP n a = false) : (pre ++ a :: rest).find? (fun r => decide (n ≤ (r.2 : Int))) = some a := by
  rw [List.find?_append, tk_none h]
  have : n ≤ (a.2 : Int) := by simpa [tkP] using ha
  simp [this]
section
variable {f : Int} {fr : List Bool} {n : Int} {b cp : Nat} {jk : List Value} {pre : List (Nat × Nat)} {a : Nat × Nat}
theorem TJ_none {a1 : Int} {e1 : Nat} {f2 : List Bool} {xb xc : Nat} {xj : List Value} (h : TJ f fr n b cp jk pre (a1, e1, f2, xb, xc, xj)) (hp : ∀ y ∈ pre, tkP n y = true) : 0 = a1 ∧ 0 = e1 ∧ fr = f2 ∧ b = xb ∧ cp = xc ∧ jk = xj := by
  obtain ⟨h1, h2⟩ := h
  rw [tk_none hp] at h1
  have h3 := h2 (tk_none hp)
  simp only [tkG, Prod.mk.injEq] at h1 h3
  exact ⟨h1.1.symm, h1.2.1.symm, h1.2.2.symm, h3.1.symm, h3.2.1.symm, h3.2.2.symm⟩
theorem TJ_keep (hp : ∀ y ∈ pre, tkP n y = true) : TJ f fr n b cp jk pre (0, 0, fr, b, cp, jk) := ⟨by rw [tk_none hp]; rfl, fun _ => rfl⟩
theorem TJ_stop {x : Nat × Nat × List Value} (hp : ∀ y ∈ pre, tkP n y = true) (ha : tkP n a = false) : TJ f fr n b cp jk (pre ++ [a]) (f + (a.1 : Int), (turnF f fr.length false [(f + (a.1 : Int), n)] fr).1, turnR f false [(f + (a.1 : Int), n)] fr, x) :=
  ⟨by rw [tk_some hp ha]; rfl, fun h => by rw [tk_some hp ha] at h; cases h⟩
theorem TJ_end {a1 : Int} {e1 : Nat} {f2 : List Bool} {x : Nat × Nat × List Value} (h : TJ f fr n b cp jk (pre ++ [a]) (a1, e1, f2, x)) (hp : ∀ y ∈ pre, tkP n y = true) (ha : tkP n a = false) : (a1, e1, f2) = tkG f fr n (some a) := by
  have h1 := h.1
  rw [tk_some hp ha] at h1
  exact h1
theorem all_snoc {p : Nat × Nat → Bool} (hp : ∀ y ∈ pre, p y = true) (ha : p a = true) : ∀ y ∈ pre ++ [a], p y = true := fun y hy => by
  rcases List.mem_append.1 hy with hy | hy
  · exact hp y hy
  · rw [List.mem_singleton.1 hy]; exact ha
end
theorem takeF_low {f : Int} {fr : List Bool} {n : Int} (h : n < 1) : takeF f fr n = (0, 2, fr) := by unfold takeF; rw [if_pos h]
theorem takeF_none {f : Int} {fr : List Bool} {n : Int} (h : ¬ n < 1) (hp : ∀ y ∈ runsAt fr 0, tkP n y = true) : takeF f fr n = (0, 14, fr) := by unfold takeF; rw [if_neg h, tk_none hp]
theorem takeF_some {f : Int} {fr : List Bool} {n : Int} (h : ¬ n < 1) {pre rest : List (Nat × Nat)} {a : Nat × Nat} (hi : runsAt fr 0 = pre ++ a :: rest) (hp : ∀ y ∈ pre, tkP n y = true) (ha : tkP n a = false) : takeF f fr n = tkG f fr n (some a) := by unfold takeF; rw [if_neg h, hi, tk_some hp ha]
theorem ins1 (zl t : Nat) (a n : Int) : InS [(zl, .cells #[.int .i64 a, .int .i64 n] t (0, 0))] (some ⟨zl, 0, none⟩) (2 * [(a, n)].length) (rcell [(a, n)]) := by
  intro _
  refine ⟨zl, 0, _, t, (0, 0), rfl, List.mem_cons_self .., fun j hj => ?_⟩
  have hj2 : j < 2 := hj
  match j, hj2 with
  | 0, _ => rfl
  | 1, _ => rfl
theorem ra1 {a n : Int} (h : I64 a) (i : Nat) : I64 (ra [(a, n)] i) := by
  cases i with
  | zero => exact h
  | succ i => exact ⟨by simp [ra], by simp [ra]⟩
theorem rl1 {a n : Int} (h : I64 n) (i : Nat) : I64 (rl [(a, n)] i) := by
  cases i with
  | zero => exact h
  | succ i => exact ⟨by simp [rl], by simp [rl]⟩

set_option maxRecDepth 100000 in
theorem takeC (s b cp : Nat) (jk : List Value) (f : Int) (fr : List Bool) (n : Int) (w : World) (hf : -9223372036854775808 ≤ f ∧ f + fr.length ≤ 9223372036854775807) (hm : fr.length ≤ 4096) (h0 : 0 < fr.length) (hn : I64 n) (hA : Has w (spC s f (b, cp, jk) fr)) (hd : ((spC s f (b, cp, jk) fr).map (·.1)).Nodup) :
    Calls Try.prog 14 #[.pointer (some ⟨s, 0, none⟩), .int .i64 n] w fun e w' => ∃ x, e = .returned (.tuple #[.int .i64 (takeF f fr n).1, .int .i64 ((takeF f fr n).2.1 : Int)]) ∧ ∃ R1, HP w [s, b] R1 (spC s f x (takeF f fr n).2.2) w' := by
  have hf2 : I64 f := ⟨hf.1, by omega⟩
  have hn2 := hn
  unfold I64 at hn2
  refine enterM (vs := [.pointer (some ⟨s, 0, none⟩), .int .i64 n]) [s, b] [] [(s, .cells #[.int .i64 f, .slice (some ⟨b, 0, none⟩) fr.length cp] 94 (0, 0)), (b, .cells ((rb fr ++ jk).toArray) 4 (0, 0))] Try.func14 rfl (by kernel_rfl) (HP.ofL hA hd (fun e he => by cases he) (fun e he => by cases he)) ?_
  refine Cfg.begL rfl ?_
  refine CfgL.eff (o := _) rfl (by kernel_rfl) (by kernel_rfl) (Eff.box (v := .pointer (some ⟨s, 0, none⟩)) rfl (by kernel_rfl)) ?_
  rintro zs ⟨hzs, nzs⟩
  refine CfgL.eff (o := _) rfl (by kernel_rfl) (by kernel_rfl) (Eff.box (v := .int .i64 n) rfl (by kernel_rfl)) ?_
  rintro zn ⟨hzn, nzn⟩
  refine CfgL.eff (o := _) rfl (by kernel_rfl) (by kernel_rfl) (Eff.alloc (z := (.int .i64 0)) rfl (by kernel_rfl)) ?_
  rintro za ⟨hza, nza⟩
  refine CfgL.eff (o := _) rfl (by kernel_rfl) (by kernel_rfl) (Eff.alloc (z := (.int .i64 0)) rfl (by kernel_rfl)) ?_
  rintro ze ⟨hze, nze⟩
  refine CfgL.done rfl ?_
  refine Conv.cfg (Γ' := [(5, [], .pointer (some ⟨ze, 0, none⟩)), (4, [], .pointer (some ⟨za, 0, none⟩)), (3, [], .pointer (some ⟨zn, 0, none⟩)), (2, [], .pointer (some ⟨zs, 0, none⟩))]) (Conv.mk (by kernel_rfl)) ?_
  refine Cfg.reg rfl [2, 3, 4, 5, 8] [(0, false, some (.pointer (some ⟨s, 0, none⟩)))] (Γ' := [(8, [], .bool false), (5, [], .pointer (some ⟨ze, 0, none⟩)), (4, [], .pointer (some ⟨za, 0, none⟩)), (3, [], .pointer (some ⟨zn, 0, none⟩)), (2, [], .pointer (some ⟨zs, 0, none⟩))]) (nd := (fun S => [(∀ w1, S w1 → w1.cell? ⟨zs, 0, none⟩ = some (.pointer (some ⟨s, 0, none⟩)))])) (fun _ => by kernel_rfl) ⟨(fun w1 h => h.ocell 3 rfl rfl), trivial⟩ ?_
  refine Cfg.condF rfl (b := false) (by kernel_rfl) rfl ?_
  refine Cfg.reg rfl [2, 3, 4, 5, 10] [(0, false, some (.int .i64 n))] (Γ' := [(10, [], .bool (decide (n < (1 : Int)))), (5, [], .pointer (some ⟨ze, 0, none⟩)), (4, [], .pointer (some ⟨za, 0, none⟩)), (3, [], .pointer (some ⟨zn, 0, none⟩)), (2, [], .pointer (some ⟨zs, 0, none⟩))]) (nd := (fun S => [(∀ w1, S w1 → w1.cell? ⟨zn, 0, none⟩ = some (.int .i64 n))])) (fun _ => by kernel_rfl) ⟨(fun w1 h => h.ocell 2 rfl rfl), trivial⟩ ?_
  refine Cfg.cond rfl (b := (decide (n < (1 : Int)))) (by kernel_rfl) (fun c2r => ?_) (fun c2r => ?_)
  · have c2 : (n < (1 : Int)) := (of_decide_eq_true c2r)
    refine Cfg.begL rfl ?_
    refine CfgL.eff (o := _) rfl (by kernel_rfl) (by kernel_rfl) (Eff.store1 (b := za) (off := 0) (v := .int .i64 0) rfl (by kernel_rfl) (by kernel_rfl) rfl (by kernel_rfl) 1 (cs := #[.int .i64 0]) (e := 3) (by kernel_rfl) (by simp)) ?_
    rintro ⟨⟩ -
    refine CfgL.eff (o := _) rfl (by kernel_rfl) (by kernel_rfl) (Eff.store1 (b := ze) (off := 0) (v := .int .i64 2) rfl (by kernel_rfl) (by kernel_rfl) rfl (by kernel_rfl) 0 (cs := #[.int .i64 0]) (e := 28) (by kernel_rfl) (by simp)) ?_
    rintro ⟨⟩ -
    refine CfgL.done rfl ?_
    refine Conv.cfg (Γ' := [(5, [], .pointer (some ⟨ze, 0, none⟩)), (4, [], .pointer (some ⟨za, 0, none⟩))]) (Conv.mk (by kernel_rfl)) ?_
    refine Cfg.retM (O' := [(ze, .cells (#[.int .i64 0].setIfInBounds 0 (.int .i64 2)) 28 (0, 0)), (za, .cells (#[.int .i64 0].setIfInBounds 0 (.int .i64 0)) 3 (0, 0)), (zn, .cells #[.int .i64 n] 3 (0, 0)), (zs, .cells #[.pointer (some ⟨s, 0, none⟩)] 24 (0, 0)), (s, .cells #[.int .i64 f, .slice (some ⟨b, 0, none⟩) fr.length cp] 94 (0, 0)), (b, .cells ((rb fr ++ jk).toArray) 4 (0, 0))]) rfl (rs := [.cell 4 3, .cell 5 28]) rfl [.int .i64 0, .int .i64 2] (List.Sublist.refl _) ⟨⟨_, by kernel_rfl, fun w1 h => h.ovar 1 (off := 0) rfl (by kernel_rfl) rfl⟩, ⟨_, by kernel_rfl, fun w1 h => h.ovar 0 (off := 0) rfl (by kernel_rfl) rfl⟩, trivial⟩ (fun w1 hp => ?_)
    rw [takeF_low c2]
    exact ⟨(b, cp, jk), rfl, _, hp.sub (.cons _ (.cons _ (.cons _ (.cons _ (.cons_cons _ (.cons_cons _ .slnil))))))⟩
  · have c2 : (¬ (n < (1 : Int))) := (of_decide_eq_false c2r)
    have hlow : ¬ n < 1 := c2
    refine Cfg.begL rfl ?_
    refine CfgL.pure 1 [(0, false, some (.pointer (some ⟨s, 0, none⟩)))] none (Γ' := [(11, [], .pointer (some ⟨s, 0, none⟩)), (10, [], .bool (decide (n < (1 : Int)))), (5, [], .pointer (some ⟨ze, 0, none⟩)), (4, [], .pointer (some ⟨za, 0, none⟩)), (3, [], .pointer (some ⟨zn, 0, none⟩)), (2, [], .pointer (some ⟨zs, 0, none⟩))]) (nd := (fun S => [(∀ w1, S w1 → w1.cell? ⟨zs, 0, none⟩ = some (.pointer (some ⟨s, 0, none⟩)))])) (by kernel_rfl) (fun _ => by kernel_rfl) ⟨(fun w1 h => h.ocell 3 rfl rfl), trivial⟩ ?_
    refine CfgL.eff (o := _) rfl (by kernel_rfl) (by kernel_rfl) (Eff.callN (vs := [.pointer (some ⟨s, 0, none⟩)]) (fun tb => .func (.func 54) #[] #[.pointer (some ⟨tb, 0, none⟩)]) (fun tb => tb) (fun _ => .cells #[.pointer (some ⟨s, 0, none⟩)] 24 (0, 0)) (fun _ => True) rfl Try.func13 rfl rfl (by kernel_rfl) (fun w1 h => runsC s w1)) ?_
    rintro tb -
    refine CfgL.done rfl ?_
    refine Conv.cfg (Γ' := [(12, [], .func (.func 54) #[] #[.pointer (some ⟨tb, 0, none⟩)]), (5, [], .pointer (some ⟨ze, 0, none⟩)), (4, [], .pointer (some ⟨za, 0, none⟩)), (3, [], .pointer (some ⟨zn, 0, none⟩)), (2, [], .pointer (some ⟨zs, 0, none⟩))]) (Conv.mk (by kernel_rfl)) ?_
    refine Cfg.rangeJ rfl (caps := #[.pointer (some ⟨tb, 0, none⟩)]) (by kernel_rfl) Try.func54 (by kernel_rfl) rfl (by kernel_rfl) (runsIt tb s b cp jk f fr hf hm) (σ := TS) (fun (z : TS) => [(tb, .cells #[.pointer (some ⟨s, 0, none⟩)] 24 (0, 0)), (ze, .cells #[.int .i64 (z.2.1 : Int)] 28 (0, 0)), (za, .cells #[.int .i64 z.1] 3 (0, 0)), (zn, .cells #[.int .i64 n] 3 (0, 0)), (zs, .cells #[.pointer (some ⟨s, 0, none⟩)] 24 (0, 0)), (s, .cells #[.int .i64 f, .slice (some ⟨z.2.2.2.1, 0, none⟩) z.2.2.1.length z.2.2.2.2.1] 94 (0, 0)), (z.2.2.2.1, .cells ((rb z.2.2.1 ++ z.2.2.2.2.2).toArray) 4 (0, 0))]) (TJ f fr n b cp jk) (0, 0, fr, b, cp, jk) (TJ_keep (fun y hy => by cases hy)) [] (by rfl) (fun e he => by cases he) (fun w1 h => List.nodup_nil) (fun (z : TS) => [(tb, .cells #[.pointer (some ⟨s, 0, none⟩)] 24 (0, 0)), (ze, .cells #[.int .i64 (z.2.1 : Int)] 28 (0, 0)), (za, .cells #[.int .i64 z.1] 3 (0, 0)), (zn, .cells #[.int .i64 n] 3 (0, 0)), (zs, .cells #[.pointer (some ⟨s, 0, none⟩)] 24 (0, 0)), (s, .cells #[.int .i64 f, .slice (some ⟨z.2.2.2.1, 0, none⟩) z.2.2.1.length z.2.2.2.2.1] 94 (0, 0)), (z.2.2.2.1, .cells ((rb z.2.2.1 ++ z.2.2.2.2.2).toArray) 4 (0, 0))]) (fun _ => rfl) (tkP n) (fun pre x hp hx e he => by obtain ⟨a1, e1, fr2, xb, xc, xj⟩ := x; obtain ⟨rfl, rfl, rfl, rfl, rfl, rfl⟩ := TJ_none hx hp; exact List.Sublist.subset (.cons_cons _ (.cons _ (.cons _ (.cons _ (.cons _ (.cons_cons _ (.cons_cons _ .slnil))))))) he) (.ret) rfl ?_ ?_ ?_
    · intro l ob1 ob2 w2 M2 pre ⟨a1, e1, fr2, xb, xc, xj⟩ ⟨k, m⟩ rest hal hJx hit
      obtain ⟨rfl, rfl, rfl, rfl, rfl, rfl⟩ := TJ_none hJx hal
      have hkm := runs_in (show (k, m) ∈ runsAt fr 0 by rw [hit]; simp)
      simp only at hkm
      have hfk : I64 (f + (k : Int)) := ⟨by omega, by omega⟩
      refine ⟨Nat, fun _ => True, fun (zy : Nat) => [(6, [], .pointer (some ⟨zy, 0, none⟩)), (5, [], .pointer (some ⟨ze, 0, none⟩)), (4, [], .pointer (some ⟨za, 0, none⟩)), (3, [], .pointer (some ⟨zn, 0, none⟩)), (2, [], .pointer (some ⟨zs, 0, none⟩))], fun (zy : Nat) => [(zy, .cells #[.int .i64 (f + (k : Int)), .int .i64 (m : Int)] 27 (0, 0)), (tb, .cells #[.pointer (some ⟨s, 0, none⟩)] 24 (0, 0)), (ze, .cells #[.int .i64 (0 : Int)] 28 (0, 0)), (za, .cells #[.int .i64 0] 3 (0, 0)), (zn, .cells #[.int .i64 n] 3 (0, 0)), (zs, .cells #[.pointer (some ⟨s, 0, none⟩)] 24 (0, 0)), (s, .cells #[.int .i64 f, .slice (some ⟨b, 0, none⟩) fr.length cp] 94 (0, 0)), (b, .cells ((rb fr ++ jk).toArray) 4 (0, 0))], ?_, ?_⟩
      ·
        refine Cfg.begL rfl ?_
        refine CfgL.eff (o := _) rfl (by kernel_rfl) (by kernel_rfl) (Eff.alloc (z := (.agg #[.int .i64 0, .int .i64 0])) rfl (by kernel_rfl)) ?_
        rintro zy ⟨hzy, nzy⟩
        refine CfgL.eff (o := _) rfl (by kernel_rfl) (by kernel_rfl) (Eff.storeN (b := zy) (off := 0) (vs := #[.int .i64 (f + (k : Int)), .int .i64 (m : Int)]) (n := 2) rfl (by kernel_rfl) (by kernel_rfl) (by kernel_rfl) rfl (two_one rfl rfl) 0 (cs := #[.int .i64 0, .int .i64 0]) (e := 27) (by kernel_rfl) (Nat.le_refl 2)) ?_
        rintro ⟨⟩ -
        refine CfgL.setO (O' := [(zy, .cells #[.int .i64 (f + (k : Int)), .int .i64 (m : Int)] 27 (0, 0)), (l, ob1), (tb, .cells #[.pointer (some ⟨s, 0, none⟩)] 24 (0, 0)), (ze, .cells #[.int .i64 (0 : Int)] 28 (0, 0)), (za, .cells #[.int .i64 0] 3 (0, 0)), (zn, .cells #[.int .i64 n] 3 (0, 0)), (zs, .cells #[.pointer (some ⟨s, 0, none⟩)] 24 (0, 0)), (s, .cells #[.int .i64 f, .slice (some ⟨b, 0, none⟩) fr.length cp] 94 (0, 0)), (b, .cells ((rb fr ++ jk).toArray) 4 (0, 0))]) (congrArg (fun (xq : Array Value) => ([(zy, .cells xq 27 (0, 0)), (l, ob1), (tb, .cells #[.pointer (some ⟨s, 0, none⟩)] 24 (0, 0)), (ze, .cells #[.int .i64 (0 : Int)] 28 (0, 0)), (za, .cells #[.int .i64 0] 3 (0, 0)), (zn, .cells #[.int .i64 n] 3 (0, 0)), (zs, .cells #[.pointer (some ⟨s, 0, none⟩)] 24 (0, 0)), (s, .cells #[.int .i64 f, .slice (some ⟨b, 0, none⟩) fr.length cp] 94 (0, 0)), (b, .cells ((rb fr ++ jk).toArray) 4 (0, 0))] : List (Nat × Obj))) (rfl)) ?_
        refine CfgL.done rfl ?_
        refine Conv.cfg (Γ' := [(6, [], .pointer (some ⟨zy, 0, none⟩)), (5, [], .pointer (some ⟨ze, 0, none⟩)), (4, [], .pointer (some ⟨za, 0, none⟩)), (3, [], .pointer (some ⟨zn, 0, none⟩)), (2, [], .pointer (some ⟨zs, 0, none⟩))]) (Conv.mk (by kernel_rfl)) ?_
        refine Cfg.permO (O' := [(l, ob1), (zy, .cells #[.int .i64 (f + (k : Int)), .int .i64 (m : Int)] 27 (0, 0)), (tb, .cells #[.pointer (some ⟨s, 0, none⟩)] 24 (0, 0)), (ze, .cells #[.int .i64 (0 : Int)] 28 (0, 0)), (za, .cells #[.int .i64 0] 3 (0, 0)), (zn, .cells #[.int .i64 n] 3 (0, 0)), (zs, .cells #[.pointer (some ⟨s, 0, none⟩)] 24 (0, 0)), (s, .cells #[.int .i64 f, .slice (some ⟨b, 0, none⟩) fr.length cp] 94 (0, 0)), (b, .cells ((rb fr ++ jk).toArray) 4 (0, 0))]) (List.Perm.swap _ _ _) ?_
        refine Cfg.mid rfl zy trivial (Conv.mk (by kernel_rfl)) (List.Sublist.refl _)
      · rintro zy -
        refine Cfg.reg rfl [2, 3, 4, 5, 6, 17] [(0, false, none), (0, false, some (.int .i64 (m : Int))), (0, false, some (.int .i64 n))] (Γ' := [(17, [], .bool (decide ((m : Int) ≥ n))), (6, [], .pointer (some ⟨zy, 0, none⟩)), (5, [], .pointer (some ⟨ze, 0, none⟩)), (4, [], .pointer (some ⟨za, 0, none⟩)), (3, [], .pointer (some ⟨zn, 0, none⟩)), (2, [], .pointer (some ⟨zs, 0, none⟩))]) (nd := (fun S => [(∀ w1, S w1 → w1.cell? ⟨zy, 1, none⟩ = some (.int .i64 (m : Int))), (∀ w1, S w1 → w1.cell? ⟨zn, 0, none⟩ = some (.int .i64 n))])) (fun _ => by kernel_rfl) ⟨(fun w1 h => h.ocell 1 rfl rfl), (fun w1 h => h.ocell 5 rfl rfl), trivial⟩ ?_
        refine Cfg.cond rfl (b := (decide ((m : Int) ≥ n))) (by kernel_rfl) (fun c3r => ?_) (fun c3r => ?_)
        · have c3 : ((m : Int) ≥ n) := (of_decide_eq_true c3r)
          refine Cfg.begA rfl (by kernel_rfl) [(l, ob2), (zy, .cells #[.int .i64 (f + (k : Int)), .int .i64 (m : Int)] 27 (0, 0)), (tb, .cells #[.pointer (some ⟨s, 0, none⟩)] 24 (0, 0)), (zn, .cells #[.int .i64 n] 3 (0, 0)), (zs, .cells #[.pointer (some ⟨s, 0, none⟩)] 24 (0, 0))] ?_
          refine CfgA.pure [0, 1, 2, 3, 4, 5, 6] [(0, false, none), (0, false, some (.int .i64 (f + (k : Int)))), (0, false, some (.pointer (some ⟨s, 0, none⟩))), (0, false, none), (0, false, some (.int .i64 (f + (k : Int)))), (0, false, some (.int .i64 n)), (0, false, some (.agg #[.int .i64 (f + (k : Int)), .int .i64 n]))] none (l' := #[true, true, true, true, true, true, true, false, false, false, false]) (by kernel_rfl) (by kernel_rfl) (.cons_cons _ (.cons_cons _ (.cons_cons _ (.cons _ (.cons _ (.cons_cons _ (.cons_cons _ (.cons _ (.cons _ .slnil))))))))) 4 rfl (Γ' := [(24, [], .agg #[.int .i64 (f + (k : Int)), .int .i64 n]), (23, [], .int .i64 n), (22, [], .int .i64 (f + (k : Int))), (21, [], .pointer (some ⟨zy, 0, none⟩)), (20, [], .pointer (some ⟨s, 0, none⟩)), (19, [], .int .i64 (f + (k : Int))), (18, [], .pointer (some ⟨zy, 0, none⟩)), (17, [], .bool (decide ((m : Int) ≥ n))), (6, [], .pointer (some ⟨zy, 0, none⟩)), (5, [], .pointer (some ⟨ze, 0, none⟩)), (4, [], .pointer (some ⟨za, 0, none⟩)), (3, [], .pointer (some ⟨zn, 0, none⟩)), (2, [], .pointer (some ⟨zs, 0, none⟩))]) (nd := (fun S => [(∀ w1, S w1 → w1.cell? ⟨zy, 0, none⟩ = some (.int .i64 (f + (k : Int)))), (∀ w1, S w1 → w1.cell? ⟨zs, 0, none⟩ = some (.pointer (some ⟨s, 0, none⟩))), (∀ w1, S w1 → w1.cell? ⟨zy, 0, none⟩ = some (.int .i64 (f + (k : Int)))), (∀ w1, S w1 → w1.cell? ⟨zn, 0, none⟩ = some (.int .i64 n)), (∀ w1, S w1 → (Instr.build 27 #[(0, .int .i64 (f + (k : Int))), (1, .int .i64 n)]).run Try.prog w1 = .ok (.agg #[.int .i64 (f + (k : Int)), .int .i64 n]) w1)])) (fun _ => by kernel_rfl) ⟨(fun w1 h => h.ocell 1 rfl rfl), (fun w1 h => h.ocell 4 rfl rfl), (fun w1 h => h.ocell 1 rfl rfl), (fun w1 h => h.ocell 3 rfl rfl), (fun _ _ => by kernel_rfl), trivial⟩ ?_
          refine CfgA.eff 7 (o := _) rfl (by kernel_rfl) (fuel' := 3) rfl (by kernel_rfl) (by kernel_rfl) (Eff.buildAgg (vs := #[.int .i64 (f + (k : Int)), .int .i64 n]) (n := 2) rfl (by kernel_rfl) Try.underlying22 (by kernel_rfl) (z := (.agg #[.int .i64 0, .int .i64 0])) (by kernel_rfl) rfl (by decide) (by decide)) (fun _ _ => (.cons _ (.cons_cons _ (.cons_cons _ (.cons_cons _ (.cons _ (.cons _ (.cons_cons _ (.cons_cons _ (.cons _ (.cons _ .slnil))))))))))) ?_
          rintro zl ⟨hzl, nzl⟩
          refine CfgA.eff 8 (o := _) rfl (by kernel_rfl) (fuel' := 2) rfl (by kernel_rfl) (by kernel_rfl) (Eff.callH (vs := [.pointer (some ⟨s, 0, none⟩), .slice (some ⟨zl, 0, none⟩) 1 1]) (fun _ : Nat × Nat × List Value => .int .i64 ((turnF f fr.length false [(f + (k : Int), n)] fr).1 : Int)) (spC s f (b, cp, jk) fr) (fun x => spC s f x (turnR f false [(f + (k : Int), n)] fr)) (fun _ => True) [(zl, .cells #[.int .i64 (f + (k : Int)), .int .i64 n] 27 (0, 0)), (l, ob2), (zy, .cells #[.int .i64 (f + (k : Int)), .int .i64 (m : Int)] 27 (0, 0)), (tb, .cells #[.pointer (some ⟨s, 0, none⟩)] 24 (0, 0)), (ze, .cells #[.int .i64 (0 : Int)] 28 (0, 0)), (za, .cells #[.int .i64 0] 3 (0, 0)), (zn, .cells #[.int .i64 n] 3 (0, 0)), (zs, .cells #[.pointer (some ⟨s, 0, none⟩)] 24 (0, 0))] [] rfl rfl Try.func12 rfl rfl (by kernel_rfl) (fun w1 h hA1 hd1 => (claimC s b cp jk f fr (some ⟨zl, 0, none⟩) 1 [(f + (k : Int), n)] [(zl, .cells #[.int .i64 (f + (k : Int)), .int .i64 n] 27 (0, 0))] w1 hf2 hm h0 (ins1 zl 27 (f + (k : Int)) n) (by show 1 ≤ maxLen; decide) (ra1 hfk) (rl1 hn) hA1 hd1 (h.has (fun e he => by rw [List.mem_singleton.1 he]; exact List.mem_of_getElem? (i := 0) rfl)) (fun e he => by rw [List.mem_singleton.1 he]; simp only [spC, List.map_cons, List.map_nil, List.mem_cons, List.not_mem_nil, or_false, not_or]; exact ⟨h.ne 0 8 rfl rfl (by decide), h.ne 0 9 rfl rfl (by decide)⟩)).mono fun e w2 hx => by obtain ⟨x, he, R1, hq⟩ := hx; exact ⟨x, trivial, he, R1, hq⟩)) (fun _ _ => (.cons _ (.cons_cons _ (.cons_cons _ (.cons_cons _ (.cons _ (.cons _ (.cons_cons _ (.cons_cons _ (.cons _ (.cons _ .slnil))))))))))) ?_
          rintro ⟨xb, xc, xj⟩ -
          refine CfgA.eff 9 (o := _) rfl (by kernel_rfl) (fuel' := 1) rfl (by kernel_rfl) (by kernel_rfl) (Eff.store1 (b := za) (off := 0) (v := .int .i64 (f + (k : Int))) rfl (by kernel_rfl) (by kernel_rfl) rfl (by kernel_rfl) 5 (cs := #[.int .i64 0]) (e := 3) (by kernel_rfl) (by simp)) (fun _ _ => (.cons _ (.cons_cons _ (.cons_cons _ (.cons_cons _ (.cons _ (.cons _ (.cons_cons _ (.cons_cons _ (.cons _ (.cons _ .slnil))))))))))) ?_
          rintro ⟨⟩ -
          refine CfgA.eff 10 (o := _) rfl (by kernel_rfl) (fuel' := 0) rfl (by kernel_rfl) (by kernel_rfl) (Eff.store1 (b := ze) (off := 0) (v := .int .i64 ((turnF f fr.length false [(f + (k : Int), n)] fr).1 : Int)) rfl (by kernel_rfl) (by kernel_rfl) rfl (by kernel_rfl) 4 (cs := #[.int .i64 (0 : Int)]) (e := 28) (by kernel_rfl) (by simp)) (fun _ _ => (.cons _ (.cons_cons _ (.cons_cons _ (.cons_cons _ (.cons _ (.cons _ (.cons_cons _ (.cons_cons _ (.cons _ (.cons _ .slnil))))))))))) ?_
          rintro ⟨⟩ -
          refine CfgA.done (by kernel_rfl) ?_
          refine Conv.cfg (Γ' := [(5, [], .pointer (some ⟨ze, 0, none⟩)), (4, [], .pointer (some ⟨za, 0, none⟩))]) (Conv.mk (by kernel_rfl)) ?_
          refine Cfg.retR rfl (fun w1 hp => ?_)
          have hpa : tkP n (k, m) = false := by simp only [tkP]; simpa using c3
          exact ⟨(f + (k : Int), (turnF f fr.length false [(f + (k : Int), n)] fr).1, turnR f false [(f + (k : Int), n)] fr, xb, xc, xj), TJ_stop hal hpa, by rw [if_neg (by rw [hpa]; decide)], hp.sub (.cons _ (.cons_cons _ (.cons _ (.cons_cons _ (.cons_cons _ (.cons_cons _ (.cons_cons _ (.cons_cons _ (.cons_cons _ (.cons_cons _ .slnil))))))))))⟩
        · have c3 : (¬ ((m : Int) ≥ n)) := (of_decide_eq_false c3r)
          refine Cfg.finR rfl (fun w1 hp => ?_)
          have hpa : tkP n (k, m) = true := by simp only [tkP]; simpa using c3
          exact ⟨(0, 0, fr, b, cp, jk), TJ_keep (all_snoc hal hpa), by rw [if_pos hpa], hp.sub (.cons_cons _ (.cons _ (.cons_cons _ (.cons_cons _ (.cons_cons _ (.cons_cons _ (.cons_cons _ (.cons_cons _ (.cons_cons _ .slnil)))))))))⟩
    · intro dr1 ⟨a1, e1, fr2, xb, xc, xj⟩ hal hJy
      obtain ⟨rfl, rfl, rfl, rfl, rfl, rfl⟩ := TJ_none hJy hal
      have hT := takeF_none (f := f) hlow hal
      refine Cfg.begL rfl ?_
      refine CfgL.eff (o := _) rfl (by kernel_rfl) (by kernel_rfl) (Eff.store1 (b := za) (off := 0) (v := .int .i64 0) rfl (by kernel_rfl) (by kernel_rfl) rfl (by kernel_rfl) 3 (cs := #[.int .i64 0]) (e := 3) (by kernel_rfl) (by simp)) ?_
      rintro ⟨⟩ -
      refine CfgL.eff (o := _) rfl (by kernel_rfl) (by kernel_rfl) (Eff.store1 (b := ze) (off := 0) (v := .int .i64 14) rfl (by kernel_rfl) (by kernel_rfl) rfl (by kernel_rfl) 2 (cs := #[.int .i64 (0 : Int)]) (e := 28) (by kernel_rfl) (by simp)) ?_
      rintro ⟨⟩ -
      refine CfgL.done rfl ?_
      refine Conv.cfg (Γ' := [(5, [], .pointer (some ⟨ze, 0, none⟩)), (4, [], .pointer (some ⟨za, 0, none⟩))]) (Conv.mk (by kernel_rfl)) ?_
      refine Cfg.retM (O' := [(tb, .cells #[.pointer (some ⟨s, 0, none⟩)] 24 (0, 0)), (ze, .cells (#[.int .i64 (0 : Int)].setIfInBounds 0 (.int .i64 14)) 28 (0, 0)), (za, .cells (#[.int .i64 0].setIfInBounds 0 (.int .i64 0)) 3 (0, 0)), (zn, .cells #[.int .i64 n] 3 (0, 0)), (zs, .cells #[.pointer (some ⟨s, 0, none⟩)] 24 (0, 0)), (s, .cells #[.int .i64 f, .slice (some ⟨b, 0, none⟩) fr.length cp] 94 (0, 0)), (b, .cells ((rb fr ++ jk).toArray) 4 (0, 0))]) rfl (rs := [.cell 4 3, .cell 5 28]) rfl [.int .i64 0, .int .i64 14] (List.Sublist.refl _) ⟨⟨_, by kernel_rfl, fun w1 h => h.ovar 2 (off := 0) rfl (by kernel_rfl) rfl⟩, ⟨_, by kernel_rfl, fun w1 h => h.ovar 1 (off := 0) rfl (by kernel_rfl) rfl⟩, trivial⟩ (fun w1 hp => ?_)
      rw [hT]
      exact ⟨(b, cp, jk), rfl, _, hp.sub (.cons _ (.cons _ (.cons _ (.cons _ (.cons _ (.cons_cons _ (.cons_cons _ .slnil)))))))⟩
    · intro dr1 ⟨a1, e1, fr2, xb, xc, xj⟩ pre ⟨k, m⟩ rest hit hal hpa hJy
      have he := TJ_end hJy hal hpa
      have hT := takeF_some (f := f) hlow hit hal hpa
      rw [← he] at hT
      refine Cfg.retM (O' := [(tb, .cells #[.pointer (some ⟨s, 0, none⟩)] 24 (0, 0)), (ze, .cells #[.int .i64 (e1 : Int)] 28 (0, 0)), (za, .cells #[.int .i64 a1] 3 (0, 0)), (zn, .cells #[.int .i64 n] 3 (0, 0)), (zs, .cells #[.pointer (some ⟨s, 0, none⟩)] 24 (0, 0)), (s, .cells #[.int .i64 f, .slice (some ⟨xb, 0, none⟩) fr2.length xc] 94 (0, 0)), (xb, .cells ((rb fr2 ++ xj).toArray) 4 (0, 0))]) rfl (rs := [.cell 4 3, .cell 5 28]) rfl [.int .i64 a1, .int .i64 (e1 : Int)] (List.Sublist.refl _) ⟨⟨_, by kernel_rfl, fun w1 h => h.ovar 2 (off := 0) rfl (by kernel_rfl) rfl⟩, ⟨_, by kernel_rfl, fun w1 h => h.ovar 1 (off := 0) rfl (by kernel_rfl) rfl⟩, trivial⟩ (fun w1 hp => ?_)
      rw [hT]
      exact ⟨(xb, xc, xj), rfl, _, hp.sub (.cons _ (.cons _ (.cons _ (.cons _ (.cons _ (.cons_cons _ (.cons_cons _ .slnil)))))))⟩

end Go.Proofs.Ytmkefcjphdaoiaa
