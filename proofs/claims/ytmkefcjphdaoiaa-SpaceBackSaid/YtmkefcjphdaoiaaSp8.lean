/- space: how many sectors are free, of a space that has sectors. -/
import Derived.Test.YtmkefcjphdaoiaaSp5
import Derived.Test.YtmkefcjphdaoiaaSp6
namespace Go.Proofs.Ytmkefcjphdaoiaa
open K
set_option linter.unusedVariables false

def suml (l : List (Nat × Nat)) : Nat := (l.map (·.2)).sum
theorem suml_app (a b : List (Nat × Nat)) : suml (a ++ b) = suml a + suml b := by simp [suml]
theorem suml_cons (a : Nat × Nat) (b : List (Nat × Nat)) : suml (a :: b) = a.2 + suml b := by simp [suml]
theorem rlen_le (fr : List Bool) (k : Nat) : rlen fr k ≤ fr.length - k := by
  unfold rlen
  refine Nat.le_trans (List.takeWhile_sublist _).length_le ?_
  rw [List.length_drop]; exact Nat.le_refl _
theorem suml_le (fr : List Bool) : ∀ k, suml (runsAt fr k) ≤ fr.length - k := by
  intro k
  induction h : fr.length - k using Nat.strongRecOn generalizing k with
  | ind m ih =>
    subst h
    rw [runsAt]
    split
    · rename_i hk
      have h1 := rlen_le fr k
      have h2 := ih (fr.length - (k + rlen fr k + 1)) (by omega) (k + rlen fr k + 1) rfl
      rw [suml_app]
      split
      · rw [suml_cons]; simp only [suml, List.map_nil, List.sum_nil] at h2 ⊢; omega
      · simp only [suml, List.map_nil, List.sum_nil] at h2 ⊢; omega
    · simp [suml]
theorem runs_in {fr : List Bool} : ∀ {k : Nat} {x : Nat × Nat}, x ∈ runsAt fr k → x.1 + x.2 ≤ fr.length := by
  intro k
  induction h : fr.length - k using Nat.strongRecOn generalizing k with
  | ind m ih =>
    subst h
    intro x hx
    rw [runsAt] at hx
    split at hx
    · rename_i hk
      have h1 := rlen_le fr k
      rcases List.mem_append.1 hx with hx | hx
      · split at hx
        · rw [List.mem_singleton.1 hx]; simp only; omega
        · cases hx
      · exact ih (fr.length - (k + rlen fr k + 1)) (by omega) rfl hx
    · cases hx
theorem sp_nodup {w : World} {s : Nat} {f : Int} {x : Nat × Nat × List Value} {fr : List Bool} (h : Has w (spC s f x fr)) : ((spC s f x fr).map (·.1)).Nodup := by
  have h1 := h _ (List.mem_cons_self ..)
  have h2 := h _ (List.mem_cons_of_mem _ (List.mem_cons_self ..))
  have hne : s ≠ x.1 := fun e => by
    simp only at h1 h2
    rw [e, h2] at h1
    simp at h1
  simp [spC, hne]

set_option maxRecDepth 100000 in
theorem freeC (s b cp : Nat) (jk : List Value) (f : Int) (fr : List Bool) (w : World) (hf : -9223372036854775808 ≤ f ∧ f + fr.length ≤ 9223372036854775807) (hm : fr.length ≤ 4096) (hR : Has w (spC s f (b, cp, jk) fr)) :
    Calls Try.prog 17 #[.pointer (some ⟨s, 0, none⟩)] w fun e w' => e = .returned (.int .i64 (suml (runsAt fr 0) : Int)) ∧ Ext [] w w' := by
  refine enterM (vs := [.pointer (some ⟨s, 0, none⟩)]) [] [(s, .cells #[.int .i64 f, .slice (some ⟨b, 0, none⟩) fr.length cp] 94 (0, 0)), (b, .cells ((rb fr ++ jk).toArray) 4 (0, 0))] [] Try.func17 rfl (by kernel_rfl) (HP.ofHas hR) ?_
  refine Cfg.reg rfl [0] [] (Γ' := [(0, [], .pointer (some ⟨s, 0, none⟩))]) (nd := (fun _ => [])) (fun _ => by kernel_rfl) trivial ?_
  refine Cfg.begL rfl ?_
  refine CfgL.eff (o := _) rfl (by kernel_rfl) (by kernel_rfl) (Eff.alloc (z := (.int .i64 0)) rfl (by kernel_rfl)) ?_
  rintro za ⟨hza, nza⟩
  refine CfgL.eff (o := _) rfl (by kernel_rfl) (by kernel_rfl) (Eff.store1 (b := za) (off := 0) (v := .int .i64 0) rfl (by kernel_rfl) (by kernel_rfl) rfl (by kernel_rfl) 0 (cs := #[.int .i64 0]) (e := 3) (by kernel_rfl) (by simp)) ?_
  rintro ⟨⟩ -
  refine CfgL.done rfl ?_
  refine Cfg.begL rfl ?_
  refine CfgL.pure 1 [] none (Γ' := [(5, [], .pointer (some ⟨s, 0, none⟩)), (3, [], .pointer (some ⟨za, 0, none⟩)), (0, [], .pointer (some ⟨s, 0, none⟩))]) (nd := (fun _ => [])) (by kernel_rfl) (fun _ => by kernel_rfl) trivial ?_
  refine CfgL.eff (o := _) rfl (by kernel_rfl) (by kernel_rfl) (Eff.callN (vs := [.pointer (some ⟨s, 0, none⟩)]) (fun tb => .func (.func 54) #[] #[.pointer (some ⟨tb, 0, none⟩)]) (fun tb => tb) (fun _ => .cells #[.pointer (some ⟨s, 0, none⟩)] 24 (0, 0)) (fun _ => True) rfl Try.func13 rfl rfl (by kernel_rfl) (fun w1 h => runsC s w1)) ?_
  rintro tb -
  refine CfgL.done rfl ?_
  refine Conv.cfg (Γ' := [(6, [], .func (.func 54) #[] #[.pointer (some ⟨tb, 0, none⟩)]), (3, [], .pointer (some ⟨za, 0, none⟩))]) (Conv.mk (by kernel_rfl)) ?_
  refine Cfg.rangeJ rfl (caps := #[.pointer (some ⟨tb, 0, none⟩)]) (by kernel_rfl) Try.func54 (by kernel_rfl) rfl (by kernel_rfl) (runsIt tb s b cp jk f fr hf hm) (σ := Nat) (fun (m : Nat) => [(tb, .cells #[.pointer (some ⟨s, 0, none⟩)] 24 (0, 0)), (za, .cells #[.int .i64 (m : Int)] 3 (0, 0))]) (fun pre m => m = suml pre) 0 rfl [(s, .cells #[.int .i64 f, .slice (some ⟨b, 0, none⟩) fr.length cp] 94 (0, 0)), (b, .cells ((rb fr ++ jk).toArray) 4 (0, 0))] (by rfl) (fun e he => he) (fun w1 h => sp_nodup (x := (b, cp, jk)) (h.hasR (fun e he => he))) (fun (m : Nat) => [(tb, .cells #[.pointer (some ⟨s, 0, none⟩)] 24 (0, 0)), (za, .cells #[.int .i64 (m : Int)] 3 (0, 0)), (s, .cells #[.int .i64 f, .slice (some ⟨b, 0, none⟩) fr.length cp] 94 (0, 0)), (b, .cells ((rb fr ++ jk).toArray) 4 (0, 0))]) (fun _ => rfl) (fun _ => true) (fun pre x _ _ e he => List.Sublist.subset (.cons_cons _ (.cons _ (.cons_cons _ (.cons_cons _ .slnil)))) he) (.ret) rfl ?_ ?_ ?_
  · intro l ob1 ob2 w2 M2 pre m ⟨k, n⟩ rest hal hJx hit
    have hs := suml_le fr 0
    rw [hit, suml_app, suml_cons] at hs
    have hm2 : m = suml pre := hJx
    simp only at hs
    refine ⟨Nat, fun _ => True, fun (zy : Nat) => [(4, [], .pointer (some ⟨zy, 0, none⟩)), (3, [], .pointer (some ⟨za, 0, none⟩))], fun (zy : Nat) => [(zy, .cells #[.int .i64 (f + (k : Int)), .int .i64 (n : Int)] 27 (0, 0)), (tb, .cells #[.pointer (some ⟨s, 0, none⟩)] 24 (0, 0)), (za, .cells #[.int .i64 (m : Int)] 3 (0, 0)), (s, .cells #[.int .i64 f, .slice (some ⟨b, 0, none⟩) fr.length cp] 94 (0, 0)), (b, .cells ((rb fr ++ jk).toArray) 4 (0, 0))], ?_, ?_⟩
    ·
      refine Cfg.begL rfl ?_
      refine CfgL.eff (o := _) rfl (by kernel_rfl) (by kernel_rfl) (Eff.alloc (z := (.agg #[.int .i64 0, .int .i64 0])) rfl (by kernel_rfl)) ?_
      rintro zy ⟨hzy, nzy⟩
      refine CfgL.eff (o := _) rfl (by kernel_rfl) (by kernel_rfl) (Eff.storeN (b := zy) (off := 0) (vs := #[.int .i64 (f + (k : Int)), .int .i64 (n : Int)]) (n := 2) rfl (by kernel_rfl) (by kernel_rfl) (by kernel_rfl) rfl (two_one rfl rfl) 0 (cs := #[.int .i64 0, .int .i64 0]) (e := 27) (by kernel_rfl) (Nat.le_refl 2)) ?_
      rintro ⟨⟩ -
      refine CfgL.setO (O' := [(zy, .cells #[.int .i64 (f + (k : Int)), .int .i64 (n : Int)] 27 (0, 0)), (l, ob1), (tb, .cells #[.pointer (some ⟨s, 0, none⟩)] 24 (0, 0)), (za, .cells #[.int .i64 (m : Int)] 3 (0, 0)), (s, .cells #[.int .i64 f, .slice (some ⟨b, 0, none⟩) fr.length cp] 94 (0, 0)), (b, .cells ((rb fr ++ jk).toArray) 4 (0, 0))]) (congrArg (fun (xq : Array Value) => ([(zy, .cells xq 27 (0, 0)), (l, ob1), (tb, .cells #[.pointer (some ⟨s, 0, none⟩)] 24 (0, 0)), (za, .cells #[.int .i64 (m : Int)] 3 (0, 0)), (s, .cells #[.int .i64 f, .slice (some ⟨b, 0, none⟩) fr.length cp] 94 (0, 0)), (b, .cells ((rb fr ++ jk).toArray) 4 (0, 0))] : List (Nat × Obj))) (rfl)) ?_
      refine CfgL.done rfl ?_
      refine Conv.cfg (Γ' := [(4, [], .pointer (some ⟨zy, 0, none⟩)), (3, [], .pointer (some ⟨za, 0, none⟩))]) (Conv.mk (by kernel_rfl)) ?_
      refine Cfg.permO (O' := [(l, ob1), (zy, .cells #[.int .i64 (f + (k : Int)), .int .i64 (n : Int)] 27 (0, 0)), (tb, .cells #[.pointer (some ⟨s, 0, none⟩)] 24 (0, 0)), (za, .cells #[.int .i64 (m : Int)] 3 (0, 0)), (s, .cells #[.int .i64 f, .slice (some ⟨b, 0, none⟩) fr.length cp] 94 (0, 0)), (b, .cells ((rb fr ++ jk).toArray) 4 (0, 0))]) (List.Perm.swap _ _ _) ?_
      refine Cfg.mid rfl zy trivial (Conv.mk (by kernel_rfl)) (List.Sublist.refl _)
    · rintro zy -
      refine Cfg.begL rfl ?_
      refine CfgL.pure 4 [(0, false, some (.int .i64 (m : Int))), (0, false, none), (0, false, some (.int .i64 (n : Int)))] none (Γ' := [(11, [], .int .i64 ((m : Int) + (n : Int))), (10, [], .int .i64 (n : Int)), (9, [], .pointer (some ⟨zy, 1, none⟩)), (8, [], .int .i64 (m : Int)), (4, [], .pointer (some ⟨zy, 0, none⟩)), (3, [], .pointer (some ⟨za, 0, none⟩))]) (nd := (fun S => [(∀ w1, S w1 → w1.cell? ⟨za, 0, none⟩ = some (.int .i64 (m : Int))), (∀ w1, S w1 → w1.cell? ⟨zy, 1, none⟩ = some (.int .i64 (n : Int))), ((-9223372036854775808 : Int) ≤ ((m : Int) + (n : Int)) ∧ ((m : Int) + (n : Int)) ≤ 9223372036854775807)])) (by kernel_rfl) (fun _ => by kernel_rfl) ⟨(fun w1 h => h.ocell 3 rfl rfl), (fun w1 h => h.ocell 1 rfl rfl), (by omega), trivial⟩ ?_
      refine CfgL.eff (o := _) rfl (by kernel_rfl) (by kernel_rfl) (Eff.store1 (b := za) (off := 0) (v := .int .i64 ((m : Int) + (n : Int))) rfl (by kernel_rfl) (by kernel_rfl) rfl (by kernel_rfl) 3 (cs := #[.int .i64 (m : Int)]) (e := 3) (by kernel_rfl) (by simp)) ?_
      rintro ⟨⟩ -
      refine CfgL.done rfl ?_
      refine Conv.cfg (Γ' := []) (Conv.mk (by kernel_rfl)) ?_
      refine Cfg.finR rfl (fun w1 hp => ?_)
      exact ⟨m + n, by rw [suml_app, ← hm2, suml_cons]; rfl, rfl, hp.sub (.cons_cons _ (.cons _ (.cons_cons _ (.cons_cons _ (.cons_cons _ (.cons_cons _ .slnil))))))⟩
  · intro dr1 m hal hJy
    refine Cfg.reg rfl [2] [(0, false, some (.int .i64 (m : Int)))] (Γ' := [(2, [], .int .i64 (m : Int))]) (nd := (fun S => [(∀ w1, S w1 → w1.cell? ⟨za, 0, none⟩ = some (.int .i64 (m : Int)))])) (fun _ => by kernel_rfl) ⟨(fun w1 h => h.ocell 2 rfl rfl), trivial⟩ ?_
    refine Cfg.retM (O' := [(tb, .cells #[.pointer (some ⟨s, 0, none⟩)] 24 (0, 0)), (za, .cells #[.int .i64 (m : Int)] 3 (0, 0))]) rfl (rs := [.tmp 2]) rfl [.int .i64 (m : Int)] (List.Sublist.refl _) ⟨by kernel_rfl, trivial⟩ (fun w1 hp => ?_)
    exact ⟨by rw [show m = _ from hJy]; rfl, hp.ext⟩
  · intro dr1 m pre ⟨k, n⟩ rest hit hal hpa hJy
    cases hpa

end Go.Proofs.Ytmkefcjphdaoiaa
