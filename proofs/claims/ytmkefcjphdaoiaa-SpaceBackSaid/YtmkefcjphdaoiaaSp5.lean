/- space: the runs, as a function. -/
import Derived.Test.YtmkefcjphdaoiaaSp4
namespace Go.Proofs.Ytmkefcjphdaoiaa
open K
set_option linter.unusedVariables false

set_option maxRecDepth 100000 in
theorem runsN (w : World) :
    Calls Try.prog 13 #[.pointer none] w fun e w' => ∃ tb : Nat, True ∧ e = .returned (.func (.func 54) #[] #[.pointer (some ⟨tb, 0, none⟩)]) ∧ w.heap.size ≤ tb ∧ w'.heap[tb]? = some (.cells #[.pointer none] 24 (0, 0)) ∧ Ext [] w w' := by
  refine enter (vs := [.pointer none]) [] [] [] Try.func13 rfl (by kernel_rfl) (HP.start w) ?_
  refine Cfg.begL rfl ?_
  refine CfgL.eff (o := _) rfl (by kernel_rfl) (by kernel_rfl) (Eff.box (v := .pointer none) rfl (by kernel_rfl)) ?_
  rintro tb ⟨htb, ntb⟩
  refine CfgL.pure 1 [] (some [1]) (Γ' := [(1, [], .pointer (some ⟨tb, 0, none⟩))]) (nd := (fun _ => [])) (by kernel_rfl) (fun _ => by kernel_rfl) trivial ?_
  refine CfgL.done rfl ?_
  refine Cfg.reg rfl [2] [] (Γ' := [(2, [], .func (.func 54) #[] #[.pointer (some ⟨tb, 0, none⟩)])]) (nd := (fun _ => [])) (fun _ => by kernel_rfl) trivial ?_
  refine Cfg.ret rfl (rs := [.tmp 2]) rfl [.func (.func 54) #[] #[.pointer (some ⟨tb, 0, none⟩)]] ⟨by kernel_rfl, trivial⟩ (fun w1 hp => ?_)
  exact ⟨tb, trivial, rfl, htb, hp.own (tb, _) (List.mem_cons_self ..), hp.ext⟩

set_option maxRecDepth 100000 in
theorem runsC (s : Nat) (w : World) :
    Calls Try.prog 13 #[.pointer (some ⟨s, 0, none⟩)] w fun e w' => ∃ tb : Nat, True ∧ e = .returned (.func (.func 54) #[] #[.pointer (some ⟨tb, 0, none⟩)]) ∧ w.heap.size ≤ tb ∧ w'.heap[tb]? = some (.cells #[.pointer (some ⟨s, 0, none⟩)] 24 (0, 0)) ∧ Ext [] w w' := by
  refine enter (vs := [.pointer (some ⟨s, 0, none⟩)]) [] [] [] Try.func13 rfl (by kernel_rfl) (HP.start w) ?_
  refine Cfg.begL rfl ?_
  refine CfgL.eff (o := _) rfl (by kernel_rfl) (by kernel_rfl) (Eff.box (v := .pointer (some ⟨s, 0, none⟩)) rfl (by kernel_rfl)) ?_
  rintro tb ⟨htb, ntb⟩
  refine CfgL.pure 1 [] (some [1]) (Γ' := [(1, [], .pointer (some ⟨tb, 0, none⟩))]) (nd := (fun _ => [])) (by kernel_rfl) (fun _ => by kernel_rfl) trivial ?_
  refine CfgL.done rfl ?_
  refine Cfg.reg rfl [2] [] (Γ' := [(2, [], .func (.func 54) #[] #[.pointer (some ⟨tb, 0, none⟩)])]) (nd := (fun _ => [])) (fun _ => by kernel_rfl) trivial ?_
  refine Cfg.ret rfl (rs := [.tmp 2]) rfl [.func (.func 54) #[] #[.pointer (some ⟨tb, 0, none⟩)]] ⟨by kernel_rfl, trivial⟩ (fun w1 hp => ?_)
  exact ⟨tb, trivial, rfl, htb, hp.own (tb, _) (List.mem_cons_self ..), hp.ext⟩

end Go.Proofs.Ytmkefcjphdaoiaa
