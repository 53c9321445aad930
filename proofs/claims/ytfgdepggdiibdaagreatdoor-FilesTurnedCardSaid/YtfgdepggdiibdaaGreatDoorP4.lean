/- Texts on which the proof of this claim stands: Sp4, Sp5, Sp6, Sp8, Sp9, Sp7, SpA, SpB, SpC, SpD, FlN, Fl3, Fl4, Wire5, Jn3, JnP, Jn4. -/
import Derived.Test.YtfgdepggdiibdaaGreatDoorP3
import Derived.Test.YtfgdepggdiibdaaGreatDoorP1
import Derived.Test.YtfgdepggdiibdaaGreatDoorP2
namespace Go.Proofs.YtfgdepggdiibdaaGreatDoor
open K
set_option linter.unusedVariables false
def rlen (fr : List Bool) (k : Nat) : Nat := ((fr.drop k).takeWhile id).length
theorem rlen_is {fr : List Bool} : ∀ {n k : Nat},(∀ j,j < n → fr.getD (k + j) false = true) → k + n ≤ fr.length → (fr.length ≤ k + n ∨ fr.getD (k + n) false = false) → rlen fr k = n := by
 intro n
 induction n with
 | zero =>
  intro k _ hk h
  unfold rlen
  rcases Nat.lt_or_ge k fr.length with hlt | hge
  ·rw [List.drop_eq_getElem_cons hlt]
   rcases h with h | h
   ·omega
   ·have hx : fr[k] = false := by simpa [List.getD_eq_getElem?_getD,List.getElem?_eq_getElem hlt] using h
    simp [hx]
  ·rw [List.drop_eq_nil_of_le hge]; rfl
 | succ n ih =>
  intro k h1 hk h2
  have hlt : k < fr.length := by omega
  have hx : fr[k] = true := by simpa [List.getD_eq_getElem?_getD,List.getElem?_eq_getElem hlt] using h1 0 om
  have := ih (k := k + 1) (fun j hj => by rw [show k + 1 + j = k + (j + 1) by omega]; exact h1 (j + 1) om) om (by rw [show k + 1 + n = k + (n + 1) by omega]; exact h2)
  unfold rlen at this ⊢
  rw [List.drop_eq_getElem_cons hlt,List.takeWhile_cons,hx]
  simp [this]
def runsAt (fr : List Bool) (k : Nat) : List (Nat × Nat) :=
 if k < fr.length then (if 0 < rlen fr k then [(k,rlen fr k)] else []) ++ runsAt fr (k + rlen fr k + 1) else []
termination_by fr.length - k
theorem runsAt_end {fr : List Bool} {k : Nat} (h : ¬ k < fr.length) : runsAt fr k = [] := by rw [runsAt,if_neg h]
theorem runsAt_some {fr : List Bool} {k n : Nat} (h : k < fr.length) (hn : rlen fr k = n) (h0 : 0 < n) : runsAt fr k = (k,n) :: runsAt fr (k + n + 1) := by
 rw [runsAt,if_pos h,hn,if_pos h0]; rfl
theorem runsAt_none {fr : List Bool} {k n : Nat} (h : k < fr.length) (hn : rlen fr k = n) (h0 : ¬ 0 < n) : runsAt fr k = runsAt fr (k + n + 1) := by
 rw [runsAt,if_pos h,hn,if_neg h0]; rfl
theorem inA {A : List (Nat × Obj)} {x : Nat × Obj} (h : x ∈ A) : x ∈ ([] : List (Nat × Obj)) ++ (A ++ []) := by simpa using h
theorem fr_cell {fr : List Bool} {jk : List Value} {i : Nat} (h : i < fr.length) : (rb fr ++ jk).toArray[i]? = some (.bool (fr.getD i false)) := rb_cell fr jk h
set_option maxRecDepth 100000 in
theorem runsIt0 (l dr tb s b cp : Nat) (fi : FuncId) (T : Array Value) (ps : Array Tmp) (assign body : Code) (jk : List Value) (f : Int) (fr : List Bool) (σ : Type) (A : σ → List (Nat × Obj)) (J : List (Nat × Nat) → σ → Prop) (s0 : σ) (p : Nat × Nat → Bool) (w : World) (hf : -9223372036854775808 ≤ f ∧ f + fr.length ≤ 9223372036854775807) (hm : fr.length ≤ 4096) (hps : ps.size = 1) (hJ : J [] s0) (hA : Has w (A s0)) (hd : ((A s0).map (·.1)).Nodup) (hmem : ∀ pre x,(∀ y ∈ pre,p y = true) → J pre x → (∀ e ∈ [(tb,Obj.cells #[.pointer (some ⟨s,0,none⟩)] 82 (0,0)),(s,Obj.cells #[.int .i64 f,.slice (some ⟨b,0,none⟩) fr.length cp] 151 (0,0)),(b,Obj.cells (rb fr ++ jk).toArray 4 (0,0))],e ∈ A x) ∧ (l,Obj.loop (rec0 fi T ps assign body dr .ready none)) ∈ A x) (hy : ∀ pre x (a : Nat × Nat) rest,(∀ y ∈ pre,p y = true) → J pre x → runsAt fr 0 = pre ++ a :: rest → ∀ w,Has w (A x) → ((A x).map (·.1)).Nodup → RoundIn Fence.wide 0 Tryz.prog l fi ((ps.zip #[(fun (x : Nat × Nat) => Value.agg #[.int .i64 (f + (x.1 : Int)),.int .i64 (x.2 : Int)]) a]).foldl (fun tmps (t,a) => tmps.setIfInBounds t a) T) assign body w fun e w' => ∃ y,J (pre ++ [a]) y ∧ e = .returned (.bool (p a)) ∧ ∃ R1,HP w ((A x).map (·.1)) R1 (A y) w') :
  Calls Tryz.prog 129 #[.func (.yield l) #[] #[],.pointer (some ⟨tb,0,none⟩)] w fun e w' => ∃ y,J (vis p (runsAt fr 0)) y ∧ e = .returned (.tuple #[]) ∧ ∃ R1,HP w ((A s0).map (·.1)) R1 (A y) w' := by
 refine enter (vs := [.func (.yield l) #[] #[],pT tb]) ((A s0).map (·.1)) [] ([] ++ (A s0 ++ [])) Tryz.func129 rfl kr (by have h0 := HP.ofL hA hd (R := []) (fun e he => by cases he) (fun e he => by cases he); simpa using h0) ?_
 refine Rg [0,1,6] [(dS (pT s))] (fun S => [(cE S tb 0 (pT s))]) ⟨(fun w1 h => cell_cells (h.own _ (inA ((hmem [] s0 (fun x hx => by cases hx) hJ).1 _ mH)))),trivial⟩ ?_
 refine Cfg.condF rfl (b := false) kr rfl ?_
 refine Rg [0,1,3] [] n0 trivial ?_
 refine Cfg.loop rfl (ι := Nat × List (Nat × Nat) × σ) (fun (xz : Nat × List (Nat × Nat) × σ) => match xz with | (k,pre,x) => [(3,[],.int .i64 (k : Int)),(0,[],.func (.yield l) #[] #[]),(1,[],pT tb)]) (fun (xz : Nat × List (Nat × Nat) × σ) => match xz with | (k,pre,x) => ([] ++ (A x ++ []))) (fun (xz : Nat × List (Nat × Nat) × σ) => match xz with | (k,pre,x) => (k ≤ fr.length + 1) ∧ (runsAt fr 0 = pre ++ runsAt fr k) ∧ (∀ x ∈ pre,p x = true) ∧ (J pre x)) (fun (xz : Nat × List (Nat × Nat) × σ) => match xz with | (k,pre,x) => fr.length + 2 - k) (0,[],s0) ?_ (Conv.mk kr) slr ?_
 ·exact ⟨Nat.zero_le _,rfl,(fun x hx => by cases hx),hJ⟩
 ·rintro ⟨k,pre,x⟩ ⟨hk,hR,hal,hJx⟩
  refine Rg [0,1,3,13] [dZ,(dS (pT s)),dZ,dZ,(dS (.slice (some ⟨b,0,none⟩) fr.length cp))] (fun S => [(cE S tb 0 (pT s)),(cE S s 1 (.slice (some ⟨b,0,none⟩) fr.length cp))]) ⟨(fun w1 h => cell_cells (h.own _ (inA ((hmem pre x hal hJx).1 _ mH)))),(fun w1 h => cell_cells (h.own _ (inA ((hmem pre x hal hJx).1 _ (List.mem_cons_of_mem _ mH))))),trivial⟩ ?_
  refine Cfg.cond rfl (b := (decide ((k : Int) < (fr.length : Int)))) kr (fun c2r => ?_) (fun c2r => ?_)
  ·have c2 := (dT c2r)
   -- cond 2 T: (decide ((k : Int) < (fr.length : Int)))
   refine Rg [0,1,3,4] [] n0 trivial ?_
   refine Cfg.loop rfl (ι := Nat) (fun (n : Nat) => [(4,[],.int .i64 (n : Int)),(3,[],.int .i64 (k : Int)),(0,[],.func (.yield l) #[] #[]),(1,[],pT tb)]) (fun (n : Nat) => ([] ++ (A x ++ []))) (fun (n : Nat) => (k + n ≤ fr.length) ∧ (∀ j,j < n → fr.getD (k + j) false = true)) (fun (n : Nat) => fr.length - n) 0 ?_ (Conv.mk kr) slr ?_
   ·exact ⟨by show k + 0 ≤ _; omega,fun j hj => absurd hj (Nat.not_lt_zero _)⟩
   ·rintro n ⟨hkn,hrun⟩
    refine Rg [0,1,3,4,33] [dZ,dZ,dZ,(dS (pT s)),dZ,dZ,(dS (.slice (some ⟨b,0,none⟩) fr.length cp)),dZ,dZ,dZ,(dS (pT s)),dZ,dZ,(dS (.slice (some ⟨b,0,none⟩) fr.length cp)),dZ,dZ,dZ,dZ,(dS (.bool (fr.getD (k + n) false)))] (fun S => [(i6 ((k : Int) + (n : Int))),(cE S tb 0 (pT s)),(cE S s 1 (.slice (some ⟨b,0,none⟩) fr.length cp)),((.bool (decide (((k : Int) + (n : Int)) < (fr.length : Int))) : Value) = .bool true → (cE S tb 0 (pT s))),((.bool (decide (((k : Int) + (n : Int)) < (fr.length : Int))) : Value) = .bool true → (cE S s 1 (.slice (some ⟨b,0,none⟩) fr.length cp))),((.bool (decide (((k : Int) + (n : Int)) < (fr.length : Int))) : Value) = .bool true → (i6 ((k : Int) + (n : Int)))),((.bool (decide (((k : Int) + (n : Int)) < (fr.length : Int))) : Value) = .bool true → (0 ≤ ((k : Int) + (n : Int)) ∧ ((k : Int) + (n : Int)) < (fr.length : Int))),((.bool (decide (((k : Int) + (n : Int)) < (fr.length : Int))) : Value) = .bool true → (cE S b (k + n) (.bool (fr.getD (k + n) false))))]) ⟨om,(fun w1 h => cell_cells (h.own _ (inA ((hmem pre x hal hJx).1 _ mH)))),(fun w1 h => cell_cells (h.own _ (inA ((hmem pre x hal hJx).1 _ (List.mem_cons_of_mem _ mH))))),(fun g0 => have q0 : (((k : Int) + (n : Int)) < (fr.length : Int)) := (dT (boolV g0)); (fun w1 h => cell_cells (h.own _ (inA ((hmem pre x hal hJx).1 _ mH))))),(fun g0 => have q0 : (((k : Int) + (n : Int)) < (fr.length : Int)) := (dT (boolV g0)); (fun w1 h => cell_cells (h.own _ (inA ((hmem pre x hal hJx).1 _ (List.mem_cons_of_mem _ mH)))))),(fun g0 => have q0 : (((k : Int) + (n : Int)) < (fr.length : Int)) := (dT (boolV g0)); om),(fun g0 => have q0 : (((k : Int) + (n : Int)) < (fr.length : Int)) := (dT (boolV g0)); om),(fun g0 => have q0 : (((k : Int) + (n : Int)) < (fr.length : Int)) := (dT (boolV g0)); (fun w1 h => (cell_cells (h.own _ (inA ((hmem pre x hal hJx).1 _ (List.mem_cons_of_mem _ (List.mem_cons_of_mem _ mH)))))).trans (fr_cell om))),trivial⟩ ?_
    refine Cfg.cond rfl (b := ((decide (((k : Int) + (n : Int)) < (fr.length : Int))) && (fr.getD (k + n) false))) kr (fun c3r => ?_) (fun c3r => ?_)
    ·have c3 : ((((k : Int) + (n : Int)) < (fr.length : Int)) ∧ ((fr.getD (k + n) false) = true)) := ⟨(dT (andT1 c3r)),(andT2 c3r)⟩
     -- cond 3 T: ((decide (((k : Int) + (n : Int)) < (fr.length : Int))) && (fr.getD (k + n) false))
     refine Rg [0,1,3,4] [] (fun _ => [(i6 ((n : Int) + 1))]) ⟨om,trivial⟩ ?_
     refine Cfg.again rfl (n + 1) ⟨by show k + (n + 1) ≤ _; omega,fun j hj => by rcases Nat.lt_or_ge j n with h | h; exact hrun j h; rw [show j = n by omega]; exact c3.2⟩ (by show fr.length - (n + 1) < fr.length - n; omega) (Conv.mk kr) slr
    ·have c3 : ((¬ (((k : Int) + (n : Int)) < (fr.length : Int))) ∨ ((fr.getD (k + n) false) = false)) := ((andF c3r).elim (fun h => Or.inl (dF h)) (fun h => Or.inr h))
     -- cond 3 F: ((decide (((k : Int) + (n : Int)) < (fr.length : Int))) && (fr.getD (k + n) false))
     have hlen : rlen fr k = n := rlen_is hrun hkn (by rcases Nat.lt_or_ge (k + n) fr.length with h | h; right; have hc := c3r; simp at hc; simpa using hc om; exact .inl h)
     refine Cfg.begL rfl ?_
     refine Lp 3 [] (some [0,1,3,4,38]) n0 trivial ?_
     by_cases c4 : (decide ((n : Int) > (0 : Int))) = true
     ·have c4k : (decide ((n : Int) > (0 : Int))) = true := c4
      have c4q := (dT c4k)
      -- cond 4 T: (decide ((n : Int) > (0 : Int)))
      have hR2 : runsAt fr 0 = pre ++ (k,n) :: runsAt fr (k + (n + 1)) := by rw [hR,runsAt_some om hlen om]; rfl
      refine CfgL.known 38 (b := (decide ((n : Int) > (0 : Int)))) kr true c4k ?_
      refine CfgL.pure 9 [(1,false,none),(1,false,some (pT s)),(1,false,none),(1,false,none),(1,false,some (.int .i64 f)),(1,false,none),(1,false,none),(1,false,none),(1,false,some (.agg #[.int .i64 (f + (k : Int)),.int .i64 (n : Int)]))] (some [0,1,3,4,38,39,47]) (Γ' := [(47,[],.agg #[.int .i64 (f + (k : Int)),.int .i64 (n : Int)]),(39,[],.func (.yield l) #[] #[]),(38,[],.bool true),(4,[],.int .i64 (n : Int)),(3,[],.int .i64 (k : Int)),(0,[],.func (.yield l) #[] #[]),(1,[],pT tb)]) (nd := (fun S => [((.bool true : Value) = .bool true),((.bool true : Value) = .bool true),(cE S tb 0 (pT s)),((.bool true : Value) = .bool true),((.bool true : Value) = .bool true),((.bool true : Value) = .bool true),(cE S s 0 (.int .i64 f)),((.bool true : Value) = .bool true),((.bool true : Value) = .bool true),(i6 (f + (k : Int))),((.bool true : Value) = .bool true),((.bool true : Value) = .bool true),(∀ w1,S w1 → (Instr.build 117 #[(0,.int .i64 (f + (k : Int))),(1,.int .i64 (n : Int))]).run Tryz.prog w1 = .ok (.agg #[.int .i64 (f + (k : Int)),.int .i64 (n : Int)]) w1)])) kr (fun _ => kr) ⟨rfl,rfl,(fun w1 h => cell_cells (h.own _ (inA ((hmem pre x hal hJx).1 _ mH)))),rfl,rfl,rfl,(fun w1 h => cell_cells (h.own _ (inA ((hmem pre x hal hJx).1 _ (List.mem_cons_of_mem _ mH))))),rfl,rfl,om,rfl,rfl,(fun _ _ => kr),trivial⟩ ?_
      refine CfgL.effI (o := _) rfl kr kr (EffI.yield (ι := σ) (vs := [.agg #[.int .i64 (f + (k : Int)),.int .i64 (n : Int)]]) (fun _ => .bool (p (k,n))) (A x) (fun y => A y) (fun y => J (pre ++ [(k,n)]) y) [] [] rfl rfl kr kr hps.symm (hmem pre x hal hJx).2 (fun w1 hh hdn => hy pre x (k,n) _ hal hJx hR2 w1 hh hdn)) ?_
      rintro y hJy
      refine Lp 2 [(1,false,none)] (some [0,1,3,4,50]) (fun _ => [((.bool true : Value) = .bool true)]) ⟨rfl,trivial⟩ ?_
      refine CfgL.done rfl ?_
      refine Cfg.cond rfl (b := (!(p (k,n)))) kr (fun c5r => ?_) (fun c5r => ?_)
      ·have c5 : ((p (k,n)) = false) := (notT c5r)
       -- cond 5 T: (!(p (k,n)))
       refine Cfg.ret rfl (rs := []) rfl [] trivial (fun w1 hp => ?_)
       have hv : vis p (runsAt fr 0) = pre ++ [(k,n)] := by rw [hR2]; exact vis_stop hal (by simpa using c5r)
       rw [hv]
       have h3 : HP w ((A s0).map (·.1)) [] ([] ++ (A y ++ [])) w1 := hp
       rw [List.nil_append,List.append_nil] at h3
       exact ⟨y,hJy,rfl,_,h3⟩
      ·have c5 : ((p (k,n)) = true) := (notF c5r)
       -- cond 5 F: (!(p (k,n)))
       refine Rg [0,1,3] [] (fun _ => [(i6 ((n : Int) + 1)),(i6 ((k : Int) + ((n : Int) + 1)))]) ⟨om,om,trivial⟩ ?_
       refine Cfg.again rfl (k + (n + 1),pre ++ [(k,n)],y) ⟨by omega,by rw [hR2,List.append_assoc]; rfl,fun x hx => by rcases List.mem_append.1 hx with hx | hx; exact hal x hx; rw [List.mem_singleton.1 hx]; simpa using c5r,hJy⟩ (by show fr.length + 2 - (k + (n + 1)) < fr.length + 2 - k; omega) (Conv.mk kr) slr
     ·have c4k : (decide ((n : Int) > (0 : Int))) = false := (by simpa using c4)
      have c4q := (dF c4k)
      -- cond 4 F: (decide ((n : Int) > (0 : Int)))
      refine CfgL.known 38 (b := (decide ((n : Int) > (0 : Int)))) kr false c4k ?_
      refine Lp 12 [(2,false,none),(2,false,none),(2,false,none),(2,false,none),(2,false,none),(2,false,none),(2,false,none),(2,false,none),(2,false,none),(2,false,none),(2,false,none)] (some [0,1,3,4,50]) (fun _ => [((.bool false : Value) ≠ .bool true),((.bool false : Value) ≠ .bool true),((.bool false : Value) ≠ .bool true),((.bool false : Value) ≠ .bool true),((.bool false : Value) ≠ .bool true),((.bool false : Value) ≠ .bool true),((.bool false : Value) ≠ .bool true),((.bool false : Value) ≠ .bool true),((.bool false : Value) ≠ .bool true),((.bool false : Value) ≠ .bool true),((.bool false : Value) ≠ .bool true)]) ⟨(by simp),(by simp),(by simp),(by simp),(by simp),(by simp),(by simp),(by simp),(by simp),(by simp),(by simp),trivial⟩ ?_
      refine CfgL.done rfl ?_
      refine Cfg.condF rfl (b := false) kr rfl ?_
      refine Rg [0,1,3] [] (fun _ => [(i6 ((n : Int) + 1)),(i6 ((k : Int) + ((n : Int) + 1)))]) ⟨om,om,trivial⟩ ?_
      refine Cfg.again rfl (k + (n + 1),pre,x) ⟨by omega,by rw [hR,runsAt_none om hlen om]; rfl,hal,hJx⟩ (by show fr.length + 2 - (k + (n + 1)) < fr.length + 2 - k; omega) (Conv.mk kr) slr
  ·have c2 := (dF c2r)
   -- cond 2 F: (decide ((k : Int) < (fr.length : Int)))
   refine Cfg.fin rfl (rs := []) rfl [] trivial (fun w1 hp => ?_)
   have hv : vis p (runsAt fr 0) = pre := by rw [hR,runsAt_end om,List.append_nil,vis_all hal]
   rw [hv]
   have h3 : HP w ((A s0).map (·.1)) [] ([] ++ (A x ++ [])) w1 := hp
   rw [List.nil_append,List.append_nil] at h3
   exact ⟨x,hJx,rfl,_,h3⟩
theorem runsIt (tb s b cp : Nat) (jk : List Value) (f : Int) (fr : List Bool) (hf : -9223372036854775808 ≤ f ∧ f + fr.length ≤ 9223372036854775807) (hm : fr.length ≤ 4096) :
  IterSpec Tryz.prog 129 #[.pointer (some ⟨tb,0,none⟩)] [(tb,Obj.cells #[.pointer (some ⟨s,0,none⟩)] 82 (0,0)),(s,Obj.cells #[.int .i64 f,.slice (some ⟨b,0,none⟩) fr.length cp] 151 (0,0)),(b,Obj.cells (rb fr ++ jk).toArray 4 (0,0))] (runsAt fr 0) (fun (x : Nat × Nat) => Value.agg #[.int .i64 (f + (x.1 : Int)),.int .i64 (x.2 : Int)]) :=
 fun l dr fi T ps assign body σ A J s0 p w hps hJ hA hd hmem hy => runsIt0 l dr tb s b cp fi T ps assign body jk f fr σ A J s0 p w hf hm hps hJ hA hd hmem hy
end Go.Proofs.YtfgdepggdiibdaaGreatDoor
namespace Go.Proofs.YtfgdepggdiibdaaGreatDoor
open K
set_option linter.unusedVariables false
set_option maxRecDepth 100000 in
theorem runsC (s : Nat) (w : World) :
  Calls Tryz.prog 88 #[.pointer (some ⟨s,0,none⟩)] w fun e w' => ∃ tb : Nat,True ∧ e = .returned (.func (.func 129) #[] #[.pointer (some ⟨tb,0,none⟩)]) ∧ w.heap.size ≤ tb ∧ w'.heap[tb]? = some (.cells #[.pointer (some ⟨s,0,none⟩)] 82 (0,0)) ∧ Ext [] w w' := by
 refine enter (vs := [pT s]) [] [] [] Tryz.func88 rfl kr (HP.start w) ?_
 refine Cfg.begL rfl ?_
 refine Le (Eff.box (v := pT s) rfl kr) ?_
 rintro tb ⟨htb,ntb⟩
 refine Lp 1 [] (some [1]) n0 trivial ?_
 refine CfgL.done rfl ?_
 refine Rg [2] [] n0 trivial ?_
 refine Cfg.ret rfl (rs := [.tmp 2]) rfl [.func (.func 129) #[] #[pT tb]] ⟨kr,trivial⟩ (fun w1 hp => ?_)
 exact ⟨tb,trivial,rfl,htb,hp.own (tb,_) mH,hp.ext⟩
end Go.Proofs.YtfgdepggdiibdaaGreatDoor
namespace Go.Proofs.YtfgdepggdiibdaaGreatDoor
open K
set_option linter.unusedVariables false
theorem in_lt {f q : Int} {n : Nat} (h : inP f n q = true) : f ≤ q ∧ q < f + (n : Int) := by simpa [inP] using h
set_option maxRecDepth 100000 in
theorem isC (s b cp : Nat) (jk : List Value) (f q : Int) (fr : List Bool) (w : World) (hf : I64 f) (hq : I64 q) (hm : fr.length ≤ 4096) (hR : Has w (spC s f (b,cp,jk) fr)) :
  Calls Tryz.prog 98 #[.pointer (some ⟨s,0,none⟩),.int .i64 q] w fun e w' => e = .returned (.bool (inP f fr.length q && fr.getD (q - f).toNat false)) ∧ Ext [] w w' := by
 refine enter (vs := [pT s,.int .i64 q]) [] [(s,.cells #[.int .i64 f,.slice (some ⟨b,0,none⟩) fr.length cp] 151 (0,0)),(b,.cells ((rb fr ++ jk).toArray) 4 (0,0))] [] Tryz.func98 rfl kr (HP.ofHas hR) ?_
 refine Rg [0,1] [] n0 trivial ?_
 refine Cfg.begL rfl ?_
 refine Lp 2 [] (some [0,8,9]) n0 trivial ?_
 refine Le (Eff.callA (vs := [pT s,.int .i64 q]) (.tuple #[.int .i64 (if inP f fr.length q then q - f else 0),.bool (inP f fr.length q)]) rfl Tryz.func132 rfl rfl kr (fun w1 h => place s f q (some (b,cp,jk)) fr w1 hf hq hm (h.hasR (fun e he => by rw [List.mem_singleton.1 he]; exact mH)))) ?_
 rintro ⟨⟩ -
 refine Lp 5 [] (some [0,5,6]) n0 trivial ?_
 refine CfgL.done rfl ?_
 refine Rg [4] [dZ,dZ,dZ,dZ,dZ,(dS (.slice (some ⟨b,0,none⟩) fr.length cp)),dZ,dZ,(dS (.bool (fr.getD (q - f).toNat false)))] (fun S => [((.bool (inP f fr.length q) : Value) = .bool true → (cE S s 1 (.slice (some ⟨b,0,none⟩) fr.length cp))),((.bool (inP f fr.length q) : Value) = .bool true → (0 ≤ (if inP f fr.length q then q - f else 0) ∧ (if inP f fr.length q then q - f else 0) < (fr.length : Int))),((.bool (inP f fr.length q) : Value) = .bool true → (cE S b (((if inP f fr.length q then q - f else 0)).toNat) (.bool (fr.getD (q - f).toNat false))))]) ⟨(fun g0 => have q0 : ((inP f fr.length q) = true) := (boolV g0); (rC 0 rfl rfl)),(fun g0 => have q0 : ((inP f fr.length q) = true) := (boolV g0); (by have := in_lt q0; rw [if_pos q0]; omega)),(fun g0 => have q0 : ((inP f fr.length q) = true) := (boolV g0); (fun w1 h => by have := in_lt q0; rw [if_pos q0]; exact h.rcell 1 rfl (rb_cell fr jk om))),trivial⟩ ?_
 refine Cfg.ret rfl (rs := [.tmp 4]) rfl [.bool ((inP f fr.length q) && (fr.getD (q - f).toNat false))] ⟨kr,trivial⟩ (fun w1 hp => ?_)
 exact ⟨rfl,hp.ext⟩
set_option maxRecDepth 100000 in
theorem claimC (s b cp : Nat) (jk : List Value) (f : Int) (fr : List Bool) (la : Option Addr) (cap : Nat) (l : List (Int × Int)) (Rl : List (Nat × Obj)) (w : World) (hf : I64 f) (hm : fr.length ≤ 4096) (hn : 0 < fr.length) (hI : InS Rl la (2 * l.length) (rcell l)) (hl : l.length ≤ maxLen) (h1 : ∀ i,I64 (ra l i)) (h2 : ∀ i,I64 (rl l i)) (hA : Has w (spC s f (b,cp,jk) fr)) (hd : ((spC s f (b,cp,jk) fr).map (·.1)).Nodup) (hRl : Has w Rl) (hnr : ∀ e ∈ Rl,e.1 ∉ (spC s f (b,cp,jk) fr).map (·.1)) :
  Calls Tryz.prog 71 #[.pointer (some ⟨s,0,none⟩),.slice la l.length cap] w fun e w' => ∃ x : Nat × Nat × List Value,e = .returned (.int .i64 ((turnF f fr.length false l fr).1 : Int)) ∧ ∃ R1,HP w [s,b] R1 (spC s f x (turnR f false l fr)) w' := by
 refine enter (vs := [pT s,.slice la l.length cap]) [s,b] Rl [(s,.cells #[.int .i64 f,.slice (some ⟨b,0,none⟩) fr.length cp] 151 (0,0)),(b,.cells ((rb fr ++ jk).toArray) 4 (0,0))] Tryz.func71 rfl kr (HP.ofL hA hd hRl hnr) ?_
 refine Rg [0,1] [] n0 trivial ?_
 refine Cfg.begL rfl ?_
 refine Lp 2 [] (some [5,6]) n0 trivial ?_
 refine Le (Eff.callH (vs := [pT s,.bool false,.slice la l.length cap]) (fun _ : Nat × Nat × List Value => .int .i64 ((turnF f fr.length false l fr).1 : Int)) (spC s f (b,cp,jk) fr) (fun x => spC s f x (turnR f false l fr)) (fun _ => True) [] [] rfl rfl Tryz.func110 rfl rfl kr (fun w1 h hA1 hd1 => (turnC s b cp jk f fr false la cap l Rl w1 hf hm hn hI hl h1 h2 hA1 hd1 (h.hasR (fun e he => he)) hnr).mono fun e w2 hx => by obtain ⟨x,he,R1,hq⟩ := hx; exact ⟨x,trivial,he,R1,hq⟩)) ?_
 rintro xq -
 refine Lp 1 [] (some [4]) n0 trivial ?_
 refine CfgL.done rfl ?_
 refine Cfg.ret rfl (rs := [.tmp 4]) rfl [.int .i64 ((turnF f fr.length false l fr).1 : Int)] ⟨kr,trivial⟩ (fun w1 hp => ?_)
 have h3 : HP w [s,b] Rl ([] ++ (spC s f xq (turnR f false l fr) ++ [])) w1 := hp
 rw [List.nil_append,List.append_nil] at h3
 exact ⟨xq,rfl,_,h3⟩
set_option maxRecDepth 100000 in
theorem giveC (s b cp : Nat) (jk : List Value) (f : Int) (fr : List Bool) (la : Option Addr) (cap : Nat) (l : List (Int × Int)) (Rl : List (Nat × Obj)) (w : World) (hf : I64 f) (hm : fr.length ≤ 4096) (hn : 0 < fr.length) (hI : InS Rl la (2 * l.length) (rcell l)) (hl : l.length ≤ maxLen) (h1 : ∀ i,I64 (ra l i)) (h2 : ∀ i,I64 (rl l i)) (hA : Has w (spC s f (b,cp,jk) fr)) (hd : ((spC s f (b,cp,jk) fr).map (·.1)).Nodup) (hRl : Has w Rl) (hnr : ∀ e ∈ Rl,e.1 ∉ (spC s f (b,cp,jk) fr).map (·.1)) :
  Calls Tryz.prog 77 #[.pointer (some ⟨s,0,none⟩),.slice la l.length cap] w fun e w' => ∃ x : Nat × Nat × List Value,e = .returned (.int .i64 ((turnF f fr.length true l fr).1 : Int)) ∧ ∃ R1,HP w [s,b] R1 (spC s f x (turnR f true l fr)) w' := by
 refine enter (vs := [pT s,.slice la l.length cap]) [s,b] Rl [(s,.cells #[.int .i64 f,.slice (some ⟨b,0,none⟩) fr.length cp] 151 (0,0)),(b,.cells ((rb fr ++ jk).toArray) 4 (0,0))] Tryz.func77 rfl kr (HP.ofL hA hd hRl hnr) ?_
 refine Rg [0,1] [] n0 trivial ?_
 refine Cfg.begL rfl ?_
 refine Lp 2 [] (some [5,6]) n0 trivial ?_
 refine Le (Eff.callH (vs := [pT s,.bool true,.slice la l.length cap]) (fun _ : Nat × Nat × List Value => .int .i64 ((turnF f fr.length true l fr).1 : Int)) (spC s f (b,cp,jk) fr) (fun x => spC s f x (turnR f true l fr)) (fun _ => True) [] [] rfl rfl Tryz.func110 rfl rfl kr (fun w1 h hA1 hd1 => (turnC s b cp jk f fr true la cap l Rl w1 hf hm hn hI hl h1 h2 hA1 hd1 (h.hasR (fun e he => he)) hnr).mono fun e w2 hx => by obtain ⟨x,he,R1,hq⟩ := hx; exact ⟨x,trivial,he,R1,hq⟩)) ?_
 rintro xq -
 refine Lp 1 [] (some [4]) n0 trivial ?_
 refine CfgL.done rfl ?_
 refine Cfg.ret rfl (rs := [.tmp 4]) rfl [.int .i64 ((turnF f fr.length true l fr).1 : Int)] ⟨kr,trivial⟩ (fun w1 hp => ?_)
 have h3 : HP w [s,b] Rl ([] ++ (spC s f xq (turnR f true l fr) ++ [])) w1 := hp
 rw [List.nil_append,List.append_nil] at h3
 exact ⟨xq,rfl,_,h3⟩
end Go.Proofs.YtfgdepggdiibdaaGreatDoor
namespace Go.Proofs.YtfgdepggdiibdaaGreatDoor
open K
set_option linter.unusedVariables false
def suml (l : List (Nat × Nat)) : Nat := (l.map (·.2)).sum
theorem suml_app (a b : List (Nat × Nat)) : suml (a ++ b) = suml a + suml b := by simp [suml]
theorem suml_cons (a : Nat × Nat) (b : List (Nat × Nat)) : suml (a :: b) = a.2 + suml b := by simp [suml]
theorem rlen_le (fr : List Bool) (k : Nat) : rlen fr k ≤ fr.length - k := by
 unfold rlen
 refine Nat.le_trans (List.takeWhile_sublist _).length_le ?_
 rw [List.length_drop]; exact Nat.le_refl _
theorem suml_le (fr : List Bool) : ∀ k,suml (runsAt fr k) ≤ fr.length - k := by
 intro k
 induction h : fr.length - k using Nat.strongRecOn generalizing k with
 | ind m ih =>
  subst h
  rw [runsAt]
  split
  ·rename_i hk
   have h1 := rlen_le fr k
   have h2 := ih (fr.length - (k + rlen fr k + 1)) om (k + rlen fr k + 1) rfl
   rw [suml_app]
   split
   ·rw [suml_cons]; simp only [suml,List.map_nil,List.sum_nil] at h2 ⊢; omega
   ·simp only [suml,List.map_nil,List.sum_nil] at h2 ⊢; omega
  ·simp [suml]
theorem runs_in {fr : List Bool} : ∀ {k : Nat} {x : Nat × Nat},x ∈ runsAt fr k → x.1 + x.2 ≤ fr.length := by
 intro k
 induction h : fr.length - k using Nat.strongRecOn generalizing k with
 | ind m ih =>
  subst h
  intro x hx
  rw [runsAt] at hx
  split at hx
  ·rename_i hk
   have h1 := rlen_le fr k
   rcases List.mem_append.1 hx with hx | hx
   ·split at hx
    ·rw [List.mem_singleton.1 hx]; simp only; omega
    ·cases hx
   ·exact ih (fr.length - (k + rlen fr k + 1)) om rfl hx
  ·cases hx
theorem sp_nodup {w : World} {s : Nat} {f : Int} {x : Nat × Nat × List Value} {fr : List Bool} (h : Has w (spC s f x fr)) : ((spC s f x fr).map (·.1)).Nodup := by
 have h1 := h _ mH
 have h2 := h _ (List.mem_cons_of_mem _ mH)
 have hne : s ≠ x.1 := fun e => by
  simp only at h1 h2
  rw [e,h2] at h1
  simp at h1
 simp [spC,hne]
set_option maxRecDepth 100000 in
theorem freeC (s b cp : Nat) (jk : List Value) (f : Int) (fr : List Bool) (w : World) (hf : -9223372036854775808 ≤ f ∧ f + fr.length ≤ 9223372036854775807) (hm : fr.length ≤ 4096) (hR : Has w (spC s f (b,cp,jk) fr)) :
  Calls Tryz.prog 47 #[.pointer (some ⟨s,0,none⟩)] w fun e w' => e = .returned (.int .i64 (suml (runsAt fr 0) : Int)) ∧ Ext [] w w' := by
 refine enterM (vs := [pT s]) [] [(s,.cells #[.int .i64 f,.slice (some ⟨b,0,none⟩) fr.length cp] 151 (0,0)),(b,.cells ((rb fr ++ jk).toArray) 4 (0,0))] [] Tryz.func47 rfl kr (HP.ofHas hR) ?_
 refine Rg [0] [] n0 trivial ?_
 refine Cfg.begL rfl ?_
 refine Le (Eff.alloc (z := (.int .i64 0)) rfl kr) ?_
 rintro za ⟨hza,nza⟩
 refine Le (Eff.store1 (b := za) (off := 0) (v := .int .i64 0) rfl kr kr rfl kr 0 (cs := #[.int .i64 0]) (e := 3) kr (by simp)) ?_
 rintro ⟨⟩ -
 refine CfgL.done rfl ?_
 refine Cfg.begL rfl ?_
 refine Lp 1 [] (some [3,5]) n0 trivial ?_
 refine Le (Eff.callN (vs := [pT s]) (fun tb => .func (.func 129) #[] #[pT tb]) (fun tb => tb) (fun _ => .cells #[pT s] 82 (0,0)) (fun _ => True) rfl Tryz.func88 rfl rfl kr (fun w1 h => runsC s w1)) ?_
 rintro tb -
 refine CfgL.done rfl ?_
 refine Cg (Γ' := [(6,[],.func (.func 129) #[] #[pT tb]),(3,[],pT za)]) ?_
 refine Cfg.rangeJ rfl (caps := #[pT tb]) kr Tryz.func129 kr rfl kr (runsIt tb s b cp jk f fr hf hm) (σ := Nat) (fun (m : Nat) => [(tb,.cells #[pT s] 82 (0,0)),(za,.cells #[.int .i64 (m : Int)] 3 (0,0))]) (fun pre m => m = suml pre) 0 rfl [(s,.cells #[.int .i64 f,.slice (some ⟨b,0,none⟩) fr.length cp] 151 (0,0)),(b,.cells ((rb fr ++ jk).toArray) 4 (0,0))] (by rfl) (fun e he => he) (fun w1 h => sp_nodup (x := (b,cp,jk)) (h.hasR (fun e he => he))) (fun (m : Nat) => [(tb,.cells #[pT s] 82 (0,0)),(za,.cells #[.int .i64 (m : Int)] 3 (0,0)),(s,.cells #[.int .i64 f,.slice (some ⟨b,0,none⟩) fr.length cp] 151 (0,0)),(b,.cells ((rb fr ++ jk).toArray) 4 (0,0))]) (fun _ => rfl) (fun _ => true) (fun pre x _ _ e he => List.Sublist.subset (.cons_cons _ (.cons _ (.cons_cons _ (.cons_cons _ .slnil)))) he) (.ret) rfl ?_ ?_ ?_
 ·intro l ob1 ob2 w2 M2 pre m ⟨k,n⟩ rest hal hJx hit
  have hs := suml_le fr 0
  rw [hit,suml_app,suml_cons] at hs
  have hm2 : m = suml pre := hJx
  simp only at hs
  refine ⟨Nat,fun _ => True,fun (zy : Nat) => [(4,[],pT zy),(3,[],pT za)],fun (zy : Nat) => [(zy,.cells #[.int .i64 (f + (k : Int)),.int .i64 (n : Int)] 117 (0,0)),(tb,.cells #[pT s] 82 (0,0)),(za,.cells #[.int .i64 (m : Int)] 3 (0,0)),(s,.cells #[.int .i64 f,.slice (some ⟨b,0,none⟩) fr.length cp] 151 (0,0)),(b,.cells ((rb fr ++ jk).toArray) 4 (0,0))],?_,?_⟩
  ·
   refine Cfg.begL rfl ?_
   refine Le (Eff.alloc (z := (.agg #[.int .i64 0,.int .i64 0])) rfl kr) ?_
   rintro zy ⟨hzy,nzy⟩
   refine Le (Eff.storeN (b := zy) (off := 0) (vs := #[.int .i64 (f + (k : Int)),.int .i64 (n : Int)]) (n := 2) rfl kr kr kr rfl (two_one rfl rfl) 0 (cs := #[.int .i64 0,.int .i64 0]) (e := 117) kr (Nat.le_refl 2)) ?_
   rintro ⟨⟩ -
   refine CfgL.setO (congrArg (fun (xq : Array Value) => ([(zy,.cells xq 117 (0,0)),(l,ob1),(tb,.cells #[pT s] 82 (0,0)),(za,.cells #[.int .i64 (m : Int)] 3 (0,0)),(s,.cells #[.int .i64 f,.slice (some ⟨b,0,none⟩) fr.length cp] 151 (0,0)),(b,.cells ((rb fr ++ jk).toArray) 4 (0,0))] : LO)) (show _ = #[.int .i64 (f + (k : Int)),.int .i64 (n : Int)] from rfl)) ?_
   refine CfgL.done rfl ?_
   refine Cg (Γ' := [(4,[],pT zy),(3,[],pT za)]) ?_
   refine Cfg.permO (O' := [(l,ob1),(zy,.cells #[.int .i64 (f + (k : Int)),.int .i64 (n : Int)] 117 (0,0)),(tb,.cells #[pT s] 82 (0,0)),(za,.cells #[.int .i64 (m : Int)] 3 (0,0)),(s,.cells #[.int .i64 f,.slice (some ⟨b,0,none⟩) fr.length cp] 151 (0,0)),(b,.cells ((rb fr ++ jk).toArray) 4 (0,0))]) (List.Perm.swap _ _ _) ?_
   refine Cfg.mid rfl zy trivial (Conv.mk kr) slr
  ·rintro zy -
   refine Cfg.begL rfl ?_
   refine Lp 4 [(dS (.int .i64 (m : Int))),dZ,(dS (.int .i64 (n : Int)))] (some [3,11]) (fun S => [(cE S za 0 (.int .i64 (m : Int))),(cE S zy 1 (.int .i64 (n : Int))),(i6 ((m : Int) + (n : Int)))]) ⟨(oC 3 rfl rfl),(oC 1 rfl rfl),om,trivial⟩ ?_
   refine Le (Eff.store1 (b := za) (off := 0) (v := .int .i64 ((m : Int) + (n : Int))) rfl kr kr rfl kr 3 (cs := #[.int .i64 (m : Int)]) (e := 3) kr (by simp)) ?_
   rintro ⟨⟩ -
   refine CfgL.done rfl ?_
   refine Cg (Γ' := []) ?_
   refine Cfg.finR rfl (fun w1 hp => ?_)
   exact ⟨m + n,by rw [suml_app,← hm2,suml_cons]; rfl,rfl,hp.sub (.cons_cons _ (.cons _ (.cons_cons _ (.cons_cons _ (.cons_cons _ (.cons_cons _ .slnil))))))⟩
 ·intro dr1 m hal hJy
  refine Rg [2] [(dS (.int .i64 (m : Int)))] (fun S => [(cE S za 0 (.int .i64 (m : Int)))]) ⟨(oC 2 rfl rfl),trivial⟩ ?_
  refine Cfg.retM (O' := [(tb,.cells #[pT s] 82 (0,0)),(za,.cells #[.int .i64 (m : Int)] 3 (0,0))]) rfl (rs := [.tmp 2]) rfl [.int .i64 (m : Int)] slr ⟨kr,trivial⟩ (fun w1 hp => ?_)
  exact ⟨by rw [show m = _ from hJy]; rfl,hp.ext⟩
 ·intro dr1 m pre ⟨k,n⟩ rest hit hal hpa hJy
  cases hpa
end Go.Proofs.YtfgdepggdiibdaaGreatDoor
namespace Go.Proofs.YtfgdepggdiibdaaGreatDoor
open K
set_option linter.unusedVariables false
def tkG (f : Int) (fr : List Bool) (n : Int) : Option (Nat × Nat) → Int × Nat × List Bool
 | none => (0,0,fr)
 | some r => (f + (r.1 : Int),(turnF f fr.length false [(f + (r.1 : Int),n)] fr).1,turnR f false [(f + (r.1 : Int),n)] fr)
def takeF (f : Int) (fr : List Bool) (n : Int) : Int × Nat × List Bool :=
 if n < 1 then (0,2,fr) else match (runsAt fr 0).find? (fun r => decide (n ≤ (r.2 : Int))) with
  | none => (0,14,fr)
  | some r => tkG f fr n (some r)
abbrev TS := Int × Nat × List Bool × Nat × Nat × List Value
def TJ (f : Int) (fr : List Bool) (n : Int) (b cp : Nat) (jk : List Value) (pre : List (Nat × Nat)) (z : TS) : Prop :=
 (z.1,z.2.1,z.2.2.1) = tkG f fr n (pre.find? fun r => decide (n ≤ (r.2 : Int))) ∧ (pre.find? (fun r => decide (n ≤ (r.2 : Int))) = none → z.2.2.2 = (b,cp,jk))
def tkP (n : Int) (r : Nat × Nat) : Bool := !decide (n ≤ (r.2 : Int))
theorem tk_none {n : Int} {pre : List (Nat × Nat)} (h : ∀ y ∈ pre,tkP n y = true) : pre.find? (fun r => decide (n ≤ (r.2 : Int))) = none := by
 rw [List.find?_eq_none]
 intro x hx
 have := h x hx
 simpa [tkP] using this
theorem tk_some {n : Int} {pre rest : List (Nat × Nat)} {a : Nat × Nat} (h : ∀ y ∈ pre,tkP n y = true) (ha : tkP n a = false) : (pre ++ a :: rest).find? (fun r => decide (n ≤ (r.2 : Int))) = some a := by
 rw [List.find?_append,tk_none h]
 have : n ≤ (a.2 : Int) := by simpa [tkP] using ha
 simp [this]
section
variable {f : Int} {fr : List Bool} {n : Int} {b cp : Nat} {jk : List Value} {pre : List (Nat × Nat)} {a : Nat × Nat}
theorem TJ_none {a1 : Int} {e1 : Nat} {f2 : List Bool} {xb xc : Nat} {xj : List Value} (h : TJ f fr n b cp jk pre (a1,e1,f2,xb,xc,xj)) (hp : ∀ y ∈ pre,tkP n y = true) : 0 = a1 ∧ 0 = e1 ∧ fr = f2 ∧ b = xb ∧ cp = xc ∧ jk = xj := by
 obtain ⟨h1,h2⟩ := h
 rw [tk_none hp] at h1
 have h3 := h2 (tk_none hp)
 simp only [tkG,Prod.mk.injEq] at h1 h3
 exact ⟨h1.1.symm,h1.2.1.symm,h1.2.2.symm,h3.1.symm,h3.2.1.symm,h3.2.2.symm⟩
theorem TJ_keep (hp : ∀ y ∈ pre,tkP n y = true) : TJ f fr n b cp jk pre (0,0,fr,b,cp,jk) := ⟨by rw [tk_none hp]; rfl,fun _ => rfl⟩
theorem TJ_stop {x : Nat × Nat × List Value} (hp : ∀ y ∈ pre,tkP n y = true) (ha : tkP n a = false) : TJ f fr n b cp jk (pre ++ [a]) (f + (a.1 : Int),(turnF f fr.length false [(f + (a.1 : Int),n)] fr).1,turnR f false [(f + (a.1 : Int),n)] fr,x) :=
 ⟨by rw [tk_some hp ha]; rfl,fun h => by rw [tk_some hp ha] at h; cases h⟩
theorem TJ_end {a1 : Int} {e1 : Nat} {f2 : List Bool} {x : Nat × Nat × List Value} (h : TJ f fr n b cp jk (pre ++ [a]) (a1,e1,f2,x)) (hp : ∀ y ∈ pre,tkP n y = true) (ha : tkP n a = false) : (a1,e1,f2) = tkG f fr n (some a) := by
 have h1 := h.1
 rw [tk_some hp ha] at h1
 exact h1
theorem all_snoc {p : Nat × Nat → Bool} (hp : ∀ y ∈ pre,p y = true) (ha : p a = true) : ∀ y ∈ pre ++ [a],p y = true := fun y hy => by
 rcases List.mem_append.1 hy with hy | hy
 ·exact hp y hy
 ·rw [List.mem_singleton.1 hy]; exact ha
end
theorem takeF_low {f : Int} {fr : List Bool} {n : Int} (h : n < 1) : takeF f fr n = (0,2,fr) := by unfold takeF; rw [if_pos h]
theorem takeF_none {f : Int} {fr : List Bool} {n : Int} (h : ¬ n < 1) (hp : ∀ y ∈ runsAt fr 0,tkP n y = true) : takeF f fr n = (0,14,fr) := by unfold takeF; rw [if_neg h,tk_none hp]
theorem takeF_some {f : Int} {fr : List Bool} {n : Int} (h : ¬ n < 1) {pre rest : List (Nat × Nat)} {a : Nat × Nat} (hi : runsAt fr 0 = pre ++ a :: rest) (hp : ∀ y ∈ pre,tkP n y = true) (ha : tkP n a = false) : takeF f fr n = tkG f fr n (some a) := by unfold takeF; rw [if_neg h,hi,tk_some hp ha]
theorem ins1 (zl t : Nat) (a n : Int) : InS [(zl,.cells #[.int .i64 a,.int .i64 n] t (0,0))] (some ⟨zl,0,none⟩) (2 * [(a,n)].length) (rcell [(a,n)]) := by
 intro _
 refine ⟨zl,0,_,t,(0,0),rfl,mH,fun j hj => ?_⟩
 have hj2 : j < 2 := hj
 match j,hj2 with
 | 0,_ => rfl
 | 1,_ => rfl
theorem ra1 {a n : Int} (h : I64 a) (i : Nat) : I64 (ra [(a,n)] i) := by
 cases i with
 | zero => exact h
 | succ i => exact ⟨by simp [ra],by simp [ra]⟩
theorem rl1 {a n : Int} (h : I64 n) (i : Nat) : I64 (rl [(a,n)] i) := by
 cases i with
 | zero => exact h
 | succ i => exact ⟨by simp [rl],by simp [rl]⟩
set_option maxRecDepth 100000 in
theorem takeC (s b cp : Nat) (jk : List Value) (f : Int) (fr : List Bool) (n : Int) (w : World) (hf : -9223372036854775808 ≤ f ∧ f + fr.length ≤ 9223372036854775807) (hm : fr.length ≤ 4096) (h0 : 0 < fr.length) (hn : I64 n) (hA : Has w (spC s f (b,cp,jk) fr)) (hd : ((spC s f (b,cp,jk) fr).map (·.1)).Nodup) :
  Calls Tryz.prog 97 #[.pointer (some ⟨s,0,none⟩),.int .i64 n] w fun e w' => ∃ x,e = .returned (.tuple #[.int .i64 (takeF f fr n).1,.int .i64 ((takeF f fr n).2.1 : Int)]) ∧ ∃ R1,HP w [s,b] R1 (spC s f x (takeF f fr n).2.2) w' := by
 have hf2 : I64 f := ⟨hf.1,by omega⟩
 have hn2 := hn
 unfold I64 at hn2
 refine enterM (vs := [pT s,.int .i64 n]) [s,b] [] [(s,.cells #[.int .i64 f,.slice (some ⟨b,0,none⟩) fr.length cp] 151 (0,0)),(b,.cells ((rb fr ++ jk).toArray) 4 (0,0))] Tryz.func97 rfl kr (HP.ofL hA hd (fun e he => by cases he) (fun e he => by cases he)) ?_
 refine Cfg.begL rfl ?_
 refine Le (Eff.box (v := pT s) rfl kr) ?_
 rintro zs ⟨hzs,nzs⟩
 refine Le (Eff.box (v := .int .i64 n) rfl kr) ?_
 rintro zn ⟨hzn,nzn⟩
 refine Le (Eff.alloc (z := (.int .i64 0)) rfl kr) ?_
 rintro za ⟨hza,nza⟩
 refine Le (Eff.alloc (z := (.int .i64 0)) rfl kr) ?_
 rintro ze ⟨hze,nze⟩
 refine CfgL.done rfl ?_
 refine Cg (Γ' := [(5,[],pT ze),(4,[],pT za),(3,[],pT zn),(2,[],pT zs)]) ?_
 refine Rg [2,3,4,5,8] [(dS (pT s))] (fun S => [(cE S zs 0 (pT s))]) ⟨(oC 3 rfl rfl),trivial⟩ ?_
 refine Cfg.condF rfl (b := false) kr rfl ?_
 refine Rg [2,3,4,5,10] [(dS (.int .i64 n))] (fun S => [(cE S zn 0 (.int .i64 n))]) ⟨(oC 2 rfl rfl),trivial⟩ ?_
 refine Cfg.cond rfl (b := (decide (n < (1 : Int)))) kr (fun c2r => ?_) (fun c2r => ?_)
 ·have c2 := (dT c2r)
  refine Cfg.begL rfl ?_
  refine Le (Eff.store1 (b := za) (off := 0) (v := .int .i64 0) rfl kr kr rfl kr 1 (cs := #[.int .i64 0]) (e := 3) kr (by simp)) ?_
  rintro ⟨⟩ -
  refine Le (Eff.store1 (b := ze) (off := 0) (v := .int .i64 2) rfl kr kr rfl kr 0 (cs := #[.int .i64 0]) (e := 27) kr (by simp)) ?_
  rintro ⟨⟩ -
  refine CfgL.done rfl ?_
  refine Cg (Γ' := [(5,[],pT ze),(4,[],pT za)]) ?_
  refine Cfg.retM (O' := [(ze,.cells (#[.int .i64 0].setIfInBounds 0 (.int .i64 2)) 27 (0,0)),(za,.cells (#[.int .i64 0].setIfInBounds 0 (.int .i64 0)) 3 (0,0)),(zn,.cells #[.int .i64 n] 3 (0,0)),(zs,.cells #[pT s] 82 (0,0)),(s,.cells #[.int .i64 f,.slice (some ⟨b,0,none⟩) fr.length cp] 151 (0,0)),(b,.cells ((rb fr ++ jk).toArray) 4 (0,0))]) rfl (rs := [.cell 4 3,.cell 5 27]) rfl [.int .i64 0,.int .i64 2] slr ⟨⟨_,by kernel_rfl,fun w1 h => h.ovar 1 (off := 0) rfl kr rfl⟩,⟨_,by kernel_rfl,fun w1 h => h.ovar 0 (off := 0) rfl kr rfl⟩,trivial⟩ (fun w1 hp => ?_)
  rw [takeF_low c2]
  exact ⟨(b,cp,jk),rfl,_,hp.sub (.cons _ (.cons _ (.cons _ (.cons _ (.cons_cons _ (.cons_cons _ .slnil))))))⟩
 ·have c2 := (dF c2r)
  have hlow : ¬ n < 1 := c2
  refine Cfg.begL rfl ?_
  refine Lp 1 [(dS (pT s))] (some [2,3,4,5,11]) (fun S => [(cE S zs 0 (pT s))]) ⟨(oC 3 rfl rfl),trivial⟩ ?_
  refine Le (Eff.callN (vs := [pT s]) (fun tb => .func (.func 129) #[] #[pT tb]) (fun tb => tb) (fun _ => .cells #[pT s] 82 (0,0)) (fun _ => True) rfl Tryz.func88 rfl rfl kr (fun w1 h => runsC s w1)) ?_
  rintro tb -
  refine CfgL.done rfl ?_
  refine Cg (Γ' := [(12,[],.func (.func 129) #[] #[pT tb]),(5,[],pT ze),(4,[],pT za),(3,[],pT zn),(2,[],pT zs)]) ?_
  refine Cfg.rangeJ rfl (caps := #[pT tb]) kr Tryz.func129 kr rfl kr (runsIt tb s b cp jk f fr hf hm) (σ := TS) (fun (z : TS) => [(tb,.cells #[pT s] 82 (0,0)),(ze,.cells #[.int .i64 (z.2.1 : Int)] 27 (0,0)),(za,.cells #[.int .i64 z.1] 3 (0,0)),(zn,.cells #[.int .i64 n] 3 (0,0)),(zs,.cells #[pT s] 82 (0,0)),(s,.cells #[.int .i64 f,.slice (some ⟨z.2.2.2.1,0,none⟩) z.2.2.1.length z.2.2.2.2.1] 151 (0,0)),(z.2.2.2.1,.cells ((rb z.2.2.1 ++ z.2.2.2.2.2).toArray) 4 (0,0))]) (TJ f fr n b cp jk) (0,0,fr,b,cp,jk) (TJ_keep (fun y hy => by cases hy)) [] (by rfl) (fun e he => by cases he) (fun w1 h => List.nodup_nil) (fun (z : TS) => [(tb,.cells #[pT s] 82 (0,0)),(ze,.cells #[.int .i64 (z.2.1 : Int)] 27 (0,0)),(za,.cells #[.int .i64 z.1] 3 (0,0)),(zn,.cells #[.int .i64 n] 3 (0,0)),(zs,.cells #[pT s] 82 (0,0)),(s,.cells #[.int .i64 f,.slice (some ⟨z.2.2.2.1,0,none⟩) z.2.2.1.length z.2.2.2.2.1] 151 (0,0)),(z.2.2.2.1,.cells ((rb z.2.2.1 ++ z.2.2.2.2.2).toArray) 4 (0,0))]) (fun _ => rfl) (tkP n) (fun pre x hp hx e he => by obtain ⟨a1,e1,fr2,xb,xc,xj⟩ := x; obtain ⟨rfl,rfl,rfl,rfl,rfl,rfl⟩ := TJ_none hx hp; exact List.Sublist.subset (.cons_cons _ (.cons _ (.cons _ (.cons _ (.cons _ (.cons_cons _ (.cons_cons _ .slnil))))))) he) (.ret) rfl ?_ ?_ ?_
  ·intro l ob1 ob2 w2 M2 pre ⟨a1,e1,fr2,xb,xc,xj⟩ ⟨k,m⟩ rest hal hJx hit
   obtain ⟨rfl,rfl,rfl,rfl,rfl,rfl⟩ := TJ_none hJx hal
   have hkm := runs_in (show (k,m) ∈ runsAt fr 0 by rw [hit]; simp)
   simp only at hkm
   have hfk : I64 (f + (k : Int)) := ⟨by omega,by omega⟩
   refine ⟨Nat,fun _ => True,fun (zy : Nat) => [(6,[],pT zy),(5,[],pT ze),(4,[],pT za),(3,[],pT zn),(2,[],pT zs)],fun (zy : Nat) => [(zy,.cells #[.int .i64 (f + (k : Int)),.int .i64 (m : Int)] 117 (0,0)),(tb,.cells #[pT s] 82 (0,0)),(ze,.cells #[.int .i64 (0 : Int)] 27 (0,0)),(za,.cells #[.int .i64 0] 3 (0,0)),(zn,.cells #[.int .i64 n] 3 (0,0)),(zs,.cells #[pT s] 82 (0,0)),(s,.cells #[.int .i64 f,.slice (some ⟨b,0,none⟩) fr.length cp] 151 (0,0)),(b,.cells ((rb fr ++ jk).toArray) 4 (0,0))],?_,?_⟩
   ·
    refine Cfg.begL rfl ?_
    refine Le (Eff.alloc (z := (.agg #[.int .i64 0,.int .i64 0])) rfl kr) ?_
    rintro zy ⟨hzy,nzy⟩
    refine Le (Eff.storeN (b := zy) (off := 0) (vs := #[.int .i64 (f + (k : Int)),.int .i64 (m : Int)]) (n := 2) rfl kr kr kr rfl (two_one rfl rfl) 0 (cs := #[.int .i64 0,.int .i64 0]) (e := 117) kr (Nat.le_refl 2)) ?_
    rintro ⟨⟩ -
    refine CfgL.setO (congrArg (fun (xq : Array Value) => ([(zy,.cells xq 117 (0,0)),(l,ob1),(tb,.cells #[pT s] 82 (0,0)),(ze,.cells #[.int .i64 (0 : Int)] 27 (0,0)),(za,.cells #[.int .i64 0] 3 (0,0)),(zn,.cells #[.int .i64 n] 3 (0,0)),(zs,.cells #[pT s] 82 (0,0)),(s,.cells #[.int .i64 f,.slice (some ⟨b,0,none⟩) fr.length cp] 151 (0,0)),(b,.cells ((rb fr ++ jk).toArray) 4 (0,0))] : LO)) (show _ = #[.int .i64 (f + (k : Int)),.int .i64 (m : Int)] from rfl)) ?_
    refine CfgL.done rfl ?_
    refine Cg (Γ' := [(6,[],pT zy),(5,[],pT ze),(4,[],pT za),(3,[],pT zn),(2,[],pT zs)]) ?_
    refine Cfg.permO (O' := [(l,ob1),(zy,.cells #[.int .i64 (f + (k : Int)),.int .i64 (m : Int)] 117 (0,0)),(tb,.cells #[pT s] 82 (0,0)),(ze,.cells #[.int .i64 (0 : Int)] 27 (0,0)),(za,.cells #[.int .i64 0] 3 (0,0)),(zn,.cells #[.int .i64 n] 3 (0,0)),(zs,.cells #[pT s] 82 (0,0)),(s,.cells #[.int .i64 f,.slice (some ⟨b,0,none⟩) fr.length cp] 151 (0,0)),(b,.cells ((rb fr ++ jk).toArray) 4 (0,0))]) (List.Perm.swap _ _ _) ?_
    refine Cfg.mid rfl zy trivial (Conv.mk kr) slr
   ·rintro zy -
    refine Rg [2,3,4,5,6,17] [dZ,(dS (.int .i64 (m : Int))),(dS (.int .i64 n))] (fun S => [(cE S zy 1 (.int .i64 (m : Int))),(cE S zn 0 (.int .i64 n))]) ⟨(oC 1 rfl rfl),(oC 5 rfl rfl),trivial⟩ ?_
    refine Cfg.cond rfl (b := (decide ((m : Int) ≥ n))) kr (fun c3r => ?_) (fun c3r => ?_)
    ·have c3 := (dT c3r)
     refine Cfg.begA rfl kr [(l,ob2),(zy,.cells #[.int .i64 (f + (k : Int)),.int .i64 (m : Int)] 117 (0,0)),(tb,.cells #[pT s] 82 (0,0)),(zn,.cells #[.int .i64 n] 3 (0,0)),(zs,.cells #[pT s] 82 (0,0))] ?_
     refine Ap [0,1,2,3,4,5,6] [dZ,(dS (.int .i64 (f + (k : Int)))),(dS (pT s)),dZ,(dS (.int .i64 (f + (k : Int)))),(dS (.int .i64 n)),(dS (.agg #[.int .i64 (f + (k : Int)),.int .i64 n]))] (some [4,5,19,20,24]) (tF 7 4) (.cons_cons _ (.cons_cons _ (.cons_cons _ (.cons _ (.cons _ (.cons_cons _ (.cons_cons _ (.cons _ (.cons _ .slnil))))))))) 4 (fun S => [(cE S zy 0 (.int .i64 (f + (k : Int)))),(cE S zs 0 (pT s)),(cE S zy 0 (.int .i64 (f + (k : Int)))),(cE S zn 0 (.int .i64 n)),(∀ w1,S w1 → (Instr.build 117 #[(0,.int .i64 (f + (k : Int))),(1,.int .i64 n)]).run Tryz.prog w1 = .ok (.agg #[.int .i64 (f + (k : Int)),.int .i64 n]) w1)]) ⟨(oC 1 rfl rfl),(oC 4 rfl rfl),(oC 1 rfl rfl),(oC 3 rfl rfl),(fun _ _ => kr),trivial⟩ ?_
     refine Ae 7 rfl 3  (Eff.buildAgg (vs := #[.int .i64 (f + (k : Int)),.int .i64 n]) (n := 2) rfl kr Tryz.underlying114 kr (z := (.agg #[.int .i64 0,.int .i64 0])) kr rfl (by decide) (by decide)) (fun _ _ => (.cons _ (.cons_cons _ (.cons_cons _ (.cons_cons _ (.cons _ (.cons _ (.cons_cons _ (.cons_cons _ (.cons _ (.cons _ .slnil))))))))))) ?_
     rintro zl ⟨hzl,nzl⟩
     refine Ae 8 rfl 2  (Eff.callH (vs := [pT s,.slice (some ⟨zl,0,none⟩) 1 1]) (fun _ : Nat × Nat × List Value => .int .i64 ((turnF f fr.length false [(f + (k : Int),n)] fr).1 : Int)) (spC s f (b,cp,jk) fr) (fun x => spC s f x (turnR f false [(f + (k : Int),n)] fr)) (fun _ => True) [(zl,.cells #[.int .i64 (f + (k : Int)),.int .i64 n] 117 (0,0)),(l,ob2),(zy,.cells #[.int .i64 (f + (k : Int)),.int .i64 (m : Int)] 117 (0,0)),(tb,.cells #[pT s] 82 (0,0)),(ze,.cells #[.int .i64 (0 : Int)] 27 (0,0)),(za,.cells #[.int .i64 0] 3 (0,0)),(zn,.cells #[.int .i64 n] 3 (0,0)),(zs,.cells #[pT s] 82 (0,0))] [] rfl rfl Tryz.func71 rfl rfl kr (fun w1 h hA1 hd1 => (claimC s b cp jk f fr (some ⟨zl,0,none⟩) 1 [(f + (k : Int),n)] [(zl,.cells #[.int .i64 (f + (k : Int)),.int .i64 n] 117 (0,0))] w1 hf2 hm h0 (ins1 zl 117 (f + (k : Int)) n) (by show 1 ≤ maxLen; decide) (ra1 hfk) (rl1 hn) hA1 hd1 (h.has (fun e he => by rw [List.mem_singleton.1 he]; exact mG 0 rfl)) (fun e he => by rw [List.mem_singleton.1 he]; simp only [spC,List.map_cons,List.map_nil,List.mem_cons,List.not_mem_nil,or_false,not_or]; exact ⟨h.ne 0 8 rfl rfl (by decide),h.ne 0 9 rfl rfl (by decide)⟩)).mono fun e w2 hx => by obtain ⟨x,he,R1,hq⟩ := hx; exact ⟨x,trivial,he,R1,hq⟩)) (fun _ _ => (.cons _ (.cons_cons _ (.cons_cons _ (.cons_cons _ (.cons _ (.cons _ (.cons_cons _ (.cons_cons _ (.cons _ (.cons _ .slnil))))))))))) ?_
     rintro ⟨xb,xc,xj⟩ -
     refine Ae 9 rfl 1  (Eff.store1 (b := za) (off := 0) (v := .int .i64 (f + (k : Int))) rfl kr kr rfl kr 5 (cs := #[.int .i64 0]) (e := 3) kr (by simp)) (fun _ _ => (.cons _ (.cons_cons _ (.cons_cons _ (.cons_cons _ (.cons _ (.cons _ (.cons_cons _ (.cons_cons _ (.cons _ (.cons _ .slnil))))))))))) ?_
     rintro ⟨⟩ -
     refine Ae 10 rfl 0  (Eff.store1 (b := ze) (off := 0) (v := .int .i64 ((turnF f fr.length false [(f + (k : Int),n)] fr).1 : Int)) rfl kr kr rfl kr 4 (cs := #[.int .i64 (0 : Int)]) (e := 27) kr (by simp)) (fun _ _ => (.cons _ (.cons_cons _ (.cons_cons _ (.cons_cons _ (.cons _ (.cons _ (.cons_cons _ (.cons_cons _ (.cons _ (.cons _ .slnil))))))))))) ?_
     rintro ⟨⟩ -
     refine CfgA.done kr ?_
     refine Cg (Γ' := [(5,[],pT ze),(4,[],pT za)]) ?_
     refine Cfg.retR rfl (fun w1 hp => ?_)
     have hpa : tkP n (k,m) = false := by simp only [tkP]; simpa using c3
     exact ⟨(f + (k : Int),(turnF f fr.length false [(f + (k : Int),n)] fr).1,turnR f false [(f + (k : Int),n)] fr,xb,xc,xj),TJ_stop hal hpa,by rw [if_neg (by rw [hpa]; decide)],hp.sub (.cons _ (.cons_cons _ (.cons _ (.cons_cons _ (.cons_cons _ (.cons_cons _ (.cons_cons _ (.cons_cons _ (.cons_cons _ (.cons_cons _ .slnil))))))))))⟩
    ·have c3 := (dF c3r)
     refine Cfg.finR rfl (fun w1 hp => ?_)
     have hpa : tkP n (k,m) = true := by simp only [tkP]; simpa using c3
     exact ⟨(0,0,fr,b,cp,jk),TJ_keep (all_snoc hal hpa),by rw [if_pos hpa],hp.sub (.cons_cons _ (.cons _ (.cons_cons _ (.cons_cons _ (.cons_cons _ (.cons_cons _ (.cons_cons _ (.cons_cons _ (.cons_cons _ .slnil)))))))))⟩
  ·intro dr1 ⟨a1,e1,fr2,xb,xc,xj⟩ hal hJy
   obtain ⟨rfl,rfl,rfl,rfl,rfl,rfl⟩ := TJ_none hJy hal
   have hT := takeF_none (f := f) hlow hal
   refine Cfg.begL rfl ?_
   refine Le (Eff.store1 (b := za) (off := 0) (v := .int .i64 0) rfl kr kr rfl kr 3 (cs := #[.int .i64 0]) (e := 3) kr (by simp)) ?_
   rintro ⟨⟩ -
   refine Le (Eff.store1 (b := ze) (off := 0) (v := .int .i64 14) rfl kr kr rfl kr 2 (cs := #[.int .i64 (0 : Int)]) (e := 27) kr (by simp)) ?_
   rintro ⟨⟩ -
   refine CfgL.done rfl ?_
   refine Cg (Γ' := [(5,[],pT ze),(4,[],pT za)]) ?_
   refine Cfg.retM (O' := [(tb,.cells #[pT s] 82 (0,0)),(ze,.cells (#[.int .i64 (0 : Int)].setIfInBounds 0 (.int .i64 14)) 27 (0,0)),(za,.cells (#[.int .i64 0].setIfInBounds 0 (.int .i64 0)) 3 (0,0)),(zn,.cells #[.int .i64 n] 3 (0,0)),(zs,.cells #[pT s] 82 (0,0)),(s,.cells #[.int .i64 f,.slice (some ⟨b,0,none⟩) fr.length cp] 151 (0,0)),(b,.cells ((rb fr ++ jk).toArray) 4 (0,0))]) rfl (rs := [.cell 4 3,.cell 5 27]) rfl [.int .i64 0,.int .i64 14] slr ⟨⟨_,by kernel_rfl,fun w1 h => h.ovar 2 (off := 0) rfl kr rfl⟩,⟨_,by kernel_rfl,fun w1 h => h.ovar 1 (off := 0) rfl kr rfl⟩,trivial⟩ (fun w1 hp => ?_)
   rw [hT]
   exact ⟨(b,cp,jk),rfl,_,hp.sub (.cons _ (.cons _ (.cons _ (.cons _ (.cons _ (.cons_cons _ (.cons_cons _ .slnil)))))))⟩
  ·intro dr1 ⟨a1,e1,fr2,xb,xc,xj⟩ pre ⟨k,m⟩ rest hit hal hpa hJy
   have he := TJ_end hJy hal hpa
   have hT := takeF_some (f := f) hlow hit hal hpa
   rw [← he] at hT
   refine Cfg.retM (O' := [(tb,.cells #[pT s] 82 (0,0)),(ze,.cells #[.int .i64 (e1 : Int)] 27 (0,0)),(za,.cells #[.int .i64 a1] 3 (0,0)),(zn,.cells #[.int .i64 n] 3 (0,0)),(zs,.cells #[pT s] 82 (0,0)),(s,.cells #[.int .i64 f,.slice (some ⟨xb,0,none⟩) fr2.length xc] 151 (0,0)),(xb,.cells ((rb fr2 ++ xj).toArray) 4 (0,0))]) rfl (rs := [.cell 4 3,.cell 5 27]) rfl [.int .i64 a1,.int .i64 (e1 : Int)] slr ⟨⟨_,by kernel_rfl,fun w1 h => h.ovar 2 (off := 0) rfl kr rfl⟩,⟨_,by kernel_rfl,fun w1 h => h.ovar 1 (off := 0) rfl kr rfl⟩,trivial⟩ (fun w1 hp => ?_)
   rw [hT]
   exact ⟨(xb,xc,xj),rfl,_,hp.sub (.cons _ (.cons _ (.cons _ (.cons _ (.cons _ (.cons_cons _ (.cons_cons _ .slnil)))))))⟩
end Go.Proofs.YtfgdepggdiibdaaGreatDoor
namespace Go.Proofs.YtfgdepggdiibdaaGreatDoor
open K
set_option linter.unusedVariables false
theorem run_mkB {P : Program} {w : World} {t e : TypeId} {k : IntKind} {n : Nat} {inf : TypeInfo} (hu : P.underlying t = some (.slice e)) (hinf : P.info? e = some inf) (hb : inf.bytes = 1) (hs : inf.size = 1) (hz : inf.zero = some (.bool false)) (h0 : 0 < n) (hn : n ≤ 4096) :
  (Instr.makeSlice t (.int k (n : Int)) (.int k (n : Int))).run P w = .ok (.slice (some ⟨w.heap.size,0,none⟩) n n) (w.alloc (.cells (rb (List.replicate n false)).toArray e (0,0))) := by
 have w1 : IntKind.i64.wrap (n : Int) = (n : Int) := wrap_in (by simp [lo,hi]; omega)
 have c1 : ¬ ((n : Int) < 0) := by omega
 have c2 : ¬ ((inf.bytes : Int) * (n : Int) > 2 ^ 48) := by rw [hb]; omega
 have c4 : ¬ ((n : Int) > (n : Int)) := by omega
 have hti : (typeInfo e).run P w = .ok inf w := by simp [typeInfo,program,Sem.run,hinf]
 have har : (askRoom ((n : Int).toNat * inf.bytes)).run P w = .ok () w := by
  unfold askRoom
  split <;> rfl
 have hzv : (zeroValue e).run P w = .ok (.bool false) w := by simp [zeroValue,typeInfo,program,Sem.run,hinf,hz]
 have hrow : (Array.range n).map (fun x => (#[Value.bool false] : Array Value)[x % 1]!) = (rb (List.replicate n false)).toArray := by
  apply Array.ext
  ·simp [rb]
  ·intro i h1 h2
   simp [rb,Nat.mod_one]
 simp only [Instr.makeSlice,Sem.run_bind,run_underlying' hu,Result.andThen_ok,asInt,asIntOf,Sem.run_pure,hti,w1,c1,c2,c4,decide_false,Bool.or_self,Bool.false_eq_true,if_false,har,run_sizeOf' hinf]
 rw [Int.toNat_natCast,hs,Nat.mul_one,if_neg om]
 simp only [Sem.run_bind,hzv,Result.andThen_ok,Sem.run_pure,Value.cells]
 rw [show (#[Value.bool false] : Array Value).size = 1 from rfl,hrow]
 simp [newRow,newObj,Sem.run]
end Go.Proofs.YtfgdepggdiibdaaGreatDoor
namespace Go.Proofs.YtfgdepggdiibdaaGreatDoor
open K
set_option linter.unusedVariables false
def tf (N k : Nat) : List Bool := List.replicate k true ++ List.replicate (N - k) false
theorem tf_len {N k : Nat} (h : k ≤ N) : (tf N k).length = N := by simp [tf]; omega
theorem tf_zero (N : Nat) : List.replicate N false = tf N 0 := by simp [tf]
theorem tf_all (N : Nat) : tf N N = List.replicate N true := by simp [tf]
theorem tf_set {N k : Nat} (h : k < N) : (tf N k).set k true = tf N (k + 1) := by
 unfold tf
 rw [List.set_append_right _ _ (by simp)]
 rw [show N - k = (N - (k + 1)) + 1 by omega,List.replicate_succ,List.length_replicate,Nat.sub_self,List.set_cons_zero,List.replicate_succ' (n := k),List.append_assoc]
 rfl
theorem mkB2 {P : Program} {w : World} {t e : TypeId} {k : IntKind} {n : Nat} (hu : P.underlying t = some (.slice e)) (hi : (P.info? e).map (fun i => (i.bytes,i.size,i.zero)) = some (1,1,some (.bool false))) (h0 : 0 < n) (hn : n ≤ 4096) :
  (Instr.makeSlice t (.int k (n : Int)) (.int k (n : Int))).run P w = .ok (.slice (some ⟨w.heap.size,0,none⟩) n n) (w.alloc (.cells (rb (List.replicate n false)).toArray e (0,0))) := by
 obtain ⟨inf,hinf,he⟩ := Option.map_eq_some_iff.1 hi
 simp only [Prod.mk.injEq] at he
 exact run_mkB hu hinf he.1 he.2.1 he.2.2 h0 hn
theorem minI2 {C : Cx} {R O : List (Nat × Obj)} {Γ : Env} {op : Oper} {x y : Operand} {tys : Array TypeId} {k : IntKind} {a b : Int} (c : Int) (hc : (if b < a then b else a) = c) (ho : op.op = .call ⟨.builtin .min,#[x,y],tys⟩) (hx : opd Γ [] x = some (.int k a)) (hy : opd Γ [] y = some (.int k b)) : Eff C R O Γ op Unit (fun _ => .int k c) (fun _ => O) (fun _ => True) := by
 subst hc; exact Eff.minI ho hx hy
theorem K.HP.conv {w0 w : World} {M : List Nat} {R O O' : List (Nat × Obj)} (h : HP w0 M R O w) (e : O = O') : HP w0 M R O' w := by rw [← e]; exact h
set_option maxRecDepth 100000 in
theorem newC (f t : Int) (N : Nat) (w : World) (hf : I64 f) (ht : I64 t) (hlt : f < t) (hN : N = min (t - f).toNat 4096) :
  Calls Tryz.prog 32 #[.int .i64 f,.int .i64 t] w fun e w' => ∃ x : Nat × Nat,e = .returned (.pointer (some ⟨x.1,0,none⟩)) ∧ ∃ R1,HP w [] R1 (spC x.1 f (x.2,N,[]) (List.replicate N true)) w' := by
 unfold I64 at hf ht
 refine enter (vs := [.int .i64 f,.int .i64 t]) [] [] [] Tryz.func32 rfl kr (HP.start w) ?_
 refine Rg [0,1] [] n0 trivial ?_
 refine Cfg.begL rfl ?_
 refine Lp 2 [dZ,(dS (.agg #[.int .i64 f,.slice none 0 0]))] (some [0,1,9]) (fun S => [(∀ w1,S w1 → (Instr.build 151 #[(0,.int .i64 f)]).run Tryz.prog w1 = .ok (.agg #[.int .i64 f,.slice none 0 0]) w1)]) ⟨(fun _ _ => kr),trivial⟩ ?_
 refine Le (Eff.box (v := .agg #[.int .i64 f,.slice none 0 0]) rfl kr) ?_
 rintro s ⟨hs,ns⟩
 refine Lp 1 [] (some [0,1,5]) n0 trivial ?_
 refine CfgL.done rfl ?_
 refine Rg [0,1,5,13] [] n0 trivial ?_
 refine Cfg.condF rfl (b := (decide (t ≤ f))) kr (decide_eq_false om) ?_
 refine Rg [5,6] [] n0 trivial ?_
 refine Cfg.begL rfl ?_
 refine Lp 2 [] (some [5,20,21]) n0 trivial ?_
 refine Le (minI2 (k := .u64) (a := (((t % 18446744073709551616) - (f % 18446744073709551616)) % 18446744073709551616)) (b := 4096) (N : Int) (by split <;> omega) rfl kr kr) ?_
 rintro ⟨⟩ -
 refine Le (Eff.makeRow (e := 4) (n := N) (cells := (rb (List.replicate N false)).toArray) (v1 := .int .u64 (N : Int)) (v2 := .int .u64 (N : Int)) rfl kr kr (fun w1 => mkB2 (P := Tryz.prog) (k := .u64) Tryz.underlying149 kr om om)) ?_
 rintro b ⟨hb,nb⟩
 refine Lp 2 [] (some [5,23,25]) n0 trivial ?_
 refine Le (Eff.store1 (b := s) (off := 1) (v := .slice (some ⟨b,0,none⟩) N N) rfl kr kr rfl kr 1 (cs := #[.int .i64 f,.slice none 0 0]) (e := 151) kr (by simp)) ?_
 rintro ⟨⟩ -
 refine CfgL.done rfl ?_
 refine Cg (Γ' := [(5,[],pT s)]) ?_
 refine Rg [5,30,31] [dZ,dZ,dZ,(dS (.slice (some ⟨b,0,none⟩) N N))] (fun S => [(cE S s 1 (.slice (some ⟨b,0,none⟩) N N))]) ⟨(oC 1 rfl rfl),trivial⟩ ?_
 refine Cfg.setO (congrArg (fun (xq : Array Value) => ([(b,.cells xq 4 (0,0)),(s,.cells ((#[.int .i64 f,.slice none 0 0] : Array Value).setIfInBounds 1 (.slice (some ⟨b,0,none⟩) N N)) 151 (0,0))] : LO)) (show _ = ((rb (tf N 0) ++ []).toArray) from by rw [List.append_nil,tf_zero])) ?_
 refine Cfg.loop rfl (ι := Nat) (fun (k : Nat) => [(31,[],.int .i64 (k : Int)),(30,[],.int .i64 (N : Int)),(5,[],pT s)]) (fun (k : Nat) => [(b,.cells ((rb (tf N k) ++ []).toArray) 4 (0,0)),(s,.cells ((#[.int .i64 f,.slice none 0 0] : Array Value).setIfInBounds 1 (.slice (some ⟨b,0,none⟩) N N)) 151 (0,0))]) (fun (k : Nat) => (k ≤ N)) (fun (k : Nat) => N - k) 0 ?_ (Conv.mk kr) (.cons_cons _ (.cons_cons _ .slnil)) ?_
 ·exact Nat.zero_le _
 ·rintro k hk
  refine Rg [5,30,31,32] [] n0 trivial ?_
  refine Cfg.cond rfl (b := (decide ((k : Int) < (N : Int)))) kr (fun c2r => ?_) (fun c2r => ?_)
  ·have c2 := (dT c2r)
   refine Rg [5,7,30,31] [] n0 trivial ?_
   refine Cfg.begL rfl ?_
   refine Lp 6 [dZ,dZ,dZ,(dS (.slice (some ⟨b,0,none⟩) N N))] (some [5,30,31,39]) (fun S => [(cE S s 1 (.slice (some ⟨b,0,none⟩) N N)),(0 ≤ (k : Int) ∧ (k : Int) < (N : Int))]) ⟨(oC 1 rfl rfl),om,trivial⟩ ?_
   refine Le (Eff.store1 (b := b) (off := k) (v := .bool true) rfl kr kr rfl kr 0 (cs := (rb (tf N k) ++ []).toArray) (e := 4) kr (by simp only [List.size_toArray,List.length_append,rb_len,tf_len (show k ≤ N by omega)]; simp only [List.length_nil]; omega)) ?_
   rintro ⟨⟩ -
   refine CfgL.done rfl ?_
   refine Cg (Γ' := [(31,[],.int .i64 (k : Int)),(30,[],.int .i64 (N : Int)),(5,[],pT s)]) ?_
   refine Rg [5,30,31] [] (fun _ => [(i6 ((k : Int) + 1))]) ⟨om,trivial⟩ ?_
   refine Cfg.setO (congrArg (fun (xq : Array Value) => ([(b,.cells xq 4 (0,0)),(s,.cells ((#[.int .i64 f,.slice none 0 0] : Array Value).setIfInBounds 1 (.slice (some ⟨b,0,none⟩) N N)) 151 (0,0))] : LO)) (show _ = ((rb (tf N (k + 1)) ++ []).toArray) from by rw [rb_set _ _ (by rw [tf_len om]; omega),tf_set om])) ?_
   refine Cfg.again rfl (k + 1) (by show k + 1 ≤ N; omega) (by show N - (k + 1) < N - k; omega) (Conv.mk kr) (.cons_cons _ (.cons_cons _ .slnil))
  ·have c2 := (dF c2r)
   refine Rg [4] [] n0 trivial ?_
   refine Cfg.ret rfl (rs := [.tmp 4]) rfl [pT s] ⟨kr,trivial⟩ (fun w1 hp => ?_)
   obtain rfl : k = N := by omega
   rw [tf_all] at hp
   have hl : (List.replicate k true).length = k := List.length_replicate
   refine ⟨(s,b),rfl,_,(hp.perm (List.Perm.swap _ _ _)).conv ?_⟩
   unfold spC
   rw [hl]
   rfl
set_option maxRecDepth 100000 in
theorem newE (f t : Int) (w : World) (hle : t ≤ f) :
  Calls Tryz.prog 32 #[.int .i64 f,.int .i64 t] w fun e w' => ∃ s : Nat,e = .returned (.pointer (some ⟨s,0,none⟩)) ∧ ∃ R1,HP w [] R1 [(s,.cells #[.int .i64 f,.slice none 0 0] 151 (0,0))] w' := by
 refine enter (vs := [.int .i64 f,.int .i64 t]) [] [] [] Tryz.func32 rfl kr (HP.start w) ?_
 refine Rg [0,1] [] n0 trivial ?_
 refine Cfg.begL rfl ?_
 refine Lp 2 [dZ,(dS (.agg #[.int .i64 f,.slice none 0 0]))] (some [0,1,9]) (fun S => [(∀ w1,S w1 → (Instr.build 151 #[(0,.int .i64 f)]).run Tryz.prog w1 = .ok (.agg #[.int .i64 f,.slice none 0 0]) w1)]) ⟨(fun _ _ => kr),trivial⟩ ?_
 refine Le (Eff.box (v := .agg #[.int .i64 f,.slice none 0 0]) rfl kr) ?_
 rintro s ⟨hs,ns⟩
 refine Lp 1 [] (some [0,1,5]) n0 trivial ?_
 refine CfgL.done rfl ?_
 refine Rg [0,1,5,13] [] n0 trivial ?_
 refine Cfg.condT rfl (b := (decide (t ≤ f))) kr (decide_eq_true om) ?_
 refine Rg [4] [] n0 trivial ?_
 refine Cfg.ret rfl (rs := [.tmp 4]) rfl [pT s] ⟨kr,trivial⟩ (fun w1 hp => ?_)
 exact ⟨s,rfl,_,hp⟩
end Go.Proofs.YtfgdepggdiibdaaGreatDoor
namespace Go.Proofs.YtfgdepggdiibdaaGreatDoor
open K
set_option linter.unusedVariables false
theorem inE {f p : Int} : inP f ([] : List Bool).length p = false := by unfold inP; simp
theorem inE0 {f p : Int} : inP f 0 p = false := inE
set_option maxRecDepth 100000 in
theorem itE (tb s l : Nat) (f : Int) (w : World) (hR : Has w [(tb,.cells #[.pointer (some ⟨s,0,none⟩)] 82 (0,0)),(s,.cells #[.int .i64 f,.slice none 0 0] 151 (0,0))]) :
  Calls Tryz.prog 129 #[.func (.yield l) #[] #[],.pointer (some ⟨tb,0,none⟩)] w fun e w' => e = .returned (.tuple #[]) ∧ Ext [] w w' := by
 refine enter (vs := [.func (.yield l) #[] #[],pT tb]) [] [(tb,.cells #[pT s] 82 (0,0)),(s,.cells #[.int .i64 f,.slice none 0 0] 151 (0,0))] [] Tryz.func129 rfl kr (HP.ofHas hR) ?_
 refine Rg [0,1,6] [(dS (pT s))] (fun S => [(cE S tb 0 (pT s))]) ⟨(rC 0 rfl rfl),trivial⟩ ?_
 refine Cfg.condF rfl (b := false) kr rfl ?_
 refine Rg [0,1,3] [] n0 trivial ?_
 refine Cfg.loop rfl (ι := Nat) (fun (k : Nat) => [(3,[],.int .i64 (k : Int)),(0,[],.func (.yield l) #[] #[]),(1,[],pT tb)]) (fun (k : Nat) => []) (fun (k : Nat) => True) (fun (k : Nat) => 0) 0 ?_ (Conv.mk kr) .slnil ?_
 ·trivial
 ·rintro k -
  refine Rg [0,1,3,13] [dZ,(dS (pT s)),dZ,dZ,(dS (.slice none 0 0))] (fun S => [(cE S tb 0 (pT s)),(cE S s 1 (.slice none 0 0))]) ⟨(rC 0 rfl rfl),(rC 1 rfl rfl),trivial⟩ ?_
  refine Cfg.condF rfl (b := (decide ((k : Int) < (0 : Int)))) kr (decide_eq_false om) ?_
  refine Cfg.fin rfl (rs := []) rfl [] trivial (fun w1 hp => ?_)
  exact ⟨rfl,hp.ext⟩
theorem runsE (tb s : Nat) (f : Int) : IterSpec Tryz.prog 129 #[.pointer (some ⟨tb,0,none⟩)] [(tb,.cells #[.pointer (some ⟨s,0,none⟩)] 82 (0,0)),(s,.cells #[.int .i64 f,.slice none 0 0] 151 (0,0))] ([] : List (Nat × Nat)) (fun (x : Nat × Nat) => Value.agg #[.int .i64 (f + (x.1 : Int)),.int .i64 (x.2 : Int)]) := IterSpec.none fun l w h => itE tb s l f w h
set_option maxRecDepth 100000 in
theorem freeE (s : Nat) (f : Int) (w : World) (hR : Has w [(s,.cells #[.int .i64 f,.slice none 0 0] 151 (0,0))]) :
  Calls Tryz.prog 47 #[.pointer (some ⟨s,0,none⟩)] w fun e w' => e = .returned (.int .i64 0) ∧ Ext [] w w' := by
 refine enterM (vs := [pT s]) [] [(s,.cells #[.int .i64 f,.slice none 0 0] 151 (0,0))] [] Tryz.func47 rfl kr (HP.ofHas hR) ?_
 refine Rg [0] [] n0 trivial ?_
 refine Cfg.begL rfl ?_
 refine Le (Eff.alloc (z := (.int .i64 0)) rfl kr) ?_
 rintro za ⟨hza,nza⟩
 refine Le (Eff.store1 (b := za) (off := 0) (v := .int .i64 0) rfl kr kr rfl kr 0 (cs := #[.int .i64 0]) (e := 3) kr (by simp)) ?_
 rintro ⟨⟩ -
 refine CfgL.done rfl ?_
 refine Cfg.begL rfl ?_
 refine Lp 1 [] (some [3,5]) n0 trivial ?_
 refine Le (Eff.callN (vs := [pT s]) (fun tb => .func (.func 129) #[] #[pT tb]) (fun tb => tb) (fun _ => .cells #[pT s] 82 (0,0)) (fun _ => True) rfl Tryz.func88 rfl rfl kr (fun w1 h => runsC s w1)) ?_
 rintro tb -
 refine CfgL.done rfl ?_
 refine Cg (Γ' := [(6,[],.func (.func 129) #[] #[pT tb]),(3,[],pT za)]) ?_
 refine Cfg.rangeJ rfl (caps := #[pT tb]) kr Tryz.func129 kr rfl kr (runsE tb s f) (σ := Unit) (fun (_ : Unit) => [(tb,.cells #[pT s] 82 (0,0)),(za,.cells #[.int .i64 0] 3 (0,0))]) (fun _ _ => True) () trivial [(s,.cells #[.int .i64 f,.slice none 0 0] 151 (0,0))] (by rfl) (fun e he => he) (fun w1 h => by simp) (fun (_ : Unit) => [(tb,.cells #[pT s] 82 (0,0)),(za,.cells #[.int .i64 0] 3 (0,0)),(s,.cells #[.int .i64 f,.slice none 0 0] 151 (0,0))]) (fun _ => rfl) (fun _ => true) (fun pre x _ _ e he => List.Sublist.subset (.cons_cons _ (.cons _ (.cons_cons _ .slnil))) he) (.ret) rfl ?_ ?_ ?_
 ·intro l ob1 ob2 w2 M2 pre _ ⟨k,n⟩ rest hal hJx hit
  simp at hit
 ·intro dr1 _ hal hJy
  refine Rg [2] [(dS (.int .i64 0))] (fun S => [(cE S za 0 (.int .i64 0))]) ⟨(oC 2 rfl rfl),trivial⟩ ?_
  refine Cfg.retM (O' := [(tb,.cells #[pT s] 82 (0,0)),(za,.cells #[.int .i64 0] 3 (0,0))]) rfl (rs := [.tmp 2]) rfl [.int .i64 0] slr ⟨kr,trivial⟩ (fun w1 hp => ?_)
  exact ⟨rfl,hp.ext⟩
 ·intro dr1 _ pre ⟨k,n⟩ rest hit hal hpa hJy
  cases hpa
set_option maxRecDepth 100000 in
theorem takeE (s : Nat) (f n : Int) (w : World) (hn : I64 n) (hA : Has w [(s,.cells #[.int .i64 f,.slice none 0 0] 151 (0,0))]) :
  Calls Tryz.prog 97 #[.pointer (some ⟨s,0,none⟩),.int .i64 n] w fun e w' => e = .returned (.tuple #[.int .i64 0,.int .i64 (if n < 1 then 2 else 14)]) ∧ ∃ R1,HP w [s] R1 [(s,.cells #[.int .i64 f,.slice none 0 0] 151 (0,0))] w' := by
 have hn2 := hn
 unfold I64 at hn2
 refine enterM (vs := [pT s,.int .i64 n]) [s] [] [(s,.cells #[.int .i64 f,.slice none 0 0] 151 (0,0))] Tryz.func97 rfl kr (HP.ofL hA (by simp) (fun e he => by cases he) (fun e he => by cases he)) ?_
 refine Cfg.begL rfl ?_
 refine Le (Eff.box (v := pT s) rfl kr) ?_
 rintro zs ⟨hzs,nzs⟩
 refine Le (Eff.box (v := .int .i64 n) rfl kr) ?_
 rintro zn ⟨hzn,nzn⟩
 refine Le (Eff.alloc (z := (.int .i64 0)) rfl kr) ?_
 rintro za ⟨hza,nza⟩
 refine Le (Eff.alloc (z := (.int .i64 0)) rfl kr) ?_
 rintro ze ⟨hze,nze⟩
 refine CfgL.done rfl ?_
 refine Cg (Γ' := [(5,[],pT ze),(4,[],pT za),(3,[],pT zn),(2,[],pT zs)]) ?_
 refine Rg [2,3,4,5,8] [(dS (pT s))] (fun S => [(cE S zs 0 (pT s))]) ⟨(oC 3 rfl rfl),trivial⟩ ?_
 refine Cfg.condF rfl (b := false) kr rfl ?_
 refine Rg [2,3,4,5,10] [(dS (.int .i64 n))] (fun S => [(cE S zn 0 (.int .i64 n))]) ⟨(oC 2 rfl rfl),trivial⟩ ?_
 refine Cfg.cond rfl (b := (decide (n < (1 : Int)))) kr (fun c2r => ?_) (fun c2r => ?_)
 ·have c2 := (dT c2r)
  refine Cfg.begL rfl ?_
  refine Le (Eff.store1 (b := za) (off := 0) (v := .int .i64 0) rfl kr kr rfl kr 1 (cs := #[.int .i64 0]) (e := 3) kr (by simp)) ?_
  rintro ⟨⟩ -
  refine Le (Eff.store1 (b := ze) (off := 0) (v := .int .i64 2) rfl kr kr rfl kr 0 (cs := #[.int .i64 0]) (e := 27) kr (by simp)) ?_
  rintro ⟨⟩ -
  refine CfgL.done rfl ?_
  refine Cg (Γ' := [(5,[],pT ze),(4,[],pT za)]) ?_
  refine Cfg.retM (O' := [(ze,.cells (#[.int .i64 0].setIfInBounds 0 (.int .i64 2)) 27 (0,0)),(za,.cells (#[.int .i64 0].setIfInBounds 0 (.int .i64 0)) 3 (0,0)),(zn,.cells #[.int .i64 n] 3 (0,0)),(zs,.cells #[pT s] 82 (0,0)),(s,.cells #[.int .i64 f,.slice none 0 0] 151 (0,0))]) rfl (rs := [.cell 4 3,.cell 5 27]) rfl [.int .i64 0,.int .i64 2] slr ⟨⟨_,by kernel_rfl,fun w1 h => h.ovar 1 (off := 0) rfl kr rfl⟩,⟨_,by kernel_rfl,fun w1 h => h.ovar 0 (off := 0) rfl kr rfl⟩,trivial⟩ (fun w1 hp => ?_)
  exact ⟨by rw [if_pos c2]; rfl,_,hp.sub (.cons _ (.cons _ (.cons _ (.cons _ (.cons_cons _ .slnil)))))⟩
 ·have c2 := (dF c2r)
  have hlow : ¬ n < 1 := c2
  refine Cfg.begL rfl ?_
  refine Lp 1 [(dS (pT s))] (some [2,3,4,5,11]) (fun S => [(cE S zs 0 (pT s))]) ⟨(oC 3 rfl rfl),trivial⟩ ?_
  refine Le (Eff.callN (vs := [pT s]) (fun tb => .func (.func 129) #[] #[pT tb]) (fun tb => tb) (fun _ => .cells #[pT s] 82 (0,0)) (fun _ => True) rfl Tryz.func88 rfl rfl kr (fun w1 h => runsC s w1)) ?_
  rintro tb -
  refine CfgL.done rfl ?_
  refine Cg (Γ' := [(12,[],.func (.func 129) #[] #[pT tb]),(5,[],pT ze),(4,[],pT za),(3,[],pT zn),(2,[],pT zs)]) ?_
  refine Cfg.rangeJ rfl (caps := #[pT tb]) kr Tryz.func129 kr rfl kr (runsE tb s f) (σ := Unit) (fun (_ : Unit) => [(tb,.cells #[pT s] 82 (0,0)),(ze,.cells #[.int .i64 0] 27 (0,0)),(za,.cells #[.int .i64 0] 3 (0,0)),(zn,.cells #[.int .i64 n] 3 (0,0)),(zs,.cells #[pT s] 82 (0,0)),(s,.cells #[.int .i64 f,.slice none 0 0] 151 (0,0))]) (fun _ _ => True) () trivial [] (by rfl) (fun e he => by cases he) (fun w1 h => List.nodup_nil) (fun (_ : Unit) => [(tb,.cells #[pT s] 82 (0,0)),(ze,.cells #[.int .i64 0] 27 (0,0)),(za,.cells #[.int .i64 0] 3 (0,0)),(zn,.cells #[.int .i64 n] 3 (0,0)),(zs,.cells #[pT s] 82 (0,0)),(s,.cells #[.int .i64 f,.slice none 0 0] 151 (0,0))]) (fun _ => rfl) (fun _ => true) (fun pre x _ _ e he => List.Sublist.subset (.cons_cons _ (.cons _ (.cons _ (.cons _ (.cons _ (.cons_cons _ .slnil)))))) he) (.ret) rfl ?_ ?_ ?_
  ·intro l ob1 ob2 w2 M2 pre _ ⟨k,n⟩ rest hal hJx hit
   simp at hit
  ·intro dr1 _ hal hJy
   refine Cfg.begL rfl ?_
   refine Le (Eff.store1 (b := za) (off := 0) (v := .int .i64 0) rfl kr kr rfl kr 3 (cs := #[.int .i64 0]) (e := 3) kr (by simp)) ?_
   rintro ⟨⟩ -
   refine Le (Eff.store1 (b := ze) (off := 0) (v := .int .i64 14) rfl kr kr rfl kr 2 (cs := #[.int .i64 0]) (e := 27) kr (by simp)) ?_
   rintro ⟨⟩ -
   refine CfgL.done rfl ?_
   refine Cg (Γ' := [(5,[],pT ze),(4,[],pT za)]) ?_
   refine Cfg.retM (O' := [(tb,.cells #[pT s] 82 (0,0)),(ze,.cells (#[.int .i64 0].setIfInBounds 0 (.int .i64 14)) 27 (0,0)),(za,.cells (#[.int .i64 0].setIfInBounds 0 (.int .i64 0)) 3 (0,0)),(zn,.cells #[.int .i64 n] 3 (0,0)),(zs,.cells #[pT s] 82 (0,0)),(s,.cells #[.int .i64 f,.slice none 0 0] 151 (0,0))]) rfl (rs := [.cell 4 3,.cell 5 27]) rfl [.int .i64 0,.int .i64 14] slr ⟨⟨_,by kernel_rfl,fun w1 h => h.ovar 2 (off := 0) rfl kr rfl⟩,⟨_,by kernel_rfl,fun w1 h => h.ovar 1 (off := 0) rfl kr rfl⟩,trivial⟩ (fun w1 hp => ?_)
   exact ⟨by rw [if_neg hlow]; rfl,_,hp.sub (.cons _ (.cons _ (.cons _ (.cons _ (.cons _ (.cons_cons _ .slnil))))))⟩
  ·intro dr1 _ pre ⟨k,n⟩ rest hit hal hpa hJy
   cases hpa
end Go.Proofs.YtfgdepggdiibdaaGreatDoor
namespace Go.Proofs.YtfgdepggdiibdaaGreatDoor
open K
set_option linter.unusedVariables false
set_option maxRecDepth 100000 in
theorem turnE (s : Nat) (f : Int) (tz : Bool) (la : Option Addr) (cap : Nat) (l : List (Int × Int)) (Rl : List (Nat × Obj)) (w : World) (hf : I64 f) (hI : InS Rl la (2 * l.length) (rcell l)) (hl : l.length ≤ maxLen) (h1 : ∀ i,I64 (ra l i)) (h2 : ∀ i,I64 (rl l i)) (hA : Has w [(s,.cells #[.int .i64 f,.slice none 0 0] 151 (0,0))]) (hRl : Has w Rl) (hnr : ∀ e ∈ Rl,e.1 ∉ [s]) :
  Calls Tryz.prog 110 #[.pointer (some ⟨s,0,none⟩),.bool tz,.slice la l.length cap] w fun e w' => e = .returned (.int .i64 ((turnF f 0 tz l []).1 : Int)) ∧ ∃ R1,HP w [s] R1 [(s,.cells #[.int .i64 f,.slice none 0 0] 151 (0,0))] w' := by
 unfold maxLen at hl
 unfold I64 at hf h1 h2
 refine enter (vs := [pT s,.bool tz,.slice la l.length cap]) [s] Rl [(s,.cells #[.int .i64 f,.slice none 0 0] 151 (0,0))] Tryz.func110 rfl kr (HP.ofL hA (by simp) hRl (by simpa using hnr)) ?_
 refine Rg [0,1,2] [] n0 trivial ?_
 refine Rg [0,1,2,14] [] n0 trivial ?_
 refine Cfg.condF rfl (b := false) kr rfl ?_
 refine Cfg.begL rfl ?_
 refine Lp 4 [dZ,dZ,dZ,(dS (.slice none 0 0))] (some [0,1,2,18]) (fun S => [(cE S s 1 (.slice none 0 0))]) ⟨(oC 0 rfl rfl),trivial⟩ ?_
 refine Le (Eff.callA (vs := [.slice none 0 0]) (.slice none 0 0) rfl Tryz.func117 rfl rfl kr (fun w1 h => cloneN w1)) ?_
 rintro ⟨⟩ -
 refine Lp 1 [] (some [0,1,2,7]) n0 trivial ?_
 refine CfgL.done rfl ?_
 refine Rg [0,1,7,20,21,22] [] n0 trivial ?_
 refine Cfg.loop rfl (ι := Nat) (fun (i : Nat) => [(22,[],.int .i64 (i : Int)),(21,[],.int .i64 (l.length : Int)),(20,[],.slice la l.length cap),(7,[],.slice none 0 0),(0,[],pT s),(1,[],.bool tz)]) (fun (i : Nat) => [(s,.cells #[.int .i64 f,.slice none 0 0] 151 (0,0))]) (fun (i : Nat) => (i ≤ l.length) ∧ (turnF f 0 tz (l.drop i) [] = turnF f 0 tz l [])) (fun (i : Nat) => l.length - i) 0 ?_ (Conv.mk kr) (.cons_cons _ .slnil) ?_
 ·exact ⟨Nat.zero_le _,rfl⟩
 ·rintro i ⟨hi,hT⟩
  refine Rg [0,1,7,20,21,22,23] [] n0 trivial ?_
  refine Cfg.cond rfl (b := (decide ((i : Int) < (l.length : Int)))) kr (fun c2r => ?_) (fun c2r => ?_)
  ·have c2 := (dT c2r)
   obtain ⟨sb,off,cs,te,fre,rfl,hmem,hcs⟩ := hI om
   refine Conv.cfg (Γ' := [(23,[],.bool (decide ((i : Int) < (l.length : Int)))),(22,[],.int .i64 (i : Int)),(21,[],.int .i64 (l.length : Int)),(20,[],.slice (some ⟨sb,off,none⟩) l.length cap),(7,[],.slice none 0 0),(0,[],pT s),(1,[],.bool tz)]) (Conv.mk kr) ?_
   refine Cfg.begL rfl ?_
   refine Lp 2 [dZ,(dS (.agg #[.int .i64 (ra l i),.int .i64 (rl l i)]))] (some [0,1,7,20,21,22,25]) (fun S => [(0 ≤ (i : Int) ∧ (i : Int) < (l.length : Int)),(∀ w1,S w1 → (loadVar 117 ⟨sb,(addO off (i * 2)),none⟩).run Tryz.prog w1 = .ok (.agg #[.int .i64 (ra l i),.int .i64 (rl l i)]) w1)]) ⟨om,(fun w1 h => by rw [addO_eq]; exact run_at h hmem hcs om),trivial⟩ ?_
   refine Le (Eff.alloc (z := (.agg #[.int .i64 0,.int .i64 0])) rfl kr) ?_
   rintro t9 ⟨ht9,nt9⟩
   refine Le (Eff.storeN (b := t9) (off := 0) (vs := #[.int .i64 (ra l i),.int .i64 (rl l i)]) (n := 2) rfl kr kr kr rfl (two_one rfl rfl) 0 (cs := #[.int .i64 0,.int .i64 0]) (e := 117) kr (Nat.le_refl 2)) ?_
   rintro ⟨⟩ -
   refine CfgL.setO (congrArg (fun (xq : Array Value) => ([(t9,.cells xq 117 (0,0)),(s,.cells #[.int .i64 f,.slice none 0 0] 151 (0,0))] : LO)) (show _ = #[.int .i64 (ra l i),.int .i64 (rl l i)] from rfl)) ?_
   refine CfgL.done rfl ?_
   refine Cg (Γ' := [(9,[],pT t9),(22,[],.int .i64 (i : Int)),(21,[],.int .i64 (l.length : Int)),(20,[],.slice (some ⟨sb,off,none⟩) l.length cap),(7,[],.slice none 0 0),(0,[],pT s),(1,[],.bool tz)]) ?_
   refine Rg [0,1,7,9,20,21,22,28] [dZ,(dS (.int .i64 (rl l i)))] (fun S => [(cE S t9 1 (.int .i64 (rl l i)))]) ⟨(oC 0 rfl rfl),trivial⟩ ?_
   refine Cfg.cond rfl (b := (decide ((rl l i) < (1 : Int)))) kr (fun c3r => ?_) (fun c3r => ?_)
   ·have c3 := (dT c3r)
    refine Rg [6] [] n0 trivial ?_
    refine Cfg.ret rfl (rs := [.tmp 6]) rfl [.int .i64 2] ⟨kr,trivial⟩ (fun w1 hp => ?_)
    have he : (turnF f 0 tz l []).1 = 2 := by rw [← hT,turn_step om,if_pos om]
    rw [he]
    exact ⟨rfl,_,hp.sub (.cons _ (.cons_cons _ .slnil))⟩
   ·have c3 := (dF c3r)
    refine Cfg.begL rfl ?_
    refine Lp 3 [dZ,dZ,(dS (.int .i64 (ra l i)))] (some [0,1,7,9,20,21,22,30,32]) (fun S => [(cE S t9 0 (.int .i64 (ra l i)))]) ⟨(oC 0 rfl rfl),trivial⟩ ?_
    refine Le (Eff.callA (vs := [pT s,.int .i64 (ra l i)]) (.tuple #[.int .i64 (if inP f ([] : List Bool).length (ra l i) then ra l i - f else 0),.bool (inP f ([] : List Bool).length (ra l i))]) rfl Tryz.func132 rfl rfl kr (fun w1 h => place s f (ra l i) none [] w1 hf (h1 i) (by simp) (h.has (fun e he => by rw [List.mem_singleton.1 he]; exact mG 1 rfl)))) ?_
    rintro ⟨⟩ -
    refine Lp 5 [] (some [0,1,7,9,10,11,20,21,22]) n0 trivial ?_
    refine CfgL.done rfl ?_
    refine Rg [0,1,7,9,10,20,21,22,37] [] n0 trivial ?_
    refine Cfg.condT rfl (b := (!(inP f ([] : List Bool).length (ra l i)))) kr (by rw [inE]; rfl) ?_
    refine Rg [6] [] n0 trivial ?_
    refine Cfg.ret rfl (rs := [.tmp 6]) rfl [.int .i64 2] ⟨kr,trivial⟩ (fun w1 hp => ?_)
    have he : (turnF f 0 tz l []).1 = 2 := by rw [← hT,turn_step om,if_neg om,if_neg (by rw [inE0]; decide)]
    rw [he]
    exact ⟨rfl,_,hp.sub (.cons _ (.cons_cons _ .slnil))⟩
  ·have c2 := (dF c2r)
   obtain rfl : i = l.length := by omega
   rw [List.drop_length] at hT
   refine Conv.cfg (Γ' := [(21,[],.int .i64 (l.length : Int)),(20,[],.slice la l.length cap),(7,[],.slice none 0 0),(0,[],pT s)]) (Conv.mk kr) ?_
   refine Cfg.begL rfl ?_
   refine Lp 4 [] (some [66,68]) n0 trivial ?_
   refine Le (Eff.store1 (b := s) (off := 1) (v := .slice none 0 0) rfl kr kr rfl kr 0 (cs := #[.int .i64 f,.slice none 0 0]) (e := 151) kr (by simp)) ?_
   rintro ⟨⟩ -
   refine CfgL.done rfl ?_
   refine Cg (Γ' := []) ?_
   refine Rg [6] [] n0 trivial ?_
   refine Cfg.ret rfl (rs := [.tmp 6]) rfl [.int .i64 0] ⟨kr,trivial⟩ (fun w1 hp => ?_)
   have he : (turnF f 0 tz l []).1 = 0 := by rw [← hT]; rfl
   rw [he]
   exact ⟨rfl,_,hp.sub (.cons_cons _ .slnil)⟩
set_option maxRecDepth 100000 in
theorem claimE (s : Nat) (f : Int) (la : Option Addr) (cap : Nat) (l : List (Int × Int)) (Rl : List (Nat × Obj)) (w : World) (hf : I64 f) (hI : InS Rl la (2 * l.length) (rcell l)) (hl : l.length ≤ maxLen) (h1 : ∀ i,I64 (ra l i)) (h2 : ∀ i,I64 (rl l i)) (hA : Has w [(s,.cells #[.int .i64 f,.slice none 0 0] 151 (0,0))]) (hRl : Has w Rl) (hnr : ∀ e ∈ Rl,e.1 ∉ [s]) :
  Calls Tryz.prog 71 #[.pointer (some ⟨s,0,none⟩),.slice la l.length cap] w fun e w' => e = .returned (.int .i64 ((turnF f 0 false l []).1 : Int)) ∧ ∃ R1,HP w [s] R1 [(s,.cells #[.int .i64 f,.slice none 0 0] 151 (0,0))] w' := by
 refine enter (vs := [pT s,.slice la l.length cap]) [s] Rl [(s,.cells #[.int .i64 f,.slice none 0 0] 151 (0,0))] Tryz.func71 rfl kr (HP.ofL hA (by simp) hRl (by simpa using hnr)) ?_
 refine Rg [0,1] [] n0 trivial ?_
 refine Cfg.begL rfl ?_
 refine Lp 2 [] (some [5,6]) n0 trivial ?_
 refine Le (Eff.callH (vs := [pT s,.bool false,.slice la l.length cap]) (fun _ : Unit => .int .i64 ((turnF f 0 false l []).1 : Int)) [(s,.cells #[.int .i64 f,.slice none 0 0] 151 (0,0))] (fun _ => [(s,.cells #[.int .i64 f,.slice none 0 0] 151 (0,0))]) (fun _ => True) [] [] rfl rfl Tryz.func110 rfl rfl kr (fun w1 h hA1 hd1 => (turnE s f false la cap l Rl w1 hf hI hl h1 h2 hA1 (h.hasR (fun e he => he)) hnr).mono fun e w2 hx => ⟨(),trivial,hx⟩)) ?_
 rintro ⟨⟩ -
 refine Lp 1 [] (some [4]) n0 trivial ?_
 refine CfgL.done rfl ?_
 refine Cfg.ret rfl (rs := [.tmp 4]) rfl [.int .i64 ((turnF f 0 false l []).1 : Int)] ⟨kr,trivial⟩ (fun w1 hp => ?_)
 exact ⟨rfl,_,hp⟩
set_option maxRecDepth 100000 in
theorem giveE (s : Nat) (f : Int) (la : Option Addr) (cap : Nat) (l : List (Int × Int)) (Rl : List (Nat × Obj)) (w : World) (hf : I64 f) (hI : InS Rl la (2 * l.length) (rcell l)) (hl : l.length ≤ maxLen) (h1 : ∀ i,I64 (ra l i)) (h2 : ∀ i,I64 (rl l i)) (hA : Has w [(s,.cells #[.int .i64 f,.slice none 0 0] 151 (0,0))]) (hRl : Has w Rl) (hnr : ∀ e ∈ Rl,e.1 ∉ [s]) :
  Calls Tryz.prog 77 #[.pointer (some ⟨s,0,none⟩),.slice la l.length cap] w fun e w' => e = .returned (.int .i64 ((turnF f 0 true l []).1 : Int)) ∧ ∃ R1,HP w [s] R1 [(s,.cells #[.int .i64 f,.slice none 0 0] 151 (0,0))] w' := by
 refine enter (vs := [pT s,.slice la l.length cap]) [s] Rl [(s,.cells #[.int .i64 f,.slice none 0 0] 151 (0,0))] Tryz.func77 rfl kr (HP.ofL hA (by simp) hRl (by simpa using hnr)) ?_
 refine Rg [0,1] [] n0 trivial ?_
 refine Cfg.begL rfl ?_
 refine Lp 2 [] (some [5,6]) n0 trivial ?_
 refine Le (Eff.callH (vs := [pT s,.bool true,.slice la l.length cap]) (fun _ : Unit => .int .i64 ((turnF f 0 true l []).1 : Int)) [(s,.cells #[.int .i64 f,.slice none 0 0] 151 (0,0))] (fun _ => [(s,.cells #[.int .i64 f,.slice none 0 0] 151 (0,0))]) (fun _ => True) [] [] rfl rfl Tryz.func110 rfl rfl kr (fun w1 h hA1 hd1 => (turnE s f true la cap l Rl w1 hf hI hl h1 h2 hA1 (h.hasR (fun e he => he)) hnr).mono fun e w2 hx => ⟨(),trivial,hx⟩)) ?_
 rintro ⟨⟩ -
 refine Lp 1 [] (some [4]) n0 trivial ?_
 refine CfgL.done rfl ?_
 refine Cfg.ret rfl (rs := [.tmp 4]) rfl [.int .i64 ((turnF f 0 true l []).1 : Int)] ⟨kr,trivial⟩ (fun w1 hp => ?_)
 exact ⟨rfl,_,hp⟩
set_option maxRecDepth 100000 in
theorem isE (s : Nat) (f q : Int) (w : World) (hf : I64 f) (hq : I64 q) (hR : Has w [(s,.cells #[.int .i64 f,.slice none 0 0] 151 (0,0))]) :
  Calls Tryz.prog 98 #[.pointer (some ⟨s,0,none⟩),.int .i64 q] w fun e w' => e = .returned (.bool false) ∧ Ext [] w w' := by
 refine enter (vs := [pT s,.int .i64 q]) [] [(s,.cells #[.int .i64 f,.slice none 0 0] 151 (0,0))] [] Tryz.func98 rfl kr (HP.ofHas hR) ?_
 refine Rg [0,1] [] n0 trivial ?_
 refine Cfg.begL rfl ?_
 refine Lp 2 [] (some [0,8,9]) n0 trivial ?_
 refine Le (Eff.callA (vs := [pT s,.int .i64 q]) (.tuple #[.int .i64 0,.bool false]) rfl Tryz.func132 rfl rfl kr (fun w1 h => (place s f q none [] w1 hf hq (by simp) (h.hasR (fun e he => by rw [List.mem_singleton.1 he]; exact mH))).mono fun e w2 hx => by have h1 := hx.1; rw [inE] at h1; exact ⟨h1,hx.2⟩)) ?_
 rintro ⟨⟩ -
 refine Lp 5 [] (some [0,5,6]) n0 trivial ?_
 refine CfgL.done rfl ?_
 refine Rg [4] [dZ,dZ,(2,false,none),(2,false,none),(2,false,none),(2,false,none),(2,false,none),(2,false,none),(2,false,none)] (fun _ => [((.bool false : Value) ≠ .bool true),((.bool false : Value) ≠ .bool true),((.bool false : Value) ≠ .bool true),((.bool false : Value) ≠ .bool true),((.bool false : Value) ≠ .bool true),((.bool false : Value) ≠ .bool true),((.bool false : Value) ≠ .bool true)]) ⟨(by simp),(by simp),(by simp),(by simp),(by simp),(by simp),(by simp),trivial⟩ ?_
 refine Cfg.ret rfl (rs := [.tmp 4]) rfl [.bool false] ⟨kr,trivial⟩ (fun w1 hp => ?_)
 exact ⟨rfl,hp.ext⟩
set_option maxRecDepth 100000 in
theorem copyE (s : Nat) (f : Int) (w : World) (hR : Has w [(s,.cells #[.int .i64 f,.slice none 0 0] 151 (0,0))]) :
  Calls Tryz.prog 74 #[.pointer (some ⟨s,0,none⟩)] w fun e w' => ∃ s2 : Nat,e = .returned (.pointer (some ⟨s2,0,none⟩)) ∧ ∃ R1,HP w [] R1 [(s2,.cells #[.int .i64 f,.slice none 0 0] 151 (0,0))] w' := by
 refine enter (vs := [pT s]) [] [(s,.cells #[.int .i64 f,.slice none 0 0] 151 (0,0))] [] Tryz.func74 rfl kr (HP.ofHas hR) ?_
 refine Rg [0] [] n0 trivial ?_
 refine Rg [0,4] [] n0 trivial ?_
 refine Cfg.condF rfl (b := false) kr rfl ?_
 refine Cfg.begA rfl kr [] ?_
 refine Ap (List.range 8) [dZ,dZ,dZ,(dS (.int .i64 f)),dZ,dZ,dZ,(dS (.slice none 0 0))] (some [8,12]) (tF 8 4) .slnil 4 (fun S => [(cE S s 0 (.int .i64 f)),(cE S s 1 (.slice none 0 0))]) ⟨(rC 0 rfl rfl),(rC 0 rfl rfl),trivial⟩ ?_
 refine Ae 8 rfl 3  (Eff.callA (vs := [.slice none 0 0]) (.slice none 0 0) rfl Tryz.func117 rfl rfl kr (fun w1 h => cloneN w1)) (fun _ _ => List.nil_sublist _) ?_
 rintro ⟨⟩ -
 refine Ap [9] [(dS (.agg #[.int .i64 f,.slice none 0 0]))] (some [14]) (tF 10 2) .slnil 2 (fun S => [(∀ w1,S w1 → (Instr.build 151 #[(0,.int .i64 f),(1,.slice none 0 0)]).run Tryz.prog w1 = .ok (.agg #[.int .i64 f,.slice none 0 0]) w1)]) ⟨(fun _ _ => kr),trivial⟩ ?_
 refine Ae 10 rfl 1  (Eff.box (v := .agg #[.int .i64 f,.slice none 0 0]) rfl kr) (fun _ _ => List.nil_sublist _) ?_
 rintro s2 ⟨hs2,ns2⟩
 refine Ap [11] [] (some [2]) (tF 12 0) (.cons _ .slnil) 0 n0 trivial ?_
 refine CfgA.done kr ?_
 refine Cfg.ret rfl (rs := [.tmp 2]) rfl [pT s2] ⟨kr,trivial⟩ (fun w1 hp => ?_)
 exact ⟨s2,rfl,_,hp⟩
set_option maxRecDepth 100000 in
theorem copyC (s b cp : Nat) (jk : List Value) (f : Int) (fr : List Bool) (w : World) (hn : 0 < fr.length) (hm : fr.length ≤ 4096) (hR : Has w (spC s f (b,cp,jk) fr)) :
  Calls Tryz.prog 74 #[.pointer (some ⟨s,0,none⟩)] w fun e w' => ∃ x : Nat × Nat × Nat × List Value,e = .returned (.pointer (some ⟨x.1,0,none⟩)) ∧ ∃ R1,HP w [] R1 (spC x.1 f x.2 fr) w' := by
 refine enter (vs := [pT s]) [] [(s,.cells #[.int .i64 f,.slice (some ⟨b,0,none⟩) fr.length cp] 151 (0,0)),(b,.cells ((rb fr ++ jk).toArray) 4 (0,0))] [] Tryz.func74 rfl kr (HP.ofHas hR) ?_
 refine Rg [0] [] n0 trivial ?_
 refine Rg [0,4] [] n0 trivial ?_
 refine Cfg.condF rfl (b := false) kr rfl ?_
 refine Cfg.begA rfl kr [] ?_
 refine Ap (List.range 8) [dZ,dZ,dZ,(dS (.int .i64 f)),dZ,dZ,dZ,(dS (.slice (some ⟨b,0,none⟩) fr.length cp))] (some [8,12]) (tF 8 4) .slnil 4 (fun S => [(cE S s 0 (.int .i64 f)),(cE S s 1 (.slice (some ⟨b,0,none⟩) fr.length cp))]) ⟨(rC 0 rfl rfl),(rC 0 rfl rfl),trivial⟩ ?_
 refine Ae 8 rfl 3  (Eff.callOF (vs := [.slice (some ⟨b,0,none⟩) fr.length cp]) 4 1 fr.length (rb fr) [] [] rfl rfl Tryz.func117 rfl rfl kr (fun w1 h => cloneB b cp fr jk w1 hn hm (h.hasR (fun e he => by rw [List.mem_singleton.1 he]; exact List.mem_cons_of_mem _ mH)))) (fun _ _ => List.nil_sublist _) ?_
 rintro o2 ko2
 obtain ⟨⟨b2,cq2,j2⟩,rfl⟩ := own_some ko2 hn
 refine CfgA.setO (O' := [(b2,.cells ((rb fr ++ j2).toArray) 4 (0,0))]) rfl ?_
 refine Ap [9] [(dS (.agg #[.int .i64 f,.slice (some ⟨b2,0,none⟩) fr.length cq2]))] (some [14]) (tF 10 2) (.cons _ .slnil) 2 (fun S => [(∀ w1,S w1 → (Instr.build 151 #[(0,.int .i64 f),(1,.slice (some ⟨b2,0,none⟩) fr.length cq2)]).run Tryz.prog w1 = .ok (.agg #[.int .i64 f,.slice (some ⟨b2,0,none⟩) fr.length cq2]) w1)]) ⟨(fun _ _ => kr),trivial⟩ ?_
 refine Ae 10 rfl 1  (Eff.box (v := .agg #[.int .i64 f,.slice (some ⟨b2,0,none⟩) fr.length cq2]) rfl kr) (fun _ _ => List.nil_sublist _) ?_
 rintro s2 ⟨hs2,ns2⟩
 refine Ap [11] [] (some [2]) (tF 12 0) (.cons _ (.cons _ .slnil)) 0 n0 trivial ?_
 refine CfgA.done kr ?_
 refine Cfg.ret rfl (rs := [.tmp 2]) rfl [pT s2] ⟨kr,trivial⟩ (fun w1 hp => ?_)
 exact ⟨(s2,b2,cq2,j2),rfl,_,hp⟩
end Go.Proofs.YtfgdepggdiibdaaGreatDoor
namespace Go.Proofs.YtfgdepggdiibdaaGreatDoor
open K
set_option linter.unusedVariables false
def Good (o : K.Own) (fr : List Bool) : Prop := (o = none ∧ fr = []) ∨ ∃ x,o = some x ∧ 0 < fr.length
def newF (f t : Int) : List Bool := if t ≤ f then [] else List.replicate (min (t - f).toNat 4096) true
theorem newF_len (f t : Int) : (newF f t).length ≤ 4096 := by unfold newF; split <;> simp; omega
theorem loopF_len (tz : Bool) (k : Nat) : ∀ (c n : Nat) (nx : List Bool),(loopF tz k c n nx).2.length = nx.length
 | 0,_,_ => rfl
 | c + 1,n,nx => by
  rw [loopF]
  split
  ·rfl
  ·split
   ·rfl
   ·rw [loopF_len tz k c]; simp
theorem turnF_len (f : Int) (nn : Nat) (tz : Bool) : ∀ (l : List (Int × Int)) (nx : List Bool),(turnF f nn tz l nx).2.length = nx.length
 | [],_ => rfl
 | r :: l,nx => by
  rw [turnF]
  split
  ·rfl
  ·split
   ·split
    ·rw [turnF_len f nn tz l,loopF_len]
    ·rw [loopF_len]
   ·rfl
theorem turnR_len (f : Int) (tz : Bool) (l : List (Int × Int)) (fr : List Bool) : (turnR f tz l fr).length = fr.length := by
 unfold turnR; split
 ·exact turnF_len ..
 ·rfl
theorem takeF_len (f : Int) (fr : List Bool) (n : Int) : (takeF f fr n).2.2.length = fr.length := by
 unfold takeF; split
 ·rfl
 ·split
  ·rfl
  ·exact turnR_len ..
theorem nil_len {fr : List Bool} (h : fr.length = 0) : fr = [] := List.eq_nil_of_length_eq_zero h
theorem newU (f t : Int) (w : World) (hf : I64 f) (ht : I64 t) : Calls Tryz.prog 32 #[.int .i64 f,.int .i64 t] w fun e w' => ∃ x : Nat × K.Own,Good x.2 (newF f t) ∧ e = .returned (.pointer (some ⟨x.1,0,none⟩)) ∧ ∃ R1,HP w [] R1 (spO x.1 f x.2 (newF f t)) w' := by
 unfold newF
 by_cases h : t ≤ f
 ·rw [if_pos h]
  refine (newE f t w h).mono ?_
  rintro e w' ⟨s,he,R1,hp⟩
  exact ⟨(s,none),.inl ⟨rfl,rfl⟩,he,R1,hp⟩
 ·rw [if_neg h]
  refine (newC f t _ w hf ht om rfl).mono ?_
  rintro e w' ⟨x,he,R1,hp⟩
  exact ⟨(x.1,some (x.2,_,[])),.inr ⟨_,rfl,by rw [List.length_replicate]; omega⟩,he,R1,hp⟩
theorem takeU (s : Nat) (f : Int) (o : K.Own) (fr : List Bool) (n : Int) (w : World) (hf : -9223372036854775808 ≤ f ∧ f + fr.length ≤ 9223372036854775807) (hm : fr.length ≤ 4096) (hg : Good o fr) (hn : I64 n) (hA : Has w (spO s f o fr)) (hd : ((spO s f o fr).map (·.1)).Nodup) :
  Calls Tryz.prog 97 #[.pointer (some ⟨s,0,none⟩),.int .i64 n] w fun e w' => ∃ o2 : K.Own,Good o2 (takeF f fr n).2.2 ∧ e = .returned (.tuple #[.int .i64 (takeF f fr n).1,.int .i64 ((takeF f fr n).2.1 : Int)]) ∧ ∃ R1,HP w ((spO s f o fr).map (·.1)) R1 (spO s f o2 (takeF f fr n).2.2) w' := by
 rcases hg with ⟨rfl,rfl⟩ | ⟨⟨b,cp,jk⟩,rfl,h0⟩
 ·refine (takeE s f n w hn hA).mono ?_
  rintro e w' ⟨he,R1,hp⟩
  have h2 : takeF f [] n = (0,if n < 1 then 2 else 14,[]) := by unfold takeF; rw [runsAt_end (by simp)]; split <;> rfl
  rw [h2]
  refine ⟨none,.inl ⟨rfl,rfl⟩,?_,R1,hp⟩
  rw [he]; split <;> rfl
 ·refine (takeC s b cp jk f fr n w hf hm h0 hn hA hd).mono ?_
  rintro e w' ⟨x,he,R1,hp⟩
  exact ⟨some x,.inr ⟨x,rfl,by rw [takeF_len]; exact h0⟩,he,R1,hp⟩
theorem freeU (s : Nat) (f : Int) (o : K.Own) (fr : List Bool) (w : World) (hf : -9223372036854775808 ≤ f ∧ f + fr.length ≤ 9223372036854775807) (hm : fr.length ≤ 4096) (hg : Good o fr) (hR : Has w (spO s f o fr)) :
  Calls Tryz.prog 47 #[.pointer (some ⟨s,0,none⟩)] w fun e w' => e = .returned (.int .i64 (suml (runsAt fr 0) : Int)) ∧ Ext [] w w' := by
 rcases hg with ⟨rfl,rfl⟩ | ⟨⟨b,cp,jk⟩,rfl,h0⟩
 ·rw [runsAt_end (by simp)]; exact freeE s f w hR
 ·exact freeC s b cp jk f fr w hf hm hR
theorem isU (s : Nat) (f q : Int) (o : K.Own) (fr : List Bool) (w : World) (hf : I64 f) (hq : I64 q) (hm : fr.length ≤ 4096) (hg : Good o fr) (hR : Has w (spO s f o fr)) :
  Calls Tryz.prog 98 #[.pointer (some ⟨s,0,none⟩),.int .i64 q] w fun e w' => e = .returned (.bool (inP f fr.length q && fr.getD (q - f).toNat false)) ∧ Ext [] w w' := by
 rcases hg with ⟨rfl,rfl⟩ | ⟨⟨b,cp,jk⟩,rfl,h0⟩
 ·rw [inE]; exact isE s f q w hf hq hR
 ·exact isC s b cp jk f q fr w hf hq hm hR
theorem copyU (s : Nat) (f : Int) (o : K.Own) (fr : List Bool) (w : World) (hm : fr.length ≤ 4096) (hg : Good o fr) (hR : Has w (spO s f o fr)) :
  Calls Tryz.prog 74 #[.pointer (some ⟨s,0,none⟩)] w fun e w' => ∃ x : Nat × K.Own,Good x.2 fr ∧ e = .returned (.pointer (some ⟨x.1,0,none⟩)) ∧ ∃ R1,HP w [] R1 (spO x.1 f x.2 fr) w' := by
 rcases hg with ⟨rfl,rfl⟩ | ⟨⟨b,cp,jk⟩,rfl,h0⟩
 ·refine (copyE s f w hR).mono ?_
  rintro e w' ⟨s2,he,R1,hp⟩
  exact ⟨(s2,none),.inl ⟨rfl,rfl⟩,he,R1,hp⟩
 ·refine (copyC s b cp jk f fr w h0 hm hR).mono ?_
  rintro e w' ⟨x,he,R1,hp⟩
  exact ⟨(x.1,some x.2),.inr ⟨_,rfl,h0⟩,he,R1,hp⟩
theorem turn_nil (f : Int) (tz : Bool) (l : List (Int × Int)) : turnR f tz l [] = [] := nil_len (by rw [turnR_len]; rfl)
theorem claimU (s : Nat) (f : Int) (o : K.Own) (fr : List Bool) (la : Option Addr) (cap : Nat) (l : List (Int × Int)) (Rl : List (Nat × Obj)) (w : World) (hf : I64 f) (hm : fr.length ≤ 4096) (hg : Good o fr) (hI : InS Rl la (2 * l.length) (rcell l)) (hl : l.length ≤ maxLen) (h1 : ∀ i,I64 (ra l i)) (h2 : ∀ i,I64 (rl l i))
  (hA : Has w (spO s f o fr)) (hd : ((spO s f o fr).map (·.1)).Nodup) (hRl : Has w Rl) (hnr : ∀ e ∈ Rl,e.1 ∉ (spO s f o fr).map (·.1)) :
  Calls Tryz.prog 71 #[.pointer (some ⟨s,0,none⟩),.slice la l.length cap] w fun e w' => ∃ o2 : K.Own,Good o2 (turnR f false l fr) ∧ e = .returned (.int .i64 ((turnF f fr.length false l fr).1 : Int)) ∧ ∃ R1,HP w ((spO s f o fr).map (·.1)) R1 (spO s f o2 (turnR f false l fr)) w' := by
 rcases hg with ⟨rfl,rfl⟩ | ⟨⟨b,cp,jk⟩,rfl,h0⟩
 ·refine (claimE s f la cap l Rl w hf hI hl h1 h2 hA hRl hnr).mono ?_
  rintro e w' ⟨he,R1,hp⟩
  rw [turn_nil]
  exact ⟨none,.inl ⟨rfl,rfl⟩,he,R1,hp⟩
 ·refine (claimC s b cp jk f fr la cap l Rl w hf hm h0 hI hl h1 h2 hA hd hRl hnr).mono ?_
  rintro e w' ⟨x,he,R1,hp⟩
  exact ⟨some x,.inr ⟨x,rfl,by rw [turnR_len]; exact h0⟩,he,R1,hp⟩
theorem giveU (s : Nat) (f : Int) (o : K.Own) (fr : List Bool) (la : Option Addr) (cap : Nat) (l : List (Int × Int)) (Rl : List (Nat × Obj)) (w : World) (hf : I64 f) (hm : fr.length ≤ 4096) (hg : Good o fr) (hI : InS Rl la (2 * l.length) (rcell l)) (hl : l.length ≤ maxLen) (h1 : ∀ i,I64 (ra l i)) (h2 : ∀ i,I64 (rl l i))
  (hA : Has w (spO s f o fr)) (hd : ((spO s f o fr).map (·.1)).Nodup) (hRl : Has w Rl) (hnr : ∀ e ∈ Rl,e.1 ∉ (spO s f o fr).map (·.1)) :
  Calls Tryz.prog 77 #[.pointer (some ⟨s,0,none⟩),.slice la l.length cap] w fun e w' => ∃ o2 : K.Own,Good o2 (turnR f true l fr) ∧ e = .returned (.int .i64 ((turnF f fr.length true l fr).1 : Int)) ∧ ∃ R1,HP w ((spO s f o fr).map (·.1)) R1 (spO s f o2 (turnR f true l fr)) w' := by
 rcases hg with ⟨rfl,rfl⟩ | ⟨⟨b,cp,jk⟩,rfl,h0⟩
 ·refine (giveE s f la cap l Rl w hf hI hl h1 h2 hA hRl hnr).mono ?_
  rintro e w' ⟨he,R1,hp⟩
  rw [turn_nil]
  exact ⟨none,.inl ⟨rfl,rfl⟩,he,R1,hp⟩
 ·refine (giveC s b cp jk f fr la cap l Rl w hf hm h0 hI hl h1 h2 hA hd hRl hnr).mono ?_
  rintro e w' ⟨x,he,R1,hp⟩
  exact ⟨some x,.inr ⟨x,rfl,by rw [turnR_len]; exact h0⟩,he,R1,hp⟩
end Go.Proofs.YtfgdepggdiibdaaGreatDoor
namespace Go.Proofs.YtfgdepggdiibdaaGreatDoor
open K
set_option linter.unusedVariables false
def okNm (s : ByteArray) (k : Nat) : Bool := decide (33 ≤ sbyte s k ∧ sbyte s k ≤ 126)
def namB (s : ByteArray) : Bool := decide (1 ≤ s.size ∧ s.size ≤ 72) && (List.range s.size).all (okNm s)
theorem nall_yes {n : Nat} {f : Nat → Bool} (h : ∀ j,j < n → f j = true) : (List.range n).all f = true := by
 simp only [List.all_eq_true,List.mem_range]; exact h
theorem nall_no {n k : Nat} {f : Nat → Bool} (hk : k < n) (h : f k = false) : (List.range n).all f = false := by
 cases hh : (List.range n).all f with
 | false => rfl
 | true =>
  have := List.all_eq_true.1 hh k (List.mem_range.2 hk)
  rw [h] at this; cases this
theorem nup {f : Nat → Bool} {k : Nat} (h : ∀ j,j < k → f j = true) (hk : f k = true) : ∀ j,j < k + 1 → f j = true := by
 intro j hj
 rcases Nat.lt_or_ge j k with h1 | h1
 ·exact h j h1
 ·rw [show j = k by omega]; exact hk
set_option maxRecDepth 100000 in
theorem fNamed (s : ByteArray) (w : World) (hs : s.size ≤ maxLen) :
  Calls Tryz.prog 14 #[.string s] w fun e w' => e = .returned (.bool (namB s)) ∧ Ext [] w w' := by
 unfold maxLen at hs
 refine enter (vs := [.string s]) [] [] [] Tryz.func14 rfl kr (HP.start w) ?_
 refine Rg [0] [] n0 trivial ?_
 refine Rg [0,11] [] n0 trivial ?_
 refine Cfg.cond rfl (b := ((decide ((s.size : Int) < (1 : Int))) || (decide ((s.size : Int) > (72 : Int))))) kr (fun c1r => ?_) (fun c1r => ?_)
 ·have c1 : (((s.size : Int) < (1 : Int)) ∨ ((s.size : Int) > (72 : Int))) := ((orT c1r).elim (fun h => Or.inl (dT h)) (fun h => Or.inr (dT h)))
  refine Rg [2] [] n0 trivial ?_
  refine Cfg.ret rfl (rs := [.tmp 2]) rfl [.bool false] ⟨kr,trivial⟩ (fun w1 hp => ?_)
  exact ⟨by rw [show namB s = false by unfold namB; rw [decide_eq_false om,Bool.false_and]]; rfl,hp.ext⟩
 ·have c1 : ((¬ ((s.size : Int) < (1 : Int))) ∧ (¬ ((s.size : Int) > (72 : Int)))) := ⟨(dF (orF1 c1r)),(dF (orF2 c1r))⟩
  refine Rg [0,13,14] [] n0 trivial ?_
  refine Cfg.loop rfl (ι := Nat) (fun (k : Nat) => [(14,[],.int .i64 (k : Int)),(13,[],.int .i64 (s.size : Int)),(0,[],.string s)]) (fun (k : Nat) => []) (fun (k : Nat) => (k ≤ s.size) ∧ (∀ j,j < k → okNm s j = true)) (fun (k : Nat) => s.size - k) 0 ?_ (Conv.mk kr) .slnil ?_
  ·exact ⟨Nat.zero_le _,fun j h => absurd h (Nat.not_lt_zero j)⟩
  ·rintro k ⟨hk,hall⟩
   refine Rg [0,13,14,15] [] n0 trivial ?_
   refine Cfg.cond rfl (b := (decide ((k : Int) < (s.size : Int)))) kr (fun c2r => ?_) (fun c2r => ?_)
   ·have c2 := (dT c2r)
    refine Rg [0,3,13,14] [] n0 trivial ?_
    refine Rg [0,13,14,26] [] (fun _ => [(0 ≤ (k : Int) ∧ (k : Int) < (s.size : Int)),((.bool (decide ((sbyte s (k : Int)) < (33 : Int))) : Value) = .bool false → (0 ≤ (k : Int) ∧ (k : Int) < (s.size : Int)))]) ⟨om,(fun g0 => have q0 : (¬ ((sbyte s (k : Int)) < (33 : Int))) := (dF (boolV g0)); om),trivial⟩ ?_
    refine Cfg.cond rfl (b := ((decide ((sbyte s (k : Int)) < (33 : Int))) || (decide ((sbyte s (k : Int)) > (126 : Int))))) kr (fun c3r => ?_) (fun c3r => ?_)
    ·have c3 : (((sbyte s (k : Int)) < (33 : Int)) ∨ ((sbyte s (k : Int)) > (126 : Int))) := ((orT c3r).elim (fun h => Or.inl (dT h)) (fun h => Or.inr (dT h)))
     refine Cfg.reg rfl [2] [] (Γ' := [(2,[],.bool false)]) (nd := (fun _ => [])) (fun _ => kr) trivial ?_
     refine Cfg.ret rfl (rs := [.tmp 2]) rfl [.bool false] ⟨kr,trivial⟩ (fun w1 hp => ?_)
     have hok : okNm s k = false := decide_eq_false om
     exact ⟨by rw [show namB s = false by unfold namB; rw [nall_no om hok,Bool.and_false]]; rfl,hp.ext⟩
    ·have c3 : ((¬ ((sbyte s (k : Int)) < (33 : Int))) ∧ (¬ ((sbyte s (k : Int)) > (126 : Int)))) := ⟨(dF (orF1 c3r)),(dF (orF2 c3r))⟩
     refine Rg [0,13,14] [] (fun _ => [(i6 ((k : Int) + 1))]) ⟨om,trivial⟩ ?_
     have hok : okNm s k = true := decide_eq_true om
     refine Cfg.again rfl (k + 1) ⟨by omega,nup hall hok⟩ (by show s.size - (k + 1) < s.size - k; omega) (Conv.mk kr) .slnil
   ·have c2 := (dF c2r)
    refine Rg [2] [] n0 trivial ?_
    refine Cfg.ret rfl (rs := [.tmp 2]) rfl [.bool true] ⟨kr,trivial⟩ (fun w1 hp => ?_)
    exact ⟨by rw [show namB s = true by rw [show k = s.size by omega] at hall; unfold namB; rw [decide_eq_true om,nall_yes hall]; rfl]; rfl,hp.ext⟩
end Go.Proofs.YtfgdepggdiibdaaGreatDoor
namespace Go.Proofs.YtfgdepggdiibdaaGreatDoor
open K
set_option linter.unusedVariables false
def cnt0 (s : ByteArray) : Int := s.foldl (fun n x => if x == (0 : Int).toNat.toUInt8 then n + 1 else n) ((0 : Nat) : Int)
theorem run_count {P : Program} {w : World} (s : ByteArray) : (Extern.BytealgCount.count #[.string s,.int .u8 0]).run P w = .ok (.int .i64 (cnt0 s)) w := by
 have e : Extern.BytealgCount.count #[.string s,.int .u8 0] = (Extern.Bytes.bytesOf (.string s) >>= fun b => Extern.Bytes.asByte (.int .u8 0) >>= fun c => pure (goInt (b.foldl (fun n x => if x == c then n + 1 else n) ((0 : Nat) : Int)))) := rfl
 rw [e]
 simp only [Extern.Bytes.bytesOf,Extern.Bytes.asByte,Sem.run_bind,Sem.run_pure,Result.andThen_ok]
 rfl
structure Tb where
 ps : List Pl
 W : List (ByteArray × Value)
 fr : List Bool
def zB (b : List UInt8) (k : Nat) : IN := ⟨0,b.drop (81 * k)⟩
def rawAt (b : List UInt8) (k : Nat) : List UInt8 := (b.drop (81 * k)).take 81
theorem raw_next {b : List UInt8} {k : Nat} (hb : b.length = 512) (hk : k < 6) : nextF (zB b k) 81 = (rawAt b k,zB b (k + 1)) := by
 unfold nextF zB rawAt
 rw [if_neg (show ¬ (0 : Int) ≠ 0 by decide),if_neg (by simp only [List.length_drop]; omega)]
 simp only [List.drop_drop]
 rw [show 81 * k + (81 : Int).toNat = 81 * (k + 1) by omega]; rfl
def eZ (raw : List UInt8) : IN := (byteF ⟨0,raw⟩).2
def eL (raw : List UInt8) : Nat := (byteF ⟨0,raw⟩).1
def eN (raw : List UInt8) : List UInt8 := (nextF (eZ raw) 72).1
def eW (raw : List UInt8) : IN := (nextF (eZ raw) 72).2
def nmOf (raw : List UInt8) : ByteArray := tx ((eN raw).take (eL raw))
def badN (raw : List UInt8) : Bool := decide (eL raw > (eN raw).length) || !namB (nmOf raw)
def plOf (raw : List UInt8) : Pl := ⟨nmOf raw,(fourF (eW raw)).1,(fourF (fourF (eW raw)).2).1⟩
def badP (W : List (ByteArray × Value)) (p : Pl) : Bool := (smget W p.nm).isSome || (decide (p.sz > 32768) || (decide (p.sz = 0) && decide (p.at_ ≠ 0)))
def entP (q : Nat) (raw : List UInt8) (T : Tb) : Option Tb :=
 if cnt0 (tx raw) = 81 then some T else if badN raw = true then none else if badP T.W (plOf raw) = true then none else
  if (turnF 121 T.fr.length false (runF (plOf raw)) T.fr).1 ≠ 0 then none else some ⟨T.ps.set q (plOf raw),smset T.W (plOf raw).nm (.int .i64 (q : Int)),turnR 121 false (runF (plOf raw)) T.fr⟩
def entL (b : List UInt8) (n : Nat) : Nat → Tb → Bool × Tb
 | 0,T => (decide (sheetF T.ps n = b),T)
 | j + 1,T => match entP (6 * n + (5 - j)) (rawAt b (5 - j)) T with
  | none => (false,T)
  | some T2 => entL b n j T2
theorem entL_step {b : List UInt8} {n k : Nat} {T T2 : Tb} (hk : k < 6) (h : entP (6 * n + k) (rawAt b k) T = some T2) : entL b n (6 - k) T = entL b n (6 - (k + 1)) T2 := by
 rw [show 6 - k = (6 - (k + 1)) + 1 by omega,entL,show 5 - (6 - (k + 1)) = k by omega,h]
theorem entL_stop {b : List UInt8} {n k : Nat} {T : Tb} (hk : k < 6) (h : entP (6 * n + k) (rawAt b k) T = none) : entL b n (6 - k) T = (false,T) := by
 rw [show 6 - k = (6 - (k + 1)) + 1 by omega,entL,show 5 - (6 - (k + 1)) = k by omega,h]
structure TbOk (T : Tb) : Prop where
 l : T.ps.length = 144
 o : ∀ p ∈ T.ps,PlOk p
 f : T.fr.length ≤ 4096
theorem ent_skip {q : Nat} {raw : List UInt8} {T : Tb} (h : cnt0 (tx raw) = 81) : entP q raw T = some T := if_pos h
theorem ent_badN {q : Nat} {raw : List UInt8} {T : Tb} (h : ¬ cnt0 (tx raw) = 81) (h1 : badN raw = true) : entP q raw T = none := by unfold entP; rw [if_neg h,if_pos h1]
theorem ent_badP {q : Nat} {raw : List UInt8} {T : Tb} (h : ¬ cnt0 (tx raw) = 81) (h1 : badN raw = false) (h2 : badP T.W (plOf raw) = true) : entP q raw T = none := by unfold entP; rw [if_neg h,if_neg (by rw [h1]; decide),if_pos h2]
theorem ent_room {q : Nat} {raw : List UInt8} {T : Tb} (h : ¬ cnt0 (tx raw) = 81) (h1 : badN raw = false) (h2 : badP T.W (plOf raw) = false) (h3 : (turnF 121 T.fr.length false (runF (plOf raw)) T.fr).1 ≠ 0) : entP q raw T = none := by unfold entP; rw [if_neg h,if_neg (by rw [h1]; decide),if_neg (by rw [h2]; decide),if_pos h3]
theorem ent_ok {q : Nat} {raw : List UInt8} {T : Tb} (h : ¬ cnt0 (tx raw) = 81) (h1 : badN raw = false) (h2 : badP T.W (plOf raw) = false) (h3 : ¬ (turnF 121 T.fr.length false (runF (plOf raw)) T.fr).1 ≠ 0) : entP q raw T = some ⟨T.ps.set q (plOf raw),smset T.W (plOf raw).nm (.int .i64 (q : Int)),turnR 121 false (runF (plOf raw)) T.fr⟩ := by unfold entP; rw [if_neg h,if_neg (by rw [h1]; decide),if_neg (by rw [h2]; decide),if_neg h3]
def tabO (tb nr rm : Nat) (T : Tb) (o : K.Own) (x : Array MapEntry × Nat) : List (Nat × Obj) := (tb,.cells (tbC T.ps nr rm) 88 (0,0)) :: (nr,.map x.1 x.2) :: spO rm 121 o T.fr
theorem claimP0 {p : Pl} (h0 : p.sz = 0) (rm : Nat) (o : K.Own) (fr : List Bool) (w : World) (hm : fr.length ≤ 4096) (hg : Good o fr) (hA : Has w (spO rm 121 o fr)) (hd : ((spO rm 121 o fr).map (·.1)).Nodup) :
  Calls Tryz.prog 71 #[.pointer (some ⟨rm,0,none⟩),.slice none 0 0] w fun e w' => ∃ o2 : K.Own,Good o2 (turnR 121 false (runF p) fr) ∧ e = .returned (.int .i64 ((turnF 121 fr.length false (runF p) fr).1 : Int)) ∧ ∃ R1,HP w ((spO rm 121 o fr).map (·.1)) R1 (spO rm 121 o2 (turnR 121 false (runF p) fr)) w' := by
 have e : runF p = [] := if_pos h0
 rw [e]
 exact claimU rm 121 o fr none 0 [] [] w (by unfold I64; omega) hm hg (fun h => absurd h (by decide)) (Nat.zero_le _) (fun i => by unfold I64 ra; simp) (fun i => by unfold I64 rl; simp) hA hd (fun e he => by cases he) (fun e he => by cases he)
theorem claimP1 {p : Pl} (h0 : 0 < p.sz) (ho : PlOk p) (rb rm : Nat) (o : K.Own) (fr : List Bool) (w : World) (hm : fr.length ≤ 4096) (hg : Good o fr) (hA : Has w (spO rm 121 o fr)) (hd : ((spO rm 121 o fr).map (·.1)).Nodup) (hR : Has w [(rb,.cells #[.int .i64 (p.at_ : Int),.int .i64 (secs p.sz : Int)] 117 (0,0))]) (hn : rb ∉ (spO rm 121 o fr).map (·.1)) :
  Calls Tryz.prog 71 #[.pointer (some ⟨rm,0,none⟩),.slice (some ⟨rb,0,none⟩) 1 1] w fun e w' => ∃ o2 : K.Own,Good o2 (turnR 121 false (runF p) fr) ∧ e = .returned (.int .i64 ((turnF 121 fr.length false (runF p) fr).1 : Int)) ∧ ∃ R1,HP w ((spO rm 121 o fr).map (·.1)) R1 (spO rm 121 o2 (turnR 121 false (runF p) fr)) w' := by
 have e : runF p = [((p.at_ : Int),(secs p.sz : Int))] := if_neg om
 have h1 := ho.at_
 have h2 := ho.sz
 rw [e]
 exact claimU rm 121 o fr (some ⟨rb,0,none⟩) 1 _ _ w (by unfold I64; omega) hm hg (ins1 rb 117 (p.at_ : Int) (secs p.sz : Int)) (by show 1 ≤ maxLen; decide) (ra1 (by unfold I64; omega)) (rl1 (by unfold I64 secs; omega)) hA hd hR (fun e he => by rw [List.mem_singleton.1 he]; exact hn)
set_option maxRecDepth 100000 in
theorem fCount (s : ByteArray) (w : World) :
  Calls Tryz.prog 68 #[.string s,.string ⟨#[0]⟩] w fun e w' => e = .returned (.int .i64 (cnt0 s)) ∧ Ext [] w w' := by
 refine enter (vs := [.string s,.string ⟨#[0]⟩]) [] [] [] Tryz.func68 rfl kr (HP.start w) ?_
 refine Rg [0,1] [] n0 trivial ?_
 refine Rg [0,1,9] [] n0 trivial ?_
 refine Cfg.condF rfl (b := false) kr rfl ?_
 refine Rg [0,1,15] [] n0 trivial ?_
 refine Cfg.condT rfl (b := true) kr rfl ?_
 refine Cfg.begL rfl ?_
 refine Lp 3 [] (some [16,18]) (fun _ => [(iL (0 : Int) 1)]) ⟨om,trivial⟩ ?_
 refine Le (Eff.callE (vs := [.string s,.int .u8 (sbyte ⟨#[0]⟩ (0 : Int))]) (.int .i64 (cnt0 s)) (e := Extern.BytealgCount.count) rfl Tryz.func107 rfl rfl kr kr kr (fun w1 h => run_count s)) ?_
 rintro ⟨⟩ -
 refine Lp 1 [] (some [4]) n0 trivial ?_
 refine CfgL.done rfl ?_
 refine Cfg.ret rfl (rs := [.tmp 4]) rfl [.int .i64 (cnt0 s)] ⟨kr,trivial⟩ (fun w1 hp => ?_)
 exact ⟨rfl,hp.ext⟩
end Go.Proofs.YtfgdepggdiibdaaGreatDoor
namespace Go.Proofs.YtfgdepggdiibdaaGreatDoor
open K
set_option linter.unusedVariables false
theorem HP.sep {w0 w : World} {M : List Nat} {R Fl Al T : List (Nat × Obj)} (h : HP w0 M R (Fl ++ (Al ++ T)) w) {e : Nat × Obj} (he : e ∈ Fl) : e.1 ∉ Al.map (·.1) := by
 have hd := h.dist
 rw [List.map_append,List.map_append] at hd
 intro hm
 exact (List.nodup_append.1 hd).2.2 _ (List.mem_map.2 ⟨e,he,rfl⟩) _ (mL hm) rfl
theorem badN_l {raw : List UInt8} (h : (eL raw : Int) > ((tx (eN raw)).size : Int)) : badN raw = true := by
 rw [tx_size] at h
 unfold badN
 rw [decide_eq_true (show eL raw > (eN raw).length by omega),Bool.true_or]
theorem badN_n {raw : List UInt8} (h : namB (nmOf raw) = false) : badN raw = true := by unfold badN; rw [h,Bool.not_false,Bool.or_true]
theorem badN_f {raw : List UInt8} (h : ¬ (eL raw : Int) > ((tx (eN raw)).size : Int)) (h2 : namB (nmOf raw) = true) : badN raw = false := by
 rw [tx_size] at h
 unfold badN
 rw [decide_eq_false (show ¬ eL raw > (eN raw).length by omega),h2]; rfl
theorem badP_t {W : List (ByteArray × Value)} {p : Pl} (h : ((smget W p.nm).isSome = true ∨ (p.sz : Int) > 32768) ∨ ((p.sz : Int) = 0 ∧ (p.at_ : Int) ≠ 0)) : badP W p = true := by
 unfold badP
 rcases h with (h | h) | ⟨h,h2⟩
 ·rw [h,Bool.true_or]
 ·rw [decide_eq_true (show p.sz > 32768 by omega),Bool.true_or,Bool.or_true]
 ·rw [decide_eq_true (show p.sz = 0 by omega),decide_eq_true (show p.at_ ≠ 0 by omega)]; simp
theorem badP_f {W : List (ByteArray × Value)} {p : Pl} (h : ((smget W p.nm).isSome = false ∧ ¬ (p.sz : Int) > 32768) ∧ ((p.sz : Int) ≠ 0 ∨ (p.at_ : Int) = 0)) : badP W p = false := by
 unfold badP
 obtain ⟨⟨h1,h2⟩,h3⟩ := h
 rw [h1,decide_eq_false (show ¬ p.sz > 32768 by omega)]
 rcases h3 with h | h
 ·rw [decide_eq_false (show ¬ p.sz = 0 by omega)]; rfl
 ·rw [decide_eq_false (show ¬ p.at_ ≠ 0 by omega)]; simp
theorem turnR_bad {f : Int} (q : Bool) {l : List (Int × Int)} {fr : List Bool} (h : (turnF f fr.length q l fr).1 ≠ 0) : turnR f q l fr = fr := by
 unfold turnR
 rw [if_neg h]
theorem nmOf_le (raw : List UInt8) : (nmOf raw).size ≤ 72 := by
 show (tx _).size ≤ 72
 rw [tx_size,List.length_take]
 have h1 : (eN raw).length ≤ 72 := nextF_len (eZ raw) 72
 omega
theorem plOf_ok {raw : List UInt8} (h : ¬ (plOf raw).sz > 32768) : PlOk (plOf raw) := by
 refine ⟨?_,fourF_lt _,Nat.le_of_not_lt h⟩
 show (tx _).size ≤ 72
 rw [tx_size,List.length_take]
 have h1 : (eN raw).length ≤ 72 := nextF_len (eZ raw) 72
 omega
theorem tb_set {ps : List Pl} {nr rm q : Nat} {p : Pl} (hq : q < ps.length) : spl (tbC ps nr rm) (q * 3) (plc p).toArray.toList = tbC (ps.set q p) nr rm := by
 have h0 : (ps.take q).length = q := by rw [List.length_take]; omega
 have e1 : ps.flatMap plc = (ps.take q).flatMap plc ++ (plc (ps.getD q plz) ++ (ps.drop (q + 1)).flatMap plc) := by
  rw [getD_of _ hq,← List.flatMap_cons,← List.drop_eq_getElem_cons hq,← List.flatMap_append,List.take_append_drop]
 have e2 : (ps.set q p).flatMap plc = (ps.take q).flatMap plc ++ (plc p ++ (ps.drop (q + 1)).flatMap plc) := by
  rw [List.set_eq_take_append_cons_drop,if_pos hq,List.flatMap_append,List.flatMap_cons]
 unfold tbC
 rw [e1,e2]
 have h2 := spl_list ((ps.take q).flatMap plc) (plc (ps.getD q plz)) ((ps.drop (q + 1)).flatMap plc ++ [Value.map (some nr),pT rm]) (plc p) rfl
 rw [plf_len,h0] at h2
 simp only [List.append_assoc] at h2 ⊢
 exact h2
theorem tb_set2 {ps : List Pl} {nr rm q z : Nat} {p : Pl} (hq : q < ps.length) (hz : z = q * 3) : spl (tbC ps nr rm) z (plc p).toArray.toList = tbC (ps.set q p) nr rm := by rw [hz]; exact tb_set hq
theorem tb_in {T : Tb} (h : TbOk T) {q : Nat} {p : Pl} (hp : PlOk p) (hq : q < 144) {W : List (ByteArray × Value)} {fr : List Bool} (hf : fr.length = T.fr.length) : TbOk ⟨T.ps.set q p,W,fr⟩ := by
 refine ⟨by show (T.ps.set q p).length = 144; rw [List.length_set]; exact h.l,fun x hx => ?_,by show fr.length ≤ 4096; rw [hf]; exact h.f⟩
 rcases List.mem_or_eq_of_mem_set hx with hx | rfl
 ·exact h.o x hx
 ·exact hp
set_option maxRecDepth 100000 in
set_option maxHeartbeats 8000000 in
theorem fEnter (tb nr rm : Nat) (T0 : Tb) (o0 : K.Own) (x0 : Array MapEntry × Nat) (n : Nat) (b : List UInt8) (w : World) (hA : Has w (tabO tb nr rm T0 o0 x0)) (hd : ((tabO tb nr rm T0 o0 x0).map (·.1)).Nodup) (ho0 : TbOk T0) (hg0 : Good o0 T0.fr) (hm0 : SMapOk x0.1 x0.2 T0.W) (hb : b.length = 512) (hn : n < 24) :
  Calls Tryz.prog 34 #[.pointer (some ⟨tb,0,none⟩),.int .i64 (n : Int),.agg (bv b)] w fun e w' => ∃ x : K.Own × (Array MapEntry × Nat),(TbOk (entL b n 6 T0).2 ∧ Good x.1 (entL b n 6 T0).2.fr ∧ SMapOk x.2.1 x.2.2 (entL b n 6 T0).2.W) ∧ e = .returned (.bool (entL b n 6 T0).1) ∧ ∃ R1,HP w ((tabO tb nr rm T0 o0 x0).map (·.1)) R1 (tabO tb nr rm (entL b n 6 T0).2 x.1 x.2) w' := by
 have htb := tx_size b
 refine enter (vs := [pT tb,.int .i64 (n : Int),.agg (bv b)]) ((tabO tb nr rm T0 o0 x0).map (·.1)) [] ([(tb,.cells (tbC T0.ps nr rm) 88 (0,0)),(nr,.map x0.1 x0.2)] ++ (spO rm 121 o0 T0.fr ++ [])) Tryz.func34 rfl kr (by rw [List.append_nil]; exact HP.ofL hA hd (R := []) (fun e he => by cases he) (fun e he => by cases he)) ?_
 refine Cfg.begL rfl ?_
 refine Le (Eff.box (v := .agg (bv b)) rfl kr) ?_
 rintro bb ⟨hbb,nbb⟩
 refine Lp 1 [] (some [0,1,5]) n0 trivial ?_
 refine CfgL.done rfl ?_
 refine Cfg.begL rfl ?_
 refine Lp 2 [dZ,(dS (.string (tx b)))] (some [0,1,5,17]) (fun S => [(512 ≤ 512),(∀ w1,S w1 → (Conv.bytesToString (.slice (some ⟨bb,0,none⟩) 512 512)).run Tryz.prog w1 = .ok (.string (tx b)) w1)]) ⟨om,(fun w1 h => h.ostr (c := 512) 0 rfl hb),trivial⟩ ?_
 refine Le (Eff.callN (vs := [.string (tx b)]) (fun ib : Nat => pT ib) (fun ib => ib) (fun _ => .cells (inC ⟨0,b⟩) 196 (0,0)) (fun _ => True) rfl Tryz.func66 rfl rfl kr (fun w1 _ => wOf b w1)) ?_
 rintro ib ⟨-,hib,nib⟩
 refine Lp 1 [] (some [0,1,5,7]) n0 trivial ?_
 refine CfgL.done rfl ?_
 refine Rg [0,1,5,7,19] [] n0 trivial ?_
 refine Cfg.loop rfl (ι := Nat × Tb × K.Own × Array MapEntry × Nat) (fun (xz : Nat × Tb × K.Own × Array MapEntry × Nat) => match xz with | (k,T,o,x) => [(19,[],.int .i64 (k : Int)),(7,[],pT ib),(5,[],pT bb),(0,[],pT tb),(1,[],.int .i64 (n : Int))]) (fun (xz : Nat × Tb × K.Own × Array MapEntry × Nat) => match xz with | (k,T,o,x) => ([(ib,.cells (inC (zB b k)) 196 (0,0)),(bb,.cells (bv b) 37 (0,0)),(tb,.cells (tbC T.ps nr rm) 88 (0,0)),(nr,.map x.1 x.2)] ++ (spO rm 121 o T.fr ++ []))) (fun (xz : Nat × Tb × K.Own × Array MapEntry × Nat) => match xz with | (k,T,o,x) => (k ≤ 6) ∧ (entL b n (6 - k) T = entL b n 6 T0) ∧ (TbOk T) ∧ (Good o T.fr) ∧ (SMapOk x.1 x.2 T.W)) (fun (xz : Nat × Tb × K.Own × Array MapEntry × Nat) => match xz with | (k,T,o,x) => 6 - k) (0,T0,o0,x0) ?_ (Conv.mk kr) slr ?_
 ·exact ⟨Nat.zero_le _,rfl,ho0,hg0,hm0⟩
 ·rintro ⟨k,T,o,x⟩ ⟨hk,hra,ho,hg,hm⟩
  refine Rg [0,1,5,7,19,20] [] n0 trivial ?_
  refine Cfg.cond rfl (b := (decide ((k : Int) < (6 : Int)))) kr (fun c1r => ?_) (fun c1r => ?_)
  ·have c1 := (dT c1r)
   refine Rg [0,1,5,7,8,19] [] n0 trivial ?_
   refine Cfg.begL rfl ?_
   refine Lp 1 [] none n0 trivial ?_
   refine Le (Eff.callM (vs := [pT ib,.int .i64 81]) (.string (tx (rawAt b k))) 0 (b := ib) (ob := .cells (inC (zB b k)) 196 (0,0)) (.cells (inC (zB b (k + 1))) 196 (0,0)) rfl Tryz.func67 rfl rfl kr kr (fun w1 h => (by have h9 := wTRaw ib (zB b k) 81 w1 (h.own (ib,Obj.cells (inC (zB b k)) 196 (0,0)) (show (ib,Obj.cells (inC (zB b k)) 196 (0,0)) ∈ ([(ib,Obj.cells (inC (zB b k)) 196 (0,0)),(bb,Obj.cells (bv b) 37 (0,0)),(tb,Obj.cells (tbC T.ps nr rm) 88 (0,0)),(nr,Obj.map x.1 x.2)] ++ (spO rm 121 o T.fr ++ [])) from (mL (mG 0 rfl)))); rw [raw_next hb om] at h9; exact h9))) ?_
   rintro ⟨⟩ -
   refine CfgL.pure 1 [] (some [0,1,5,7,8,9,19]) (Γ' := [(9,[],.string (tx (rawAt b k))),(8,[],.int .i64 (k : Int)),(19,[],.int .i64 (k : Int)),(7,[],pT ib),(5,[],pT bb),(0,[],pT tb),(1,[],.int .i64 (n : Int))]) (nd := (fun _ => [])) kr (fun _ => kr) trivial ?_
   refine CfgL.done rfl ?_
   refine Cfg.begL rfl ?_
   refine Lp 1 [] none n0 trivial ?_
   refine Le (Eff.callA (vs := [.string (tx (rawAt b k)),.string ⟨#[0]⟩]) (.int .i64 (cnt0 (tx (rawAt b k)))) rfl Tryz.func68 rfl rfl kr (fun w1 _ => fCount (tx (rawAt b k)) w1)) ?_
   rintro ⟨⟩ -
   refine Lp 1 [] (some [0,1,5,7,8,9,19,26]) n0 trivial ?_
   refine CfgL.done rfl ?_
   refine Cfg.cond rfl (b := ((cnt0 (tx (rawAt b k))) == (81 : Int))) kr (fun c2r => ?_) (fun c2r => ?_)
   ·have c2 := (beq_iff_eq.1 c2r)
    refine Rg [0,1,5,7,19] [] (fun _ => [(i6 ((k : Int) + 1))]) ⟨om,trivial⟩ ?_
    refine Cfg.again rfl (k + 1,T,o,x) ⟨by omega,(entL_step om (ent_skip c2)).symm.trans hra,ho,hg,hm⟩ (by show 6 - (k + 1) < 6 - k; omega) (Conv.mk kr) slr
   ·have c2 := (beq_eq_false_iff_ne.1 c2r)
    refine Cfg.begL rfl ?_
    refine Lp 1 [] (some [0,1,5,7,8,19,27]) n0 trivial ?_
    refine Le (Eff.callN (vs := [.string (tx (rawAt b k))]) (fun eb : Nat => pT eb) (fun eb => eb) (fun _ => .cells (inC ⟨0,(rawAt b k)⟩) 196 (0,0)) (fun _ => True) rfl Tryz.func66 rfl rfl kr (fun w1 _ => wOf (rawAt b k) w1)) ?_
    rintro eb ⟨-,heb,neb⟩
    refine Lp 1 [] (some [0,1,5,7,8,10,19]) n0 trivial ?_
    refine CfgL.done rfl ?_
    have heL : eL (rawAt b k) < 256 := Nat.mod_lt _ (by decide)
    have htN := tx_size (eN (rawAt b k))
    refine Cfg.begL rfl ?_
    refine Lp 1 [] none n0 trivial ?_
    refine Le (Eff.callM (vs := [pT eb]) (.int .u8 ((eL (rawAt b k)) : Int)) 0 (b := eb) (ob := .cells (inC ⟨0,(rawAt b k)⟩) 196 (0,0)) (.cells (inC (eZ (rawAt b k))) 196 (0,0)) rfl Tryz.func69 rfl rfl kr kr (fun w1 h => wTByte eb ⟨0,(rawAt b k)⟩ w1 (h.own (eb,Obj.cells (inC ⟨0,(rawAt b k)⟩) 196 (0,0)) (show (eb,Obj.cells (inC ⟨0,(rawAt b k)⟩) 196 (0,0)) ∈ ([(eb,Obj.cells (inC ⟨0,(rawAt b k)⟩) 196 (0,0)),(ib,Obj.cells (inC (zB b (k + 1))) 196 (0,0)),(bb,Obj.cells (bv b) 37 (0,0)),(tb,Obj.cells (tbC T.ps nr rm) 88 (0,0)),(nr,Obj.map x.1 x.2)] ++ (spO rm 121 o T.fr ++ [])) from (mL (mG 0 rfl)))))) ?_
    rintro ⟨⟩ -
    refine Lp 2 [] (some [0,1,5,7,8,10,11,19]) (fun _ => [(i6 ((eL (rawAt b k)) : Int))]) ⟨om,trivial⟩ ?_
    refine CfgL.done rfl ?_
    refine Cfg.begL rfl ?_
    refine CfgL.pure 1 [] none (Γ' := [(32,[],pT eb),(11,[],.int .i64 ((eL (rawAt b k)) : Int)),(10,[],pT eb),(8,[],.int .i64 (k : Int)),(19,[],.int .i64 (k : Int)),(7,[],pT ib),(5,[],pT bb),(0,[],pT tb),(1,[],.int .i64 (n : Int))]) (nd := (fun _ => [])) kr (fun _ => kr) trivial ?_
    refine Le (Eff.callM (vs := [pT eb,.int .i64 72]) (.string (tx (eN (rawAt b k)))) 0 (b := eb) (ob := .cells (inC (eZ (rawAt b k))) 196 (0,0)) (.cells (inC (eW (rawAt b k))) 196 (0,0)) rfl Tryz.func67 rfl rfl kr kr (fun w1 h => wTRaw eb (eZ (rawAt b k)) 72 w1 (h.own (eb,Obj.cells (inC (eZ (rawAt b k))) 196 (0,0)) (show (eb,Obj.cells (inC (eZ (rawAt b k))) 196 (0,0)) ∈ ([(eb,Obj.cells (inC (eZ (rawAt b k))) 196 (0,0)),(ib,Obj.cells (inC (zB b (k + 1))) 196 (0,0)),(bb,Obj.cells (bv b) 37 (0,0)),(tb,Obj.cells (tbC T.ps nr rm) 88 (0,0)),(nr,Obj.map x.1 x.2)] ++ (spO rm 121 o T.fr ++ [])) from (mL (mG 0 rfl)))))) ?_
    rintro ⟨⟩ -
    refine Lp 1 [] (some [0,1,5,7,8,10,11,12,19]) n0 trivial ?_
    refine CfgL.done rfl ?_
    refine Cfg.begL rfl ?_
    refine Lp 5 [] (some [0,1,5,7,8,10,11,12,19,38]) n0 trivial ?_
    by_cases c3 : (decide (((eL (rawAt b k)) : Int) > ((tx (eN (rawAt b k))).size : Int))) = true
    ·have c3k : (decide (((eL (rawAt b k)) : Int) > ((tx (eN (rawAt b k))).size : Int))) = true := c3
     have c3q := (dT c3k)
     refine CfgL.known 38 (b := (decide (((eL (rawAt b k)) : Int) > ((tx (eN (rawAt b k))).size : Int)))) kr true c3k ?_
     refine Lp 6 [(2,false,none),(2,false,none),(2,false,none),(2,false,none),(2,false,none)] (some [0,1,5,7,8,10,11,12,19,44]) (fun _ => [((.bool true : Value) ≠ .bool false),((.bool true : Value) ≠ .bool false),((.bool true : Value) ≠ .bool false),((.bool true : Value) ≠ .bool false),((.bool true : Value) ≠ .bool false)]) ⟨(by simp),(by simp),(by simp),(by simp),(by simp),trivial⟩ ?_
     refine CfgL.done rfl ?_
     refine Cfg.condT rfl (b := true) kr rfl ?_
     refine Rg [6] [] n0 trivial ?_
     refine Cfg.ret rfl (rs := [.tmp 6]) rfl [.bool false] ⟨kr,trivial⟩ (fun w1 hp => ?_)
     have hfin : entL b n 6 T0 = (false,T) := hra.symm.trans (entL_stop om (ent_badN c2 (badN_l c3q)))
     rw [hfin]
     have h9 : HP w ((tabO tb nr rm T0 o0 x0).map (·.1)) _ (([(tb,Obj.cells (tbC T.ps nr rm) 88 (0,0)),(nr,Obj.map x.1 x.2)] ++ (spO rm 121 o T.fr ++ []))) w1 := hp.sub (.cons _ (.cons _ (.cons _ slr)))
     rw [List.append_nil] at h9
     exact ⟨(o,x),⟨ho,hg,hm⟩,rfl,_,h9⟩
    ·have c3k : (decide (((eL (rawAt b k)) : Int) > ((tx (eN (rawAt b k))).size : Int))) = false := (by simpa using c3)
     have c3q := (dF c3k)
     refine CfgL.known 38 (b := (decide (((eL (rawAt b k)) : Int) > ((tx (eN (rawAt b k))).size : Int)))) kr false c3k ?_
     refine Lp 3 [(1,false,none),(1,false,none),(1,false,none)] (some [0,1,5,7,8,10,11,12,19,38,41]) (fun _ => [((.bool false : Value) = .bool false),((.bool false : Value) = .bool false),((.bool false : Value) = .bool false),(0 ≤ ((eL (rawAt b k)) : Int)),(0 ≤ ((eL (rawAt b k))) ∧ ((eL (rawAt b k))) ≤ (tx (eN (rawAt b k))).size)]) ⟨rfl,rfl,rfl,om,om,trivial⟩ ?_
     refine Le (Eff.callA (vs := [.string ((tx (eN (rawAt b k))).extract 0 (((eL (rawAt b k)))))]) (.bool (namB (nmOf (rawAt b k)))) rfl Tryz.func14 rfl rfl kr (fun w1 _ => by rw [tx_take]; exact fNamed (nmOf (rawAt b k)) w1 (Nat.le_trans (nmOf_le _) (by decide)))) ?_
     rintro ⟨⟩ -
     refine Lp 2 [(1,false,none)] (some [0,1,5,7,8,10,11,12,19,44]) (fun _ => [((.bool false : Value) = .bool false)]) ⟨rfl,trivial⟩ ?_
     refine CfgL.done rfl ?_
     refine Cfg.cond rfl (b := (!(namB (nmOf (rawAt b k))))) kr (fun c5r => ?_) (fun c5r => ?_)
     ·have c5 : ((namB (nmOf (rawAt b k))) = false) := (notT c5r)
      refine Rg [6] [] n0 trivial ?_
      refine Cfg.ret rfl (rs := [.tmp 6]) rfl [.bool false] ⟨kr,trivial⟩ (fun w1 hp => ?_)
      have hfin : entL b n 6 T0 = (false,T) := hra.symm.trans (entL_stop om (ent_badN c2 (badN_n c5)))
      rw [hfin]
      have h9 : HP w ((tabO tb nr rm T0 o0 x0).map (·.1)) _ (([(tb,Obj.cells (tbC T.ps nr rm) 88 (0,0)),(nr,Obj.map x.1 x.2)] ++ (spO rm 121 o T.fr ++ []))) w1 := hp.sub (.cons _ (.cons _ (.cons _ slr)))
      rw [List.append_nil] at h9
      exact ⟨(o,x),⟨ho,hg,hm⟩,rfl,_,h9⟩
     ·have c5 : ((namB (nmOf (rawAt b k))) = true) := (notF c5r)
      have hq1 := fourF_lt (eW (rawAt b k))
      have hq2 := fourF_lt (fourF (eW (rawAt b k))).2
      refine Cfg.begA rfl kr ([(ib,.cells (inC (zB b (k + 1))) 196 (0,0)),(bb,.cells (bv b) 37 (0,0)),(tb,.cells (tbC T.ps nr rm) 88 (0,0)),(nr,.map x.1 x.2)] ++ (spO rm 121 o T.fr ++ [])) ?_
      refine CfgA.join (ι := Nat) (fun (pb : Nat) => ([(pb,.cells ((plc (plOf (rawAt b k))).toArray) 85 (0,0)),(eb,.cells (inC (fourF (fourF (eW (rawAt b k))).2).2) 196 (0,0)),(ib,.cells (inC (zB b (k + 1))) 196 (0,0)),(bb,.cells (bv b) 37 (0,0)),(tb,.cells (tbC T.ps nr rm) 88 (0,0)),(nr,.map x.1 x.2)] ++ (spO rm 121 o T.fr ++ []))) (fun (pb : Nat) => [(13,[],pT pb),(8,[],.int .i64 (k : Int)),(19,[],.int .i64 (k : Int)),(7,[],pT ib),(5,[],pT bb),(0,[],pT tb),(1,[],.int .i64 (n : Int))]) ?_ ?_
      ·rintro pb
       refine Cfg.begA rfl kr ([(pb,.cells ((plc (plOf (rawAt b k))).toArray) 85 (0,0)),(eb,.cells (inC (fourF (fourF (eW (rawAt b k))).2).2) 196 (0,0)),(ib,.cells (inC (zB b (k + 1))) 196 (0,0)),(bb,.cells (bv b) 37 (0,0)),(tb,.cells (tbC T.ps nr rm) 88 (0,0)),(nr,.map x.1 x.2)] ++ (spO rm 121 o T.fr ++ [])) ?_
       refine Ap [0,1,2,3,4,5] [dZ,dZ,dZ,(dS (.map (some nr))),dZ,(dS (.string (plOf (rawAt b k)).nm))] (some [0,1,5,7,8,13,19,59,61]) (tF 6 6) slr 6 (fun S => [(cE S tb 432 (.map (some nr))),(cE S pb 0 (.string (plOf (rawAt b k)).nm))]) ⟨(fun w1 h => h.ocell 4 rfl (tb_names ho.l)),(oC 0 rfl rfl),trivial⟩ ?_
       refine Ae 6 rfl 5  (Eff.sGet (z := .int .i64 0) (r := nr) (k := (plOf (rawAt b k)).nm) (es := x.1) (ck := x.2) (W := T.W) rfl Tryz.underlying81 Tryz.underlying9 kr kr kr hm (fun w1 h => (h.own (nr,Obj.map x.1 x.2) (show (nr,Obj.map x.1 x.2) ∈ ([(pb,Obj.cells ((plc (plOf (rawAt b k))).toArray) 85 (0,0)),(eb,Obj.cells (inC (fourF (fourF (eW (rawAt b k))).2).2) 196 (0,0)),(ib,Obj.cells (inC (zB b (k + 1))) 196 (0,0)),(bb,Obj.cells (bv b) 37 (0,0)),(tb,Obj.cells (tbC T.ps nr rm) 88 (0,0)),(nr,Obj.map x.1 x.2)] ++ (spO rm 121 o T.fr ++ [])) from (mL (mG 5 rfl)))))) (fun _ _ => slr) ?_
       rintro ⟨⟩ -
       refine Ap [7,8,9,10,11] [] (some [0,1,5,7,8,13,15,19]) (tF 12 0) slr 0 n0 trivial ?_
       refine CfgA.done kr ?_
       refine Rg [0,1,5,7,8,13,19,80] [dZ,dZ,dZ,(dS (.int .i64 ((plOf (rawAt b k)).sz : Int))),dZ,dZ,dZ,dZ,(dS (.int .i64 ((plOf (rawAt b k)).sz : Int))),dZ,dZ,dZ,(dS (.int .i64 ((plOf (rawAt b k)).at_ : Int)))] (fun S => [((.bool (smget T.W (plOf (rawAt b k)).nm).isSome : Value) = .bool false → (cE S pb 2 (.int .i64 ((plOf (rawAt b k)).sz : Int)))),((.bool ((smget T.W (plOf (rawAt b k)).nm).isSome || (decide (((plOf (rawAt b k)).sz : Int) > (32768 : Int)))) : Value) = .bool false → (cE S pb 2 (.int .i64 ((plOf (rawAt b k)).sz : Int)))),((.bool (((plOf (rawAt b k)).sz : Int) == (0 : Int)) : Value) = .bool true → ((.bool ((smget T.W (plOf (rawAt b k)).nm).isSome || (decide (((plOf (rawAt b k)).sz : Int) > (32768 : Int)))) : Value) = .bool false → (cE S pb 1 (.int .i64 ((plOf (rawAt b k)).at_ : Int)))))]) ⟨(fun g0 => have q0 : ((smget T.W (plOf (rawAt b k)).nm).isSome = false) := (boolV g0); (oC 0 rfl rfl)),(fun g0 => have q0 : (((smget T.W (plOf (rawAt b k)).nm).isSome = false) ∧ (¬ (((plOf (rawAt b k)).sz : Int) > (32768 : Int)))) := ⟨(orF1 (boolV g0)),(dF (orF2 (boolV g0)))⟩; (oC 0 rfl rfl)),(fun g0 g1 => have q0 : (((plOf (rawAt b k)).sz : Int) = (0 : Int)) := (beq_iff_eq.1 (boolV g0)); have q1 : (((smget T.W (plOf (rawAt b k)).nm).isSome = false) ∧ (¬ (((plOf (rawAt b k)).sz : Int) > (32768 : Int)))) := ⟨(orF1 (boolV g1)),(dF (orF2 (boolV g1)))⟩; (oC 0 rfl rfl)),trivial⟩ ?_
       refine Cfg.cond rfl (b := (((smget T.W (plOf (rawAt b k)).nm).isSome || (decide (((plOf (rawAt b k)).sz : Int) > (32768 : Int)))) || ((((plOf (rawAt b k)).sz : Int) == (0 : Int)) && (((plOf (rawAt b k)).at_ : Int) != (0 : Int))))) kr (fun c6r => ?_) (fun c6r => ?_)
       ·have c6 : ((((smget T.W (plOf (rawAt b k)).nm).isSome = true) ∨ (((plOf (rawAt b k)).sz : Int) > (32768 : Int))) ∨ ((((plOf (rawAt b k)).sz : Int) = (0 : Int)) ∧ (((plOf (rawAt b k)).at_ : Int) ≠ (0 : Int)))) := ((orT c6r).elim (fun h => Or.inl ((orT h).elim (fun h => Or.inl h) (fun h => Or.inr (dT h)))) (fun h => Or.inr ⟨(beq_iff_eq.1 (andT1 h)),(bne_iff_ne.1 (andT2 h))⟩))
        refine Rg [6] [] n0 trivial ?_
        refine Cfg.ret rfl (rs := [.tmp 6]) rfl [.bool false] ⟨kr,trivial⟩ (fun w1 hp => ?_)
        have hfin : entL b n 6 T0 = (false,T) := hra.symm.trans (entL_stop om (ent_badP c2 (badN_f c3q c5) (badP_t c6)))
        rw [hfin]
        have h9 : HP w ((tabO tb nr rm T0 o0 x0).map (·.1)) _ (([(tb,Obj.cells (tbC T.ps nr rm) 88 (0,0)),(nr,Obj.map x.1 x.2)] ++ (spO rm 121 o T.fr ++ []))) w1 := hp.sub (.cons _ (.cons _ (.cons _ (.cons _ slr))))
        rw [List.append_nil] at h9
        exact ⟨(o,x),⟨ho,hg,hm⟩,rfl,_,h9⟩
       ·have c6 : ((((smget T.W (plOf (rawAt b k)).nm).isSome = false) ∧ (¬ (((plOf (rawAt b k)).sz : Int) > (32768 : Int)))) ∧ ((((plOf (rawAt b k)).sz : Int) ≠ (0 : Int)) ∨ (((plOf (rawAt b k)).at_ : Int) = (0 : Int)))) := ⟨⟨(orF1 (orF1 c6r)),(dF (orF2 (orF1 c6r)))⟩,((andF (orF2 c6r)).elim (fun h => Or.inl (beq_eq_false_iff_ne.1 h)) (fun h => Or.inr (bne_eq_false_iff_eq.1 h)))⟩
        by_cases hsz0 : (plOf (rawAt b k)).sz = 0
        ·
         have hpo : PlOk (plOf (rawAt b k)) := plOf_ok (by have := c6.1.2; omega)
         refine Cfg.begA rfl kr [(pb,.cells ((plc (plOf (rawAt b k))).toArray) 85 (0,0)),(eb,.cells (inC (fourF (fourF (eW (rawAt b k))).2).2) 196 (0,0)),(ib,.cells (inC (zB b (k + 1))) 196 (0,0)),(bb,.cells (bv b) 37 (0,0)),(tb,.cells (tbC T.ps nr rm) 88 (0,0)),(nr,.map x.1 x.2)] ?_
         refine Ap [0,1,2,3,4] [dZ,dZ,dZ,(dS (pT rm)),(dS (.agg (plc (plOf (rawAt b k))).toArray))] (some [0,1,5,7,8,13,19,84,85]) (tF 5 3) (.cons_cons _ (.cons_cons _ (.cons_cons _ (.cons_cons _ (.cons_cons _ (.cons_cons _ (List.nil_sublist _))))))) 3 (fun S => [(cE S tb 433 (pT rm)),(∀ w1,S w1 → (loadVar 85 ⟨pb,0,none⟩).run Tryz.prog w1 = .ok (.agg (plc (plOf (rawAt b k))).toArray) w1)]) ⟨(fun w1 h => h.ocell 4 rfl (tb_room ho.l)),(fun w1 h => load_list (vs := plc (plOf (rawAt b k))) Tryz.underlying85 rfl kr (plc_len _) (fun q9 v hq9 => h.ocell 0 rfl (by rw [List.getElem?_toArray,Nat.zero_add]; exact hq9))),trivial⟩ ?_
         refine Ae 5 rfl 2  (Eff.callA (vs := [.agg (plc (plOf (rawAt b k))).toArray]) (.slice none 0 0) rfl Tryz.func44 rfl rfl kr (fun w1 _ => fRun0 (plOf (rawAt b k)) w1 hsz0)) (fun _ _ => (.cons_cons _ (.cons_cons _ (.cons_cons _ (.cons_cons _ (.cons_cons _ (.cons_cons _ (List.nil_sublist _)))))))) ?_
         rintro ⟨⟩ -
         refine Ae 6 rfl 1  (Eff.callH (vs := [pT rm,.slice none 0 0]) (fun _ : K.Own => .int .i64 ((turnF 121 T.fr.length false (runF (plOf (rawAt b k))) T.fr).1 : Int)) (spO rm 121 o T.fr) (fun o => spO rm 121 o (turnR 121 false (runF (plOf (rawAt b k))) T.fr)) (fun o => Good o (turnR 121 false (runF (plOf (rawAt b k))) T.fr)) [(pb,.cells ((plc (plOf (rawAt b k))).toArray) 85 (0,0)),(eb,.cells (inC (fourF (fourF (eW (rawAt b k))).2).2) 196 (0,0)),(ib,.cells (inC (zB b (k + 1))) 196 (0,0)),(bb,.cells (bv b) 37 (0,0)),(tb,.cells (tbC T.ps nr rm) 88 (0,0)),(nr,.map x.1 x.2)] [] rfl rfl Tryz.func71 rfl rfl kr (fun w1 h hA1 hd1 => claimP0 hsz0 rm o T.fr w1 ho.f hg hA1 hd1)) (fun _ _ => (.cons_cons _ (.cons_cons _ (.cons_cons _ (.cons_cons _ (.cons_cons _ (.cons_cons _ (List.nil_sublist _)))))))) ?_
         rintro o2 hg2
         have hfl2 : (turnR 121 false (runF (plOf (rawAt b k))) T.fr).length = T.fr.length := turnR_len _ _ _ _
         refine Ap [7] [] (some [0,1,5,7,8,13,19,88]) (tF 8 0) (.cons_cons _ (.cons_cons _ (.cons_cons _ (.cons_cons _ (.cons_cons _ (.cons_cons _ (List.nil_sublist _))))))) 0 n0 trivial ?_
         refine CfgA.done kr ?_
         refine Cfg.cond rfl (b := (((turnF 121 T.fr.length false (runF (plOf (rawAt b k))) T.fr).1 : Int) != (0 : Int))) kr (fun c7r => ?_) (fun c7r => ?_)
         ·have c7 := (bne_iff_ne.1 c7r)
          refine Rg [6] [] n0 trivial ?_
          refine Cfg.ret rfl (rs := [.tmp 6]) rfl [.bool false] ⟨kr,trivial⟩ (fun w1 hp => ?_)
          have hfin : entL b n 6 T0 = (false,T) := hra.symm.trans (entL_stop om (ent_room c2 (badN_f c3q c5) (badP_f c6) om))
          rw [hfin]
          have h9 : HP w ((tabO tb nr rm T0 o0 x0).map (·.1)) _ (([(tb,Obj.cells (tbC T.ps nr rm) 88 (0,0)),(nr,Obj.map x.1 x.2)] ++ (spO rm 121 o2 (turnR 121 false (runF (plOf (rawAt b k))) T.fr) ++ []))) w1 := hp.sub (.cons _ (.cons _ (.cons _ (.cons _ slr))))
          have e9 := turnR_bad (f := 121) false (l := runF (plOf (rawAt b k))) (fr := T.fr) om
          rw [e9] at hg2 h9
          rw [List.append_nil] at h9
          exact ⟨(o2,x),⟨ho,hg2,hm⟩,rfl,_,h9⟩
         ·have c7 := (bne_eq_false_iff_eq.1 c7r)
          refine Cfg.begA rfl kr ([(pb,.cells ((plc (plOf (rawAt b k))).toArray) 85 (0,0)),(eb,.cells (inC (fourF (fourF (eW (rawAt b k))).2).2) 196 (0,0)),(ib,.cells (inC (zB b (k + 1))) 196 (0,0)),(bb,.cells (bv b) 37 (0,0)),(nr,.map x.1 x.2)] ++ (spO rm 121 o2 (turnR 121 false (runF (plOf (rawAt b k))) T.fr) ++ [])) ?_
          refine CfgA.pure (List.range 9) [dZ,dZ,dZ,dZ,dZ,(dS (.agg (plc (plOf (rawAt b k))).toArray))] (some [0,1,5,7,8,13,19,94,97]) (l' := tF 9 1) kr kr (.cons_cons _ (.cons_cons _ (.cons_cons _ (.cons_cons _ (.cons _ slr))))) 1 rfl (Γ' := [(97,[],.pointer (some ⟨tb,(((n * 6) + k) * 3),none⟩)),(94,[],.agg (plc (plOf (rawAt b k))).toArray),(13,[],pT pb),(8,[],.int .i64 (k : Int)),(19,[],.int .i64 (k : Int)),(7,[],pT ib),(5,[],pT bb),(0,[],pT tb),(1,[],.int .i64 (n : Int))]) (nd := (fun S => [(i6 ((n : Int) * 6)),(i6 (((n : Int) * 6) + (k : Int))),(∀ w1,S w1 → (loadVar 85 ⟨pb,0,none⟩).run Tryz.prog w1 = .ok (.agg (plc (plOf (rawAt b k))).toArray) w1),(iL (((n : Int) * 6) + (k : Int)) 144)])) (fun _ => kr) ⟨om,om,(fun w1 h => load_list (vs := plc (plOf (rawAt b k))) Tryz.underlying85 rfl kr (plc_len _) (fun q9 v hq9 => h.ocell 0 rfl (by rw [List.getElem?_toArray,Nat.zero_add]; exact hq9))),om,trivial⟩ ?_
          refine Ae 9 rfl 0  (Eff.storeN (b := tb) (off := (((n * 6) + k) * 3)) (vs := (plc (plOf (rawAt b k))).toArray) (n := 3) rfl kr kr kr rfl (all_plc _) 4 (cs := (tbC T.ps nr rm)) (e := 88) kr (by have := ho.l; unfold tbC; rw [List.size_toArray,List.length_append,plf_len]; simp only [List.length_cons,List.length_nil]; omega)) (fun _ _ => (.cons_cons _ (.cons_cons _ (.cons_cons _ (.cons_cons _ (.cons _ slr)))))) ?_
          rintro ⟨⟩ -
          refine CfgA.setO (congrArg (fun (xq : Array Value) => (([(pb,.cells ((plc (plOf (rawAt b k))).toArray) 85 (0,0)),(eb,.cells (inC (fourF (fourF (eW (rawAt b k))).2).2) 196 (0,0)),(ib,.cells (inC (zB b (k + 1))) 196 (0,0)),(bb,.cells (bv b) 37 (0,0)),(tb,.cells xq 88 (0,0)),(nr,.map x.1 x.2)] ++ (spO rm 121 o2 (turnR 121 false (runF (plOf (rawAt b k))) T.fr) ++ [])) : LO)) (show _ = (spl (tbC T.ps nr rm) (((n * 6) + k) * 3) (plc (plOf (rawAt b k))).toArray.toList) from rfl)) ?_
          refine CfgA.done kr ?_
          refine Cg (Γ' := [(13,[],pT pb),(8,[],.int .i64 (k : Int)),(19,[],.int .i64 (k : Int)),(7,[],pT ib),(5,[],pT bb),(0,[],pT tb),(1,[],.int .i64 (n : Int))]) ?_
          obtain ⟨T2,hT2⟩ : ∃ T2 : Tb,T2 = ⟨T.ps.set (6 * n + k) (plOf (rawAt b k)),smset T.W (plOf (rawAt b k)).nm (.int .i64 ((6 * n + k : Nat) : Int)),turnR 121 false (runF (plOf (rawAt b k))) T.fr⟩ := ⟨_,rfl⟩
          have hok2 : TbOk T2 := by rw [hT2]; exact tb_in ho hpo om hfl2
          refine Cfg.setO (congrArg (fun (xq : Array Value) => (([(pb,.cells ((plc (plOf (rawAt b k))).toArray) 85 (0,0)),(eb,.cells (inC (fourF (fourF (eW (rawAt b k))).2).2) 196 (0,0)),(ib,.cells (inC (zB b (k + 1))) 196 (0,0)),(bb,.cells (bv b) 37 (0,0)),(tb,.cells xq 88 (0,0)),(nr,.map x.1 x.2)] ++ (spO rm 121 o2 (turnR 121 false (runF (plOf (rawAt b k))) T.fr) ++ [])) : LO)) (show _ = (tbC T2.ps nr rm) from by rw [hT2]; exact tb_set2 (by have := ho.l; omega) om)) ?_
          refine Cfg.begA rfl kr ([(pb,.cells ((plc (plOf (rawAt b k))).toArray) 85 (0,0)),(eb,.cells (inC (fourF (fourF (eW (rawAt b k))).2).2) 196 (0,0)),(ib,.cells (inC (zB b (k + 1))) 196 (0,0)),(bb,.cells (bv b) 37 (0,0)),(tb,.cells (tbC T2.ps nr rm) 88 (0,0))] ++ (spO rm 121 o2 (turnR 121 false (runF (plOf (rawAt b k))) T.fr) ++ [])) ?_
          refine Ap (List.range 10) [dZ,dZ,dZ,(dS (.map (some nr))),dZ,(dS (.string (plOf (rawAt b k)).nm))] (some [0,1,5,7,19,101,103,107]) (tF 10 1) (.cons_cons _ (.cons_cons _ (.cons_cons _ (.cons_cons _ (.cons_cons _ (.cons _ slr)))))) 1 (fun S => [(cE S tb 432 (.map (some nr))),(cE S pb 0 (.string (plOf (rawAt b k)).nm)),(i6 ((n : Int) * 6)),(i6 (((n : Int) * 6) + (k : Int)))]) ⟨(fun w1 h => h.ocell 4 rfl (tb_names hok2.l)),(oC 0 rfl rfl),om,om,trivial⟩ ?_
          refine Ae 10 rfl 0  (Eff.sSet (r := nr) (k := (plOf (rawAt b k)).nm) (u := .int .i64 ((n * 6 + k : Nat) : Int)) (es := x.1) (ck := x.2) rfl Tryz.underlying81 Tryz.underlying9 kr kr kr hm 5 kr) (fun _ _ => (.cons_cons _ (.cons_cons _ (.cons_cons _ (.cons_cons _ (.cons_cons _ (.cons _ slr))))))) ?_
          rintro x2 hx2
          refine CfgA.done kr ?_
          refine Cg (Γ' := [(19,[],.int .i64 (k : Int)),(7,[],pT ib),(5,[],pT bb),(0,[],pT tb),(1,[],.int .i64 (n : Int))]) ?_
          refine Rg [0,1,5,7,19] [] (fun _ => [(i6 ((k : Int) + 1))]) ⟨om,trivial⟩ ?_
          have hent : entP (6 * n + k) (rawAt b k) T = some T2 := by rw [hT2]; exact ent_ok c2 (badN_f c3q c5) (badP_f c6) om
          refine Cfg.setO (congrArg (fun (xq : List Bool) => (([(pb,.cells ((plc (plOf (rawAt b k))).toArray) 85 (0,0)),(eb,.cells (inC (fourF (fourF (eW (rawAt b k))).2).2) 196 (0,0)),(ib,.cells (inC (zB b (k + 1))) 196 (0,0)),(bb,.cells (bv b) 37 (0,0)),(tb,.cells (tbC T2.ps nr rm) 88 (0,0)),(nr,.map x2.1 x2.2)] ++ (spO rm 121 o2 xq ++ [])) : LO)) (show _ = T2.fr from by rw [hT2])) ?_
          refine Cfg.again rfl (k + 1,T2,o2,x2) ⟨by omega,(entL_step om hent).symm.trans hra,hok2,by rw [hT2]; exact hg2,by rw [hT2]; have h8 := hx2; rw [Nat.mul_comm n 6] at h8; exact h8⟩ (by show 6 - (k + 1) < 6 - k; omega) (Conv.mk kr) (.cons _ (.cons _ slr))
        ·
         have hpo : PlOk (plOf (rawAt b k)) := plOf_ok (by have := c6.1.2; omega)
         refine Cfg.begA rfl kr [(pb,.cells ((plc (plOf (rawAt b k))).toArray) 85 (0,0)),(eb,.cells (inC (fourF (fourF (eW (rawAt b k))).2).2) 196 (0,0)),(ib,.cells (inC (zB b (k + 1))) 196 (0,0)),(bb,.cells (bv b) 37 (0,0)),(tb,.cells (tbC T.ps nr rm) 88 (0,0)),(nr,.map x.1 x.2)] ?_
         refine Ap [0,1,2,3,4] [dZ,dZ,dZ,(dS (pT rm)),(dS (.agg (plc (plOf (rawAt b k))).toArray))] (some [0,1,5,7,8,13,19,84,85]) (tF 5 3) (.cons_cons _ (.cons_cons _ (.cons_cons _ (.cons_cons _ (.cons_cons _ (.cons_cons _ (List.nil_sublist _))))))) 3 (fun S => [(cE S tb 433 (pT rm)),(∀ w1,S w1 → (loadVar 85 ⟨pb,0,none⟩).run Tryz.prog w1 = .ok (.agg (plc (plOf (rawAt b k))).toArray) w1)]) ⟨(fun w1 h => h.ocell 4 rfl (tb_room ho.l)),(fun w1 h => load_list (vs := plc (plOf (rawAt b k))) Tryz.underlying85 rfl kr (plc_len _) (fun q9 v hq9 => h.ocell 0 rfl (by rw [List.getElem?_toArray,Nat.zero_add]; exact hq9))),trivial⟩ ?_
         refine Ae 5 rfl 2  (Eff.callN (vs := [.agg (plc (plOf (rawAt b k))).toArray]) (fun rb : Nat => .slice (some ⟨rb,0,none⟩) 1 1) (fun rb => rb) (fun _ => .cells #[.int .i64 ((plOf (rawAt b k)).at_ : Int),.int .i64 (secs (plOf (rawAt b k)).sz : Int)] 117 (0,0)) (fun _ => True) rfl Tryz.func44 rfl rfl kr (fun w1 _ => fRun1 (plOf (rawAt b k)) w1 om hpo)) (fun _ _ => (.cons _ (.cons_cons _ (.cons_cons _ (.cons_cons _ (.cons_cons _ (.cons_cons _ (.cons_cons _ (List.nil_sublist _))))))))) ?_
         rintro rb ⟨-,hrb,nrb⟩
         refine Ae 6 rfl 1  (Eff.callH (vs := [pT rm,.slice (some ⟨rb,0,none⟩) 1 1]) (fun _ : K.Own => .int .i64 ((turnF 121 T.fr.length false (runF (plOf (rawAt b k))) T.fr).1 : Int)) (spO rm 121 o T.fr) (fun o => spO rm 121 o (turnR 121 false (runF (plOf (rawAt b k))) T.fr)) (fun o => Good o (turnR 121 false (runF (plOf (rawAt b k))) T.fr)) [(rb,.cells #[.int .i64 ((plOf (rawAt b k)).at_ : Int),.int .i64 (secs (plOf (rawAt b k)).sz : Int)] 117 (0,0)),(pb,.cells ((plc (plOf (rawAt b k))).toArray) 85 (0,0)),(eb,.cells (inC (fourF (fourF (eW (rawAt b k))).2).2) 196 (0,0)),(ib,.cells (inC (zB b (k + 1))) 196 (0,0)),(bb,.cells (bv b) 37 (0,0)),(tb,.cells (tbC T.ps nr rm) 88 (0,0)),(nr,.map x.1 x.2)] [] rfl rfl Tryz.func71 rfl rfl kr (fun w1 h hA1 hd1 => claimP1 om hpo rb rm o T.fr w1 ho.f hg hA1 hd1 (fun e he => by rw [List.mem_singleton.1 he]; exact (h.own (rb,Obj.cells #[.int .i64 ((plOf (rawAt b k)).at_ : Int),.int .i64 (secs (plOf (rawAt b k)).sz : Int)] 117 (0,0)) (show (rb,Obj.cells #[.int .i64 ((plOf (rawAt b k)).at_ : Int),.int .i64 (secs (plOf (rawAt b k)).sz : Int)] 117 (0,0)) ∈ ([(rb,Obj.cells #[.int .i64 ((plOf (rawAt b k)).at_ : Int),.int .i64 (secs (plOf (rawAt b k)).sz : Int)] 117 (0,0)),(pb,Obj.cells ((plc (plOf (rawAt b k))).toArray) 85 (0,0)),(eb,Obj.cells (inC (fourF (fourF (eW (rawAt b k))).2).2) 196 (0,0)),(ib,Obj.cells (inC (zB b (k + 1))) 196 (0,0)),(bb,Obj.cells (bv b) 37 (0,0)),(tb,Obj.cells (tbC T.ps nr rm) 88 (0,0)),(nr,Obj.map x.1 x.2)] ++ (spO rm 121 o T.fr ++ [])) from (mL (mG 0 rfl))))) (HP.sep (Fl := [(rb,.cells #[.int .i64 ((plOf (rawAt b k)).at_ : Int),.int .i64 (secs (plOf (rawAt b k)).sz : Int)] 117 (0,0)),(pb,.cells ((plc (plOf (rawAt b k))).toArray) 85 (0,0)),(eb,.cells (inC (fourF (fourF (eW (rawAt b k))).2).2) 196 (0,0)),(ib,.cells (inC (zB b (k + 1))) 196 (0,0)),(bb,.cells (bv b) 37 (0,0)),(tb,.cells (tbC T.ps nr rm) 88 (0,0)),(nr,.map x.1 x.2)]) (Al := spO rm 121 o T.fr) (T := []) h (mG 0 rfl)))) (fun _ _ => (.cons _ (.cons_cons _ (.cons_cons _ (.cons_cons _ (.cons_cons _ (.cons_cons _ (.cons_cons _ (List.nil_sublist _))))))))) ?_
         rintro o2 hg2
         have hfl2 : (turnR 121 false (runF (plOf (rawAt b k))) T.fr).length = T.fr.length := turnR_len _ _ _ _
         refine Ap [7] [] (some [0,1,5,7,8,13,19,88]) (tF 8 0) (.cons _ (.cons_cons _ (.cons_cons _ (.cons_cons _ (.cons_cons _ (.cons_cons _ (.cons_cons _ (List.nil_sublist _)))))))) 0 n0 trivial ?_
         refine CfgA.done kr ?_
         refine Cfg.cond rfl (b := (((turnF 121 T.fr.length false (runF (plOf (rawAt b k))) T.fr).1 : Int) != (0 : Int))) kr (fun c8r => ?_) (fun c8r => ?_)
         ·have c8 := (bne_iff_ne.1 c8r)
          refine Rg [6] [] n0 trivial ?_
          refine Cfg.ret rfl (rs := [.tmp 6]) rfl [.bool false] ⟨kr,trivial⟩ (fun w1 hp => ?_)
          have hfin : entL b n 6 T0 = (false,T) := hra.symm.trans (entL_stop om (ent_room c2 (badN_f c3q c5) (badP_f c6) om))
          rw [hfin]
          have h9 : HP w ((tabO tb nr rm T0 o0 x0).map (·.1)) _ (([(tb,Obj.cells (tbC T.ps nr rm) 88 (0,0)),(nr,Obj.map x.1 x.2)] ++ (spO rm 121 o2 (turnR 121 false (runF (plOf (rawAt b k))) T.fr) ++ []))) w1 := hp.sub (.cons _ (.cons _ (.cons _ (.cons _ (.cons _ slr)))))
          have e9 := turnR_bad (f := 121) false (l := runF (plOf (rawAt b k))) (fr := T.fr) om
          rw [e9] at hg2 h9
          rw [List.append_nil] at h9
          exact ⟨(o2,x),⟨ho,hg2,hm⟩,rfl,_,h9⟩
         ·have c8 := (bne_eq_false_iff_eq.1 c8r)
          refine Cfg.begA rfl kr ([(rb,.cells #[.int .i64 ((plOf (rawAt b k)).at_ : Int),.int .i64 (secs (plOf (rawAt b k)).sz : Int)] 117 (0,0)),(pb,.cells ((plc (plOf (rawAt b k))).toArray) 85 (0,0)),(eb,.cells (inC (fourF (fourF (eW (rawAt b k))).2).2) 196 (0,0)),(ib,.cells (inC (zB b (k + 1))) 196 (0,0)),(bb,.cells (bv b) 37 (0,0)),(nr,.map x.1 x.2)] ++ (spO rm 121 o2 (turnR 121 false (runF (plOf (rawAt b k))) T.fr) ++ [])) ?_
          refine Ap (List.range 9) [dZ,dZ,dZ,dZ,dZ,(dS (.agg (plc (plOf (rawAt b k))).toArray))] (some [0,1,5,7,8,13,19,94,97]) (tF 9 1) (.cons_cons _ (.cons_cons _ (.cons_cons _ (.cons_cons _ (.cons_cons _ (.cons _ slr)))))) 1 (fun S => [(i6 ((n : Int) * 6)),(i6 (((n : Int) * 6) + (k : Int))),(∀ w1,S w1 → (loadVar 85 ⟨pb,0,none⟩).run Tryz.prog w1 = .ok (.agg (plc (plOf (rawAt b k))).toArray) w1),(iL (((n : Int) * 6) + (k : Int)) 144)]) ⟨om,om,(fun w1 h => load_list (vs := plc (plOf (rawAt b k))) Tryz.underlying85 rfl kr (plc_len _) (fun q9 v hq9 => h.ocell 1 rfl (by rw [List.getElem?_toArray,Nat.zero_add]; exact hq9))),om,trivial⟩ ?_
          refine Ae 9 rfl 0  (Eff.storeN (b := tb) (off := (((n * 6) + k) * 3)) (vs := (plc (plOf (rawAt b k))).toArray) (n := 3) rfl kr kr kr rfl (all_plc _) 5 (cs := (tbC T.ps nr rm)) (e := 88) kr (by have := ho.l; unfold tbC; rw [List.size_toArray,List.length_append,plf_len]; simp only [List.length_cons,List.length_nil]; omega)) (fun _ _ => (.cons_cons _ (.cons_cons _ (.cons_cons _ (.cons_cons _ (.cons_cons _ (.cons _ slr))))))) ?_
          rintro ⟨⟩ -
          refine CfgA.setO (congrArg (fun (xq : Array Value) => (([(rb,.cells #[.int .i64 ((plOf (rawAt b k)).at_ : Int),.int .i64 (secs (plOf (rawAt b k)).sz : Int)] 117 (0,0)),(pb,.cells ((plc (plOf (rawAt b k))).toArray) 85 (0,0)),(eb,.cells (inC (fourF (fourF (eW (rawAt b k))).2).2) 196 (0,0)),(ib,.cells (inC (zB b (k + 1))) 196 (0,0)),(bb,.cells (bv b) 37 (0,0)),(tb,.cells xq 88 (0,0)),(nr,.map x.1 x.2)] ++ (spO rm 121 o2 (turnR 121 false (runF (plOf (rawAt b k))) T.fr) ++ [])) : LO)) (show _ = (spl (tbC T.ps nr rm) (((n * 6) + k) * 3) (plc (plOf (rawAt b k))).toArray.toList) from rfl)) ?_
          refine CfgA.done kr ?_
          refine Cg (Γ' := [(13,[],pT pb),(8,[],.int .i64 (k : Int)),(19,[],.int .i64 (k : Int)),(7,[],pT ib),(5,[],pT bb),(0,[],pT tb),(1,[],.int .i64 (n : Int))]) ?_
          obtain ⟨T2,hT2⟩ : ∃ T2 : Tb,T2 = ⟨T.ps.set (6 * n + k) (plOf (rawAt b k)),smset T.W (plOf (rawAt b k)).nm (.int .i64 ((6 * n + k : Nat) : Int)),turnR 121 false (runF (plOf (rawAt b k))) T.fr⟩ := ⟨_,rfl⟩
          have hok2 : TbOk T2 := by rw [hT2]; exact tb_in ho hpo om hfl2
          refine Cfg.setO (congrArg (fun (xq : Array Value) => (([(rb,.cells #[.int .i64 ((plOf (rawAt b k)).at_ : Int),.int .i64 (secs (plOf (rawAt b k)).sz : Int)] 117 (0,0)),(pb,.cells ((plc (plOf (rawAt b k))).toArray) 85 (0,0)),(eb,.cells (inC (fourF (fourF (eW (rawAt b k))).2).2) 196 (0,0)),(ib,.cells (inC (zB b (k + 1))) 196 (0,0)),(bb,.cells (bv b) 37 (0,0)),(tb,.cells xq 88 (0,0)),(nr,.map x.1 x.2)] ++ (spO rm 121 o2 (turnR 121 false (runF (plOf (rawAt b k))) T.fr) ++ [])) : LO)) (show _ = (tbC T2.ps nr rm) from by rw [hT2]; exact tb_set2 (by have := ho.l; omega) om)) ?_
          refine Cfg.begA rfl kr ([(rb,.cells #[.int .i64 ((plOf (rawAt b k)).at_ : Int),.int .i64 (secs (plOf (rawAt b k)).sz : Int)] 117 (0,0)),(pb,.cells ((plc (plOf (rawAt b k))).toArray) 85 (0,0)),(eb,.cells (inC (fourF (fourF (eW (rawAt b k))).2).2) 196 (0,0)),(ib,.cells (inC (zB b (k + 1))) 196 (0,0)),(bb,.cells (bv b) 37 (0,0)),(tb,.cells (tbC T2.ps nr rm) 88 (0,0))] ++ (spO rm 121 o2 (turnR 121 false (runF (plOf (rawAt b k))) T.fr) ++ [])) ?_
          refine Ap (List.range 10) [dZ,dZ,dZ,(dS (.map (some nr))),dZ,(dS (.string (plOf (rawAt b k)).nm))] (some [0,1,5,7,19,101,103,107]) (tF 10 1) (.cons_cons _ (.cons_cons _ (.cons_cons _ (.cons_cons _ (.cons_cons _ (.cons_cons _ (.cons _ slr))))))) 1 (fun S => [(cE S tb 432 (.map (some nr))),(cE S pb 0 (.string (plOf (rawAt b k)).nm)),(i6 ((n : Int) * 6)),(i6 (((n : Int) * 6) + (k : Int)))]) ⟨(fun w1 h => h.ocell 5 rfl (tb_names hok2.l)),(oC 1 rfl rfl),om,om,trivial⟩ ?_
          refine Ae 10 rfl 0  (Eff.sSet (r := nr) (k := (plOf (rawAt b k)).nm) (u := .int .i64 ((n * 6 + k : Nat) : Int)) (es := x.1) (ck := x.2) rfl Tryz.underlying81 Tryz.underlying9 kr kr kr hm 6 kr) (fun _ _ => (.cons_cons _ (.cons_cons _ (.cons_cons _ (.cons_cons _ (.cons_cons _ (.cons_cons _ (.cons _ slr)))))))) ?_
          rintro x2 hx2
          refine CfgA.done kr ?_
          refine Cg (Γ' := [(19,[],.int .i64 (k : Int)),(7,[],pT ib),(5,[],pT bb),(0,[],pT tb),(1,[],.int .i64 (n : Int))]) ?_
          refine Rg [0,1,5,7,19] [] (fun _ => [(i6 ((k : Int) + 1))]) ⟨om,trivial⟩ ?_
          have hent : entP (6 * n + k) (rawAt b k) T = some T2 := by rw [hT2]; exact ent_ok c2 (badN_f c3q c5) (badP_f c6) om
          refine Cfg.setO (congrArg (fun (xq : List Bool) => (([(rb,.cells #[.int .i64 ((plOf (rawAt b k)).at_ : Int),.int .i64 (secs (plOf (rawAt b k)).sz : Int)] 117 (0,0)),(pb,.cells ((plc (plOf (rawAt b k))).toArray) 85 (0,0)),(eb,.cells (inC (fourF (fourF (eW (rawAt b k))).2).2) 196 (0,0)),(ib,.cells (inC (zB b (k + 1))) 196 (0,0)),(bb,.cells (bv b) 37 (0,0)),(tb,.cells (tbC T2.ps nr rm) 88 (0,0)),(nr,.map x2.1 x2.2)] ++ (spO rm 121 o2 xq ++ [])) : LO)) (show _ = T2.fr from by rw [hT2])) ?_
          refine Cfg.again rfl (k + 1,T2,o2,x2) ⟨by omega,(entL_step om hent).symm.trans hra,hok2,by rw [hT2]; exact hg2,by rw [hT2]; have h8 := hx2; rw [Nat.mul_comm n 6] at h8; exact h8⟩ (by show 6 - (k + 1) < 6 - k; omega) (Conv.mk kr) (.cons _ (.cons _ (.cons _ slr)))
      ·intro hj
       refine CfgA.pure [0,1,2,3,6] [] (some [0,1,5,7,8,19,47,48,51]) (l' := (bF 79 12)) kr kr (.cons _ slr) 7 rfl (Γ' := [(51,[],pT eb),(48,[],pT eb),(47,[],.string ((tx (eN (rawAt b k))).extract 0 (((eL (rawAt b k)))))),(8,[],.int .i64 (k : Int)),(19,[],.int .i64 (k : Int)),(7,[],pT ib),(5,[],pT bb),(0,[],pT tb),(1,[],.int .i64 (n : Int))]) (nd := (fun _ => [(0 ≤ ((eL (rawAt b k)) : Int)),(0 ≤ ((eL (rawAt b k))) ∧ ((eL (rawAt b k))) ≤ (tx (eN (rawAt b k))).size)])) (fun _ => kr) ⟨om,om,trivial⟩ ?_
       refine CfgA.two 4 10 kr (fuel' := 6) rfl ?_ ?_
       ·
        refine Ie rfl  (Eff.callM (vs := [pT eb]) (.int .u32 ((fourF (eW (rawAt b k))).1 : Int)) 0 (b := eb) (ob := .cells (inC (eW (rawAt b k))) 196 (0,0)) (.cells (inC (fourF (eW (rawAt b k))).2) 196 (0,0)) rfl Tryz.func70 rfl rfl kr kr (fun w1 h => wTFour eb (eW (rawAt b k)) w1 (h.own (eb,Obj.cells (inC (eW (rawAt b k))) 196 (0,0)) (show (eb,Obj.cells (inC (eW (rawAt b k))) 196 (0,0)) ∈ ([(eb,Obj.cells (inC (eW (rawAt b k))) 196 (0,0)),(ib,Obj.cells (inC (zB b (k + 1))) 196 (0,0)),(bb,Obj.cells (bv b) 37 (0,0)),(tb,Obj.cells (tbC T.ps nr rm) 88 (0,0)),(nr,Obj.map x.1 x.2)] ++ (spO rm 121 o T.fr ++ [])) from (mL (mG 0 rfl)))))) (fun _ _ => (.cons _ slr)) ?_
        rintro ⟨⟩ -
        refine Ap [5] [] (some [0,1,5,7,8,19,47,50,51]) (tF 7 5) (.cons _ slr) 5 (fun _ => [(i6 ((fourF (eW (rawAt b k))).1 : Int))]) ⟨om,trivial⟩ ?_
        refine CfgA.two 7 10 kr (fuel' := 4) rfl ?_ ?_
        ·
         refine Ie rfl  (Eff.callM (vs := [pT eb]) (.int .u32 ((fourF (fourF (eW (rawAt b k))).2).1 : Int)) 0 (b := eb) (ob := .cells (inC (fourF (eW (rawAt b k))).2) 196 (0,0)) (.cells (inC (fourF (fourF (eW (rawAt b k))).2).2) 196 (0,0)) rfl Tryz.func70 rfl rfl kr kr (fun w1 h => wTFour eb (fourF (eW (rawAt b k))).2 w1 (h.own (eb,Obj.cells (inC (fourF (eW (rawAt b k))).2) 196 (0,0)) (show (eb,Obj.cells (inC (fourF (eW (rawAt b k))).2) 196 (0,0)) ∈ ([(eb,Obj.cells (inC (fourF (eW (rawAt b k))).2) 196 (0,0)),(ib,Obj.cells (inC (zB b (k + 1))) 196 (0,0)),(bb,Obj.cells (bv b) 37 (0,0)),(tb,Obj.cells (tbC T.ps nr rm) 88 (0,0)),(nr,Obj.map x.1 x.2)] ++ (spO rm 121 o T.fr ++ [])) from (mL (mG 0 rfl)))))) (fun _ _ => (.cons _ slr)) ?_
         rintro ⟨⟩ -
         refine Ap [8,9] [dZ,(dS (.agg (plc (plOf (rawAt b k))).toArray))] (some [0,1,5,7,8,19,54]) (tF 10 2) (.cons _ slr) 2 (fun S => [(i6 ((fourF (fourF (eW (rawAt b k))).2).1 : Int)),(∀ w1,S w1 → (Instr.build 85 #[(0,.string ((tx (eN (rawAt b k))).extract 0 (((eL (rawAt b k)))))),(1,.int .i64 ((fourF (eW (rawAt b k))).1 : Int)),(2,.int .i64 ((fourF (fourF (eW (rawAt b k))).2).1 : Int))]).run Tryz.prog w1 = .ok (.agg (plc (plOf (rawAt b k))).toArray) w1)]) ⟨om,(fun w1 _ => by rw [tx_take]; kernel_rfl),trivial⟩ ?_
         refine Ae 10 rfl 1  (Eff.alloc (z := (.agg (plc plz).toArray)) rfl kr) (fun _ _ => (.cons _ (.cons _ slr))) ?_
         rintro pb ⟨hpb,npb⟩
         refine Ae 11 rfl 0  (Eff.storeN (b := pb) (off := 0) (vs := (plc (plOf (rawAt b k))).toArray) (n := 3) rfl kr kr kr rfl (all_plc _) 0 (cs := (plc plz).toArray) (e := 85) kr (Nat.le_refl 3)) (fun _ _ => (.cons _ (.cons _ slr))) ?_
         rintro ⟨⟩ -
         refine CfgA.setO (congrArg (fun (xq : Array Value) => (([(pb,.cells xq 85 (0,0)),(eb,.cells (inC (fourF (fourF (eW (rawAt b k))).2).2) 196 (0,0)),(ib,.cells (inC (zB b (k + 1))) 196 (0,0)),(bb,.cells (bv b) 37 (0,0)),(tb,.cells (tbC T.ps nr rm) 88 (0,0)),(nr,.map x.1 x.2)] ++ (spO rm 121 o T.fr ++ [])) : LO)) (show _ = ((plc (plOf (rawAt b k))).toArray) from (show spl (plc plz).toArray 0 (plc (plOf (rawAt b k))).toArray.toList = (plc (plOf (rawAt b k))).toArray from spl_all rfl))) ?_
         refine CfgA.done kr ?_
         refine Cg (Γ' := [(13,[],pT pb),(8,[],.int .i64 (k : Int)),(19,[],.int .i64 (k : Int)),(7,[],pT ib),(5,[],pT bb),(0,[],pT tb),(1,[],.int .i64 (n : Int))]) ?_
         refine Cg (Γ' := [(13,[],pT pb),(8,[],.int .i64 (k : Int)),(19,[],.int .i64 (k : Int)),(7,[],pT ib),(5,[],pT bb),(0,[],pT tb),(1,[],.int .i64 (n : Int))]) ?_
         exact hj pb
        ·
         refine Ie rfl  (Eff.alloc (z := (.agg (plc plz).toArray)) rfl kr) (fun _ _ => (.cons _ (.cons _ slr))) ?_
         rintro pb ⟨hpb,npb⟩
         refine Ae 7 rfl 3  (Eff.callM (vs := [pT eb]) (.int .u32 ((fourF (fourF (eW (rawAt b k))).2).1 : Int)) 1 (b := eb) (ob := .cells (inC (fourF (eW (rawAt b k))).2) 196 (0,0)) (.cells (inC (fourF (fourF (eW (rawAt b k))).2).2) 196 (0,0)) rfl Tryz.func70 rfl rfl kr kr (fun w1 h => wTFour eb (fourF (eW (rawAt b k))).2 w1 (h.own (eb,Obj.cells (inC (fourF (eW (rawAt b k))).2) 196 (0,0)) (show (eb,Obj.cells (inC (fourF (eW (rawAt b k))).2) 196 (0,0)) ∈ ([(pb,Obj.cells ((plc plz).toArray) 85 (0,0)),(eb,Obj.cells (inC (fourF (eW (rawAt b k))).2) 196 (0,0)),(ib,Obj.cells (inC (zB b (k + 1))) 196 (0,0)),(bb,Obj.cells (bv b) 37 (0,0)),(tb,Obj.cells (tbC T.ps nr rm) 88 (0,0)),(nr,Obj.map x.1 x.2)] ++ (spO rm 121 o T.fr ++ [])) from (mL (mG 1 rfl)))))) (fun _ _ => (.cons _ (.cons _ slr))) ?_
         rintro ⟨⟩ -
         refine Ap [8,9] [dZ,(dS (.agg (plc (plOf (rawAt b k))).toArray))] (some [0,1,5,7,8,13,19,54]) (tF 11 1) (.cons _ (.cons _ slr)) 1 (fun S => [(i6 ((fourF (fourF (eW (rawAt b k))).2).1 : Int)),(∀ w1,S w1 → (Instr.build 85 #[(0,.string ((tx (eN (rawAt b k))).extract 0 (((eL (rawAt b k)))))),(1,.int .i64 ((fourF (eW (rawAt b k))).1 : Int)),(2,.int .i64 ((fourF (fourF (eW (rawAt b k))).2).1 : Int))]).run Tryz.prog w1 = .ok (.agg (plc (plOf (rawAt b k))).toArray) w1)]) ⟨om,(fun w1 _ => by rw [tx_take]; kernel_rfl),trivial⟩ ?_
         refine Ae 11 rfl 0  (Eff.storeN (b := pb) (off := 0) (vs := (plc (plOf (rawAt b k))).toArray) (n := 3) rfl kr kr kr rfl (all_plc _) 0 (cs := (plc plz).toArray) (e := 85) kr (Nat.le_refl 3)) (fun _ _ => (.cons _ (.cons _ slr))) ?_
         rintro ⟨⟩ -
         refine CfgA.setO (congrArg (fun (xq : Array Value) => (([(pb,.cells xq 85 (0,0)),(eb,.cells (inC (fourF (fourF (eW (rawAt b k))).2).2) 196 (0,0)),(ib,.cells (inC (zB b (k + 1))) 196 (0,0)),(bb,.cells (bv b) 37 (0,0)),(tb,.cells (tbC T.ps nr rm) 88 (0,0)),(nr,.map x.1 x.2)] ++ (spO rm 121 o T.fr ++ [])) : LO)) (show _ = ((plc (plOf (rawAt b k))).toArray) from (show spl (plc plz).toArray 0 (plc (plOf (rawAt b k))).toArray.toList = (plc (plOf (rawAt b k))).toArray from spl_all rfl))) ?_
         refine CfgA.done kr ?_
         refine Cg (Γ' := [(13,[],pT pb),(8,[],.int .i64 (k : Int)),(19,[],.int .i64 (k : Int)),(7,[],pT ib),(5,[],pT bb),(0,[],pT tb),(1,[],.int .i64 (n : Int))]) ?_
         refine Cg (Γ' := [(13,[],pT pb),(8,[],.int .i64 (k : Int)),(19,[],.int .i64 (k : Int)),(7,[],pT ib),(5,[],pT bb),(0,[],pT tb),(1,[],.int .i64 (n : Int))]) ?_
         exact hj pb
       ·
        refine Ie rfl  (Eff.alloc (z := (.agg (plc plz).toArray)) rfl kr) (fun _ _ => (.cons _ (.cons _ slr))) ?_
        rintro pb ⟨hpb,npb⟩
        refine Ae 4 rfl 5  (Eff.callM (vs := [pT eb]) (.int .u32 ((fourF (eW (rawAt b k))).1 : Int)) 1 (b := eb) (ob := .cells (inC (eW (rawAt b k))) 196 (0,0)) (.cells (inC (fourF (eW (rawAt b k))).2) 196 (0,0)) rfl Tryz.func70 rfl rfl kr kr (fun w1 h => wTFour eb (eW (rawAt b k)) w1 (h.own (eb,Obj.cells (inC (eW (rawAt b k))) 196 (0,0)) (show (eb,Obj.cells (inC (eW (rawAt b k))) 196 (0,0)) ∈ ([(pb,Obj.cells ((plc plz).toArray) 85 (0,0)),(eb,Obj.cells (inC (eW (rawAt b k))) 196 (0,0)),(ib,Obj.cells (inC (zB b (k + 1))) 196 (0,0)),(bb,Obj.cells (bv b) 37 (0,0)),(tb,Obj.cells (tbC T.ps nr rm) 88 (0,0)),(nr,Obj.map x.1 x.2)] ++ (spO rm 121 o T.fr ++ [])) from (mL (mG 1 rfl)))))) (fun _ _ => (.cons _ (.cons _ slr))) ?_
        rintro ⟨⟩ -
        refine Ap [5] [] (some [0,1,5,7,8,13,19,47,50,51]) (bF 1151 12) (.cons _ (.cons _ slr)) 4 (fun _ => [(i6 ((fourF (eW (rawAt b k))).1 : Int))]) ⟨om,trivial⟩ ?_
        refine Ae 7 rfl 3  (Eff.callM (vs := [pT eb]) (.int .u32 ((fourF (fourF (eW (rawAt b k))).2).1 : Int)) 1 (b := eb) (ob := .cells (inC (fourF (eW (rawAt b k))).2) 196 (0,0)) (.cells (inC (fourF (fourF (eW (rawAt b k))).2).2) 196 (0,0)) rfl Tryz.func70 rfl rfl kr kr (fun w1 h => wTFour eb (fourF (eW (rawAt b k))).2 w1 (h.own (eb,Obj.cells (inC (fourF (eW (rawAt b k))).2) 196 (0,0)) (show (eb,Obj.cells (inC (fourF (eW (rawAt b k))).2) 196 (0,0)) ∈ ([(pb,Obj.cells ((plc plz).toArray) 85 (0,0)),(eb,Obj.cells (inC (fourF (eW (rawAt b k))).2) 196 (0,0)),(ib,Obj.cells (inC (zB b (k + 1))) 196 (0,0)),(bb,Obj.cells (bv b) 37 (0,0)),(tb,Obj.cells (tbC T.ps nr rm) 88 (0,0)),(nr,Obj.map x.1 x.2)] ++ (spO rm 121 o T.fr ++ [])) from (mL (mG 1 rfl)))))) (fun _ _ => (.cons _ (.cons _ slr))) ?_
        rintro ⟨⟩ -
        refine Ap [8,9] [dZ,(dS (.agg (plc (plOf (rawAt b k))).toArray))] (some [0,1,5,7,8,13,19,54]) (tF 11 1) (.cons _ (.cons _ slr)) 1 (fun S => [(i6 ((fourF (fourF (eW (rawAt b k))).2).1 : Int)),(∀ w1,S w1 → (Instr.build 85 #[(0,.string ((tx (eN (rawAt b k))).extract 0 (((eL (rawAt b k)))))),(1,.int .i64 ((fourF (eW (rawAt b k))).1 : Int)),(2,.int .i64 ((fourF (fourF (eW (rawAt b k))).2).1 : Int))]).run Tryz.prog w1 = .ok (.agg (plc (plOf (rawAt b k))).toArray) w1)]) ⟨om,(fun w1 _ => by rw [tx_take]; kernel_rfl),trivial⟩ ?_
        refine Ae 11 rfl 0  (Eff.storeN (b := pb) (off := 0) (vs := (plc (plOf (rawAt b k))).toArray) (n := 3) rfl kr kr kr rfl (all_plc _) 0 (cs := (plc plz).toArray) (e := 85) kr (Nat.le_refl 3)) (fun _ _ => (.cons _ (.cons _ slr))) ?_
        rintro ⟨⟩ -
        refine CfgA.setO (congrArg (fun (xq : Array Value) => (([(pb,.cells xq 85 (0,0)),(eb,.cells (inC (fourF (fourF (eW (rawAt b k))).2).2) 196 (0,0)),(ib,.cells (inC (zB b (k + 1))) 196 (0,0)),(bb,.cells (bv b) 37 (0,0)),(tb,.cells (tbC T.ps nr rm) 88 (0,0)),(nr,.map x.1 x.2)] ++ (spO rm 121 o T.fr ++ [])) : LO)) (show _ = ((plc (plOf (rawAt b k))).toArray) from (show spl (plc plz).toArray 0 (plc (plOf (rawAt b k))).toArray.toList = (plc (plOf (rawAt b k))).toArray from spl_all rfl))) ?_
        refine CfgA.done kr ?_
        refine Cg (Γ' := [(13,[],pT pb),(8,[],.int .i64 (k : Int)),(19,[],.int .i64 (k : Int)),(7,[],pT ib),(5,[],pT bb),(0,[],pT tb),(1,[],.int .i64 (n : Int))]) ?_
        refine Cg (Γ' := [(13,[],pT pb),(8,[],.int .i64 (k : Int)),(19,[],.int .i64 (k : Int)),(7,[],pT ib),(5,[],pT bb),(0,[],pT tb),(1,[],.int .i64 (n : Int))]) ?_
        exact hj pb
  ·have c1 := (dF c1r)
   refine Cfg.begA rfl kr ([(ib,.cells (inC (zB b k)) 196 (0,0)),(bb,.cells (bv b) 37 (0,0)),(tb,.cells (tbC T.ps nr rm) 88 (0,0)),(nr,.map x.1 x.2)] ++ (spO rm 121 o T.fr ++ [])) ?_
   refine Ap [0,1,3] [dZ,dZ,(dS (.agg (bv b)))] (some [109,110,112]) (bF 11 6) slr 3 (fun S => [(∀ w1,S w1 → (loadVar 37 ⟨bb,0,none⟩).run Tryz.prog w1 = .ok (.agg (bv b)) w1)]) ⟨(fun w1 h => h.oload 1 rfl Tryz.underlying37 rfl (n := 512) kr ((bv_size _).trans hb)),trivial⟩ ?_
   refine Ae 2 rfl 2  (Eff.callA (vs := [pT tb,.int .i64 (n : Int)]) (.agg (bv (sheetF T.ps n))) rfl Tryz.func72 rfl rfl kr (fun w1 h => fSheet tb nr rm T.ps n w1 (fun e he => by rw [List.mem_singleton.1 he]; exact (h.own (tb,Obj.cells (tbC T.ps nr rm) 88 (0,0)) (show (tb,Obj.cells (tbC T.ps nr rm) 88 (0,0)) ∈ ([(ib,Obj.cells (inC (zB b k)) 196 (0,0)),(bb,Obj.cells (bv b) 37 (0,0)),(tb,Obj.cells (tbC T.ps nr rm) 88 (0,0)),(nr,Obj.map x.1 x.2)] ++ (spO rm 121 o T.fr ++ [])) from (mL (mG 2 rfl))))) ho.l ho.o hn)) (fun _ _ => slr) ?_
   rintro ⟨⟩ -
   refine Ap [4,5] [(dS (.bool (sheetF T.ps n == b)))] (some [6]) (tF 6 0) slr 0 (fun S => [(∀ w1,S w1 → (Op.equal 37 (.agg (bv (sheetF T.ps n))) (.agg (bv b))).run Tryz.prog w1 = .ok (sheetF T.ps n == b) w1)]) ⟨(fun w1 _ => equal_bv Tryz.underlying37 Tryz.underlying5 kr (sheetF_len ho.l hn ho.o) hb),trivial⟩ ?_
   refine CfgA.done kr ?_
   refine Cfg.ret rfl (rs := [.tmp 6]) rfl [.bool (sheetF T.ps n == b)] ⟨kr,trivial⟩ (fun w1 hp => ?_)
   have hk6 : k = 6 := by omega
   subst hk6
   have hfin : entL b n 6 T0 = (decide (sheetF T.ps n = b),T) := hra.symm
   rw [hfin]
   have h9 : HP w ((tabO tb nr rm T0 o0 x0).map (·.1)) _ (([(tb,Obj.cells (tbC T.ps nr rm) 88 (0,0)),(nr,Obj.map x.1 x.2)] ++ (spO rm 121 o T.fr ++ []))) w1 := hp.sub (.cons _ (.cons _ slr))
   rw [List.append_nil] at h9
   exact ⟨(o,x),⟨ho,hg,hm⟩,congrArg (fun q => Ending.returned (.bool q)) (by rw [Bool.eq_iff_iff]; simp),_,h9⟩
end Go.Proofs.YtfgdepggdiibdaaGreatDoor
namespace Go.Proofs.YtfgdepggdiibdaaGreatDoor
open K
set_option linter.unusedVariables false
theorem valF_lt4 {l : List UInt8} (h : l.length ≤ 4) : valF l < 4294967296 := by
 have key : ∀ (l : List UInt8) (m : Nat),(m + 1) * 256 ^ l.length ≤ 18446744073709551616 → l.foldl vf m < (m + 1) * 256 ^ l.length := by
  intro l
  induction l with
  | nil => intro m _; simp
  | cons b l ih =>
   intro m hm
   have hb := byteLt b
   rw [List.length_cons,Nat.pow_succ,Nat.mul_comm (256 ^ l.length) 256,← Nat.mul_assoc] at hm ⊢
   have hk : 0 < 256 ^ l.length := Nat.pow_pos (by decide)
   have h1 : (m + 1) * 256 ≤ 18446744073709551616 := Nat.le_trans (Nat.le_mul_of_pos_right _ hk) hm
   have e : vf m b = m * 256 + b.toNat := by unfold vf; omega
   rw [List.foldl_cons,e]
   have h2 : (m * 256 + b.toNat + 1) * 256 ^ l.length ≤ (m + 1) * 256 * 256 ^ l.length := Nat.mul_le_mul_right _ om
   exact Nat.lt_of_lt_of_le (ih _ (Nat.le_trans h2 hm)) h2
 have h1 := key l 0 (by
  have : 256 ^ l.length ≤ 256 ^ 4 := Nat.pow_le_pow_right (by decide) h
  omega)
 have h2 : 256 ^ l.length ≤ 256 ^ 4 := Nat.pow_le_pow_right (by decide) h
 unfold valF
 omega
theorem failF_ne (z : IN) {e : Int} (he : e ≠ 0) : (failF z e).er ≠ 0 := by
 unfold failF; split
 ·exact he
 ·assumption
end Go.Proofs.YtfgdepggdiibdaaGreatDoor
namespace Go.Proofs.YtfgdepggdiibdaaGreatDoor
open K
set_option linter.unusedVariables false
theorem jc_byte {r : Wr} {j : Nat} (h : r.2.length = 512) (hj : j < 512) : (jc r)[1 + j]? = some (.int .u8 ((r.2.getD j 0).toNat : Int)) := by
 rw [show 1 + j = j + 1 by omega]
 show (bv r.2).toList[j]? = _
 rw [Array.getElem?_toList]; exact bv_get h hj
end Go.Proofs.YtfgdepggdiibdaaGreatDoor
namespace Go.Proofs.YtfgdepggdiibdaaGreatDoor
open K
set_option linter.unusedVariables false
theorem foldl_spl (off : Nat) : ∀ (vs : List Value) (k : Nat) (cs : Array Value),(vs.zipIdx k).foldl (fun (cs : Array Value) (p : Value × Nat) => cs.setIfInBounds (off + p.2) p.1) cs = spl cs (off + k) vs
 | [],k,cs => rfl
 | v :: vs,k,cs => by
  rw [List.zipIdx_cons,List.foldl_cons,foldl_spl off vs (k + 1),spl]
  rfl
set_option maxRecDepth 100000 in
theorem build_wr (n : Int) {t : List UInt8} (ht : t.length = 512) (w : World) : (Instr.build 101 #[(0,.int .i64 n),(1,.agg (bv t))]).run Tryz.prog w = .ok (.agg (jc (n,t)).toArray) w := by
 refine run_build w 101 _ _ ?_
 have hz : Tryz.prog.built 101 [(0,.int .i64 n),(1,.agg (bv t))] = Instr.fill ((#[(0,1),(1,512)] : Array (Nat × Nat))[·]?) (jc wz).toArray [(0,.int .i64 n),(1,.agg (bv t))] := by kernel_rfl
 show Tryz.prog.built 101 [(0,.int .i64 n),(1,.agg (bv t))] = _
 rw [hz]
 have h1 : ((Value.agg (bv t)).cells).size = 512 := by show (bv t).size = 512; rw [bv_size,ht]
 have e0 : (Value.int .i64 n).cells.zipIdx.foldl (fun (cs : Array Value) (p : Value × Nat) => cs.setIfInBounds (0 + p.2) p.1) (jc wz).toArray = (jc (n,List.replicate 512 0)).toArray := rfl
 have e1 : (bv t).zipIdx.foldl (fun (cs : Array Value) (p : Value × Nat) => cs.setIfInBounds (1 + p.2) p.1) (jc (n,List.replicate 512 0)).toArray = (jc (n,t)).toArray := by
  rw [← Array.foldl_toList,Array.toList_zipIdx,foldl_spl 1 (bv t).toList 0]
  have := spl_at (L := jc (n,List.replicate 512 0)) (A := [Value.int .i64 n]) (B := (bv (List.replicate 512 0)).toList) (T := []) (vs := (bv t).toList) (off := 1) (by simp [jc]) rfl (by rw [Array.length_toList,bv_size,ht]; rfl)
  rw [this]; simp [jc]
 have e0' : (Value.int .i64 n).cells.zipIdx.foldl (fun cs x => match x with | (c,j) => cs.setIfInBounds (0 + j) c) (jc wz).toArray = (jc (n,List.replicate 512 0)).toArray := e0
 have e1' : (Value.agg (bv t)).cells.zipIdx.foldl (fun cs x => match x with | (c,j) => cs.setIfInBounds (1 + j) c) (jc (n,List.replicate 512 0)).toArray = (jc (n,t)).toArray := e1
 have q1 : (decide ((Value.int .i64 n).cells.size ≠ 1) || decide (0 + (Value.int .i64 n).cells.size > (jc wz).toArray.size)) = false := rfl
 have q2 : (decide ((Value.agg (bv t)).cells.size ≠ 512) || decide (1 + (Value.agg (bv t)).cells.size > (jc (n,List.replicate 512 0)).toArray.size)) = false := by rw [h1]; rfl
 rw [Instr.fill]
 show (if (decide ((Value.int .i64 n).cells.size ≠ 1) || decide (0 + (Value.int .i64 n).cells.size > (jc wz).toArray.size)) = true then none else _) = _
 rw [q1,if_neg (by decide),e0',Instr.fill]
 show (if (decide ((Value.agg (bv t)).cells.size ≠ 512) || decide (1 + (Value.agg (bv t)).cells.size > (jc (n,List.replicate 512 0)).toArray.size)) = true then none else _) = _
 rw [q2,if_neg (by decide),e1',Instr.fill]
set_option maxRecDepth 100000 in
def InB (Rl : List (Nat × Obj)) (la : Option Addr) (bs : List (List UInt8)) : Prop := InS Rl la (bs.length * 512) (fun j => (rows bs).getD j undef)
theorem InB.mono {Rl Rl' : List (Nat × Obj)} {la : Option Addr} {l : List (List UInt8)} (h : InB Rl la l) (hR : ∀ e ∈ Rl,e ∈ Rl') : InB Rl' la l := InS.mono h hR
theorem blk_cell {l : List (List UInt8)} {cs : Array Value} {off i : Nat} (hW : W5 l) (hcs : ∀ j,j < l.length * 512 → cs[off + j]? = some ((rows l).getD j undef)) (hi : i < l.length) {j : Nat} (hj : j < 512) : cs[off + i * 512 + j]? = some (.int .u8 (((l.getD i zb).getD j 0).toNat : Int)) := by
 rw [Nat.add_assoc,hcs (i * 512 + j) om,List.getD_eq_getElem?_getD,rows_get hW hi hj]; rfl
def aD (H : List UInt8) (k : Nat) : IN := ⟨0,H.drop k⟩
theorem z_take {H : List UInt8} {k n : Nat} (h : k + n ≤ H.length) : nextF (aD H k) (n : Int) = ((H.drop k).take n,aD H (k + n)) := by
 unfold nextF aD
 rw [if_neg (fun hx => hx rfl),if_neg (by simp only [List.length_drop]; omega),Int.toNat_natCast,List.drop_drop]
def numP (H : List UInt8) : Nat := valF ((H.drop 4).take 8)
def cntP (H : List UInt8) : Nat := valF ((H.drop 12).take 4)
def atP (H : List UInt8) (i : Nat) : Nat := (gb H (16 + 2 * i)).toNat * 256 + (gb H (17 + 2 * i)).toNat
def rowP (H : List UInt8) (bs : List (List UInt8)) (k : Nat) : List Wr := (List.range k).map fun i => ((atP H i : Int),bs.getD i zb)
theorem rowP_succ (H : List UInt8) (bs : List (List UInt8)) (k : Nat) : rowP H bs (k + 1) = rowP H bs k ++ [((atP H k : Int),bs.getD k zb)] := by unfold rowP; rw [List.range_succ,List.map_append]; rfl
theorem rowP_len (H : List UInt8) (bs : List (List UInt8)) (k : Nat) : (rowP H bs k).length = k := by unfold rowP; rw [List.length_map,List.length_range]
theorem rowP_w {bs : List (List UInt8)} (h : W5 bs) (H : List UInt8) (k : Nat) : WW (rowP H bs k) := fun x hx => by
 obtain ⟨i,_,rfl⟩ := List.mem_map.1 hx
 exact h.at' i
def parG (H : List UInt8) (bs : List (List UInt8)) : Bool := decide (H.take 4 = mkL) && (decide (cntP H ≤ min 96 bs.length) && decide (headF (numP H) (rowP H bs (cntP H)) = H))
def parN (H : List UInt8) (bs : List (List UInt8)) : Nat := if parG H bs then numP H else 0
def parL (H : List UInt8) (bs : List (List UInt8)) : List Wr := if parG H bs then rowP H bs (cntP H) else []
theorem par_no {H : List UInt8} {bs : List (List UInt8)} (h : parG H bs = false) : parN H bs = 0 ∧ parL H bs = [] := by unfold parN parL; rw [h]; exact ⟨rfl,rfl⟩
theorem par_yes {H : List UInt8} {bs : List (List UInt8)} (h : parG H bs = true) : parN H bs = numP H ∧ parL H bs = rowP H bs (cntP H) := by unfold parN parL; rw [h]; exact ⟨rfl,rfl⟩
theorem par_no1 {H : List UInt8} {bs : List (List UInt8)} (h : ¬ H.take 4 = mkL) : parG H bs = false := by unfold parG; rw [decide_eq_false h]; rfl
theorem par_no2 {H : List UInt8} {bs : List (List UInt8)} (h : ¬ cntP H ≤ min 96 bs.length) : parG H bs = false := by unfold parG; rw [decide_eq_false h,Bool.false_and,Bool.and_false]
theorem par_no3 {H : List UInt8} {bs : List (List UInt8)} (h : ¬ headF (numP H) (rowP H bs (cntP H)) = H) : parG H bs = false := by unfold parG; rw [decide_eq_false h,Bool.and_false,Bool.and_false]
theorem par_ok {H : List UInt8} {bs : List (List UInt8)} (h1 : H.take 4 = mkL) (h2 : cntP H ≤ min 96 bs.length) (h3 : headF (numP H) (rowP H bs (cntP H)) = H) : parG H bs = true := by unfold parG; rw [decide_eq_true h1,decide_eq_true h2,decide_eq_true h3]; rfl
theorem mark_eq {l : List UInt8} : ((tx l).toList == (⟨#[80,82,84,82]⟩ : ByteArray).toList) = decide (l = mkL) := by
 rw [Go.ByteArray.toList_eq,Go.ByteArray.toList_eq,Bool.eq_iff_iff,beq_iff_eq,decide_eq_true_iff]; exact Iff.rfl
theorem cnt_lt (H : List UInt8) : cntP H < 4294967296 := valF_lt4 (by rw [List.length_take]; omega)
theorem numP_lt (H : List UInt8) : numP H < 18446744073709551616 := valF_lt _
theorem eight_at {H : List UInt8} (h : H.length = 512) : eightF (aD H 4) = (numP H,aD H 12) := by
 have h1 := z_take (H := H) (k := 4) (n := 8) om
 unfold eightF; rw [show (8 : Int) = ((8 : Nat) : Int) from rfl,h1]; rfl
theorem four_at {H : List UInt8} (h : H.length = 512) : fourF (aD H 12) = (cntP H,aD H 16) := by
 have h1 := z_take (H := H) (k := 12) (n := 4) om
 have h2 := cnt_lt H
 unfold fourF; rw [show (4 : Int) = ((4 : Nat) : Int) from rfl,h1]
 show (cntP H % 4294967296,_) = _
 rw [Nat.mod_eq_of_lt h2]
theorem one_take {H : List UInt8} {k : Nat} (h : k < H.length) : (H.drop k).take 1 = [gb H k] := by
 rw [List.take_one,List.head?_drop,List.getElem?_eq_getElem h]
 simp [gb,List.getElem?_eq_getElem h]
theorem two_take {H : List UInt8} {k : Nat} (h : k + 1 < H.length) : (H.drop k).take 2 = [gb H k,gb H (k + 1)] := by
 have h1 := one_take (H := H) (k := k) om
 have h2 := one_take (H := H) (k := k + 1) h
 rw [show 2 = 1 + 1 from rfl,List.take_add,h1,List.drop_drop,h2]; rfl
theorem byte_at {H : List UInt8} {k : Nat} (h : k < H.length) : byteF (aD H k) = ((gb H k).toNat,aD H (k + 1)) := by
 have h1 := z_take (H := H) (k := k) (n := 1) om
 have hb := byteLt (gb H k)
 unfold byteF; rw [show (1 : Int) = ((1 : Nat) : Int) from rfl,h1,one_take h]
 show ((vf 0 (gb H k)) % 256,_) = _
 rw [show vf 0 (gb H k) % 256 = (gb H k).toNat by unfold vf; omega]
theorem val_two {H : List UInt8} {i : Nat} (h : 17 + 2 * i < H.length) : valF ((H.drop (16 + 2 * i)).take 2) = atP H i := by
 rw [two_take om]
 have h1 := byteLt (gb H (16 + 2 * i)); have h2 := byteLt (gb H (16 + 2 * i + 1))
 show vf (vf 0 (gb H (16 + 2 * i))) (gb H (16 + 2 * i + 1)) = _
 unfold atP; rw [show 17 + 2 * i = 16 + 2 * i + 1 by omega]; unfold vf; omega
theorem cnt_ok {H : List UInt8} (h : H.length = 512) {m : Nat} (he : (boundF (aD H 12) (m : Int) 6).2.er = 0) : boundF (aD H 12) (m : Int) 6 = (cntP H,aD H 16) ∧ cntP H ≤ m := by
 have h4 := four_at h
 have hm : (if (0 : Int) > (m : Int) then 0 else (m : Int)).toNat = m := by rw [if_neg om]; rfl
 unfold boundF at he ⊢
 rw [hm,h4] at he ⊢
 by_cases h0 : cntP H > m
 ·rw [if_pos h0] at he
  exact absurd he (failF_ne _ (by decide))
 ·exact ⟨if_neg h0,by omega⟩
theorem cnt_no {H : List UInt8} (h : H.length = 512) {m : Nat} (he : ¬ (boundF (aD H 12) (m : Int) 6).2.er = 0) : ¬ cntP H ≤ m := by
 have h4 := four_at h
 have hm : (if (0 : Int) > (m : Int) then 0 else (m : Int)).toNat = m := by rw [if_neg om]; rfl
 intro hle
 apply he
 unfold boundF
 rw [hm,h4,if_neg (by show ¬ cntP H > m; omega)]; rfl
theorem jRaw (b : Nat) (H : List UInt8) (w : World) (h : H.length = 512) (hB : w.heap[b]? = some (.cells (inC (aD H 0)) 196 (0,0))) : Calls Tryz.prog 67 #[.pointer (some ⟨b,0,none⟩),.int .i64 4] w fun e w' => e = .returned (.string (tx (H.take 4))) ∧ Ext [b] w w' ∧ w'.heap[b]? = some (.cells (inC (aD H 4)) 196 (0,0)) := by
 have h1 := z_take (H := H) (k := 0) (n := 4) om
 have h9 := wTRaw b (aD H 0) ((4 : Nat) : Int) w hB
 rw [h1] at h9; exact h9
theorem jEight (b : Nat) (H : List UInt8) (w : World) (h : H.length = 512) (hB : w.heap[b]? = some (.cells (inC (aD H 4)) 196 (0,0))) : Calls Tryz.prog 99 #[.pointer (some ⟨b,0,none⟩)] w fun e w' => e = .returned (.int .u64 (numP H : Int)) ∧ Ext [b] w w' ∧ w'.heap[b]? = some (.cells (inC (aD H 12)) 196 (0,0)) := by
 have h9 := wTEight b (aD H 4) w hB
 rw [eight_at h] at h9; exact h9
theorem jByte (b : Nat) (H : List UInt8) (k : Nat) (w : World) (h : k < H.length) (hB : w.heap[b]? = some (.cells (inC (aD H k)) 196 (0,0))) : Calls Tryz.prog 69 #[.pointer (some ⟨b,0,none⟩)] w fun e w' => e = .returned (.int .u8 ((gb H k).toNat : Int)) ∧ Ext [b] w w' ∧ w'.heap[b]? = some (.cells (inC (aD H (k + 1))) 196 (0,0)) := by
 have h9 := wTByte b (aD H k) w hB
 rw [byte_at h] at h9; exact h9
theorem own_le {o : K.Own} {sz n : Nat} {xs : List Value} (h : OwnOk o sz n xs) : n ≤ Own.c o := by
 cases o with
 | none => rw [h.nil rfl]; exact Nat.zero_le _
 | some p => exact (h.some p rfl).2
theorem wr_src {w0 w : World} {M : List Nat} {R O : List (Nat × Obj)} (h : HP w0 M R O w) (i : Nat) {b : Nat} {r : Wr} {t : TypeId} (ho : O[i]? = some (b,.cells (jc r).toArray t (0,0))) {j : Nat} {v : Value} (hj : (jc r)[j]? = some v) : w.cell? ⟨b,0 + j,none⟩ = some v := by
 rw [Nat.zero_add,cell_cells (h.own _ (List.mem_of_getElem? ho)),List.getElem?_toArray]; exact hj
theorem at_or (H : List UInt8) (k : Nat) : ((atP H k : Nat) : Int) = (((gb H (16 + 2 * k)).toNat * 256 ||| (gb H (16 + 2 * k + 1)).toNat : Nat) : Int) := by
 have h := byteLt (gb H (16 + 2 * k + 1))
 unfold atP
 rw [Nat.mul_comm,or256 _ _ h,show 17 + 2 * k = 16 + 2 * k + 1 by omega]
theorem par_ret {H : List UInt8} {bs : List (List UInt8)} {w w1 : World} {M : List Nat} {R F : List (Nat × Obj)} {t : TypeId} (o : K.Own) (hG : parG H bs = true) (ko : OwnOk o 513 (rowP H bs (cntP H)).length (jv (rowP H bs (cntP H)))) (hp : HP w M R (F ++ (Own.o t (jv (rowP H bs (cntP H))) o ++ [])) w1) (hM : M = []) :
  ∃ x : K.Own,OwnOk x 513 (parL H bs).length (jv (parL H bs)) ∧ Ending.returned (resOf [.int .u64 (numP H : Int),.slice (Own.a o) (cntP H) (Own.c o),.bool true]) = .returned (.tuple #[.int .u64 (parN H bs : Int),.slice (Own.a x) (parL H bs).length (Own.c x),.bool (parG H bs)]) ∧ ∃ R1,HP w [] R1 (Own.o t (jv (parL H bs)) x) w1 := by
 obtain ⟨h1,h2⟩ := par_yes hG
 subst hM
 rw [h1,h2,hG]
 have h9 := hp.sub (List.sublist_append_right _ _)
 rw [List.append_nil] at h9
 refine ⟨o,ko,?_,_,h9⟩
 rw [rowP_len]; rfl
theorem par_ret0 {H : List UInt8} {bs : List (List UInt8)} {w w1 : World} {R F : List (Nat × Obj)} {t : TypeId} (hG : parG H bs = false) (hp : HP w [] R F w1) :
  ∃ o : K.Own,OwnOk o 513 (parL H bs).length (jv (parL H bs)) ∧ Ending.returned (resOf [.int .u64 0,.slice none 0 0,.bool false]) = .returned (.tuple #[.int .u64 (parN H bs : Int),.slice (Own.a o) (parL H bs).length (Own.c o),.bool (parG H bs)]) ∧ ∃ R1,HP w [] R1 (Own.o t (jv (parL H bs)) o) w1 := by
 obtain ⟨h1,h2⟩ := par_no hG
 rw [h1,h2,hG]
 exact ⟨none,OwnOk.none _,rfl,_,hp.sub (List.nil_sublist _)⟩
end Go.Proofs.YtfgdepggdiibdaaGreatDoor
namespace Go.Proofs.YtfgdepggdiibdaaGreatDoor
open K
set_option linter.unusedVariables false
set_option maxRecDepth 100000 in
set_option maxHeartbeats 4000000 in
theorem jParse (H : List UInt8) (la : Option Addr) (cap : Nat) (bs : List (List UInt8)) (Rl : List (Nat × Obj)) {kt : Array Value} {t0 : TypeId} {fr0 : Nat × Nat} (w : World) (hH : H.length = 512) (hI : InB Rl la bs) (hB : W5 bs) (hn : bs.length ≤ maxLen) (hR : Has w ((1,.cells kt t0 fr0) :: Rl)) (hK : KT kt := by assumption) :
  Calls Tryz.prog 61 #[.agg (bv H),.slice la bs.length cap] w fun e w' => ∃ o : K.Own,OwnOk o 513 (parL H bs).length (jv (parL H bs)) ∧ e = .returned (.tuple #[.int .u64 (parN H bs : Int),.slice (Own.a o) (parL H bs).length (Own.c o),.bool (parG H bs)]) ∧ ∃ R1,HP w [] R1 (Own.o 101 (jv (parL H bs)) o) w' := by
 unfold maxLen at hn
 obtain ⟨m,hm⟩ : ∃ m,m = min 96 bs.length := ⟨_,rfl⟩
 have hmm : (if (bs.length : Int) < (96 : Int) then (bs.length : Int) else (96 : Int)) = (m : Int) := by split <;> omega
 have hIq : InB ((1,.cells kt t0 fr0) :: Rl) la bs := hI.mono (fun e he => List.mem_cons_of_mem _ he)
 have hnl := numP_lt H
 have hcl := cnt_lt H
 refine enter (vs := [.agg (bv H),.slice la bs.length cap]) [] ((1,.cells kt t0 fr0) :: Rl) [] Tryz.func61 rfl kr (HP.ofHas hR) ?_
 refine Cfg.begL rfl ?_
 refine Le (Eff.box (v := .agg (bv H)) rfl kr) ?_
 rintro hx ⟨hhx,nhx⟩
 refine Lp 3 [] (some [1,2]) n0 trivial ?_
 refine CfgL.done rfl ?_
 refine Cfg.begL rfl ?_
 refine Lp 2 [dZ,(dS (.string (tx H)))] (some [1,2,14]) (fun S => [(512 ≤ 512),(∀ w1,S w1 → (Conv.bytesToString (.slice (some ⟨hx,0,none⟩) 512 512)).run Tryz.prog w1 = .ok (.string (tx H)) w1)]) ⟨om,(fun w1 h => bytes_str hH (fun j hj => by rw [Nat.zero_add]; exact h.ocell 0 rfl (bv_get hH hj))),trivial⟩ ?_
 refine Le (Eff.callN (vs := [.string (tx H)]) (fun b : Nat => pT b) (fun b => b) (fun _ => .cells (inC (aD H 0)) 196 (0,0)) (fun _ => True) rfl Tryz.func66 rfl rfl kr (fun w1 _ => wOf H w1)) ?_
 rintro ib ⟨-,hib,nib⟩
 refine Lp 1 [] (some [1,2,7]) n0 trivial ?_
 refine CfgL.done rfl ?_
 refine Cfg.begL rfl ?_
 refine Lp 1 [] none n0 trivial ?_
 refine Le (Eff.callM (vs := [pT ib,.int .i64 4]) (.string (tx (H.take 4))) 0 (b := ib) (ob := Obj.cells (inC (aD H 0)) 196 (0,0)) (Obj.cells (inC (aD H 4)) 196 (0,0)) rfl Tryz.func67 rfl rfl kr kr (fun w1 h => jRaw ib H w1 hH (h.own (ib,Obj.cells (inC (aD H 0)) 196 (0,0)) (show (ib,Obj.cells (inC (aD H 0)) 196 (0,0)) ∈ [(ib,Obj.cells (inC (aD H 0)) 196 (0,0)),(hx,Obj.cells (bv H) 37 (0,0))] from (mG 0 rfl))))) ?_
 rintro ⟨⟩ -
 refine Lp 1 [] (some [1,2,7,18]) n0 trivial ?_
 refine CfgL.done rfl ?_
 refine Cfg.cond rfl (b := (!((tx (H.take 4)).toList == (⟨#[80,82,84,82]⟩ : ByteArray).toList))) kr (fun c1r => ?_) (fun c1r => ?_)
 ·have c1 : (((tx (H.take 4)).toList == (⟨#[80,82,84,82]⟩ : ByteArray).toList) = false) := (notT c1r)
  have hmk : ¬ H.take 4 = mkL := by have h0 := c1r; rw [mark_eq] at h0; simpa using h0
  refine Rg [4,5,6] [] n0 trivial ?_
  refine Cfg.ret rfl (rs := [.tmp 4,.tmp 5,.tmp 6]) rfl [.int .u64 0,.slice none 0 0,.bool false] ⟨kr,by kernel_rfl,by kernel_rfl,trivial⟩ (fun w1 hp => ?_)
  exact par_ret0 (par_no1 hmk) hp
 ·have c1 : (((tx (H.take 4)).toList == (⟨#[80,82,84,82]⟩ : ByteArray).toList) = true) := (notF c1r)
  have hmk : H.take 4 = mkL := by have h0 := c1r; rw [mark_eq] at h0; simpa using h0
  refine Cfg.begL rfl ?_
  refine Lp 1 [] (some [1,2,7,19]) n0 trivial ?_
  refine Le (Eff.callM (vs := [pT ib]) (.int .u64 ((numP H) : Int)) 0 (b := ib) (ob := Obj.cells (inC (aD H 4)) 196 (0,0)) (Obj.cells (inC (aD H 12)) 196 (0,0)) rfl Tryz.func99 rfl rfl kr kr (fun w1 h => jEight ib H w1 hH (h.own (ib,Obj.cells (inC (aD H 4)) 196 (0,0)) (show (ib,Obj.cells (inC (aD H 4)) 196 (0,0)) ∈ [(ib,Obj.cells (inC (aD H 4)) 196 (0,0)),(hx,Obj.cells (bv H) 37 (0,0))] from (mG 0 rfl))))) ?_
  rintro ⟨⟩ -
  refine CfgL.pure 1 [] (some [1,2,7,8]) (Γ' := [(8,[],.int .u64 ((numP H) : Int)),(7,[],pT ib),(2,[],pT hx),(1,[],.slice la bs.length cap)]) (nd := (fun _ => [])) kr (fun _ => kr) trivial ?_
  refine CfgL.done rfl ?_
  refine Cfg.begL rfl ?_
  refine Lp 3 [] (some [1,2,7,8,21,23]) n0 trivial ?_
  refine Le (Eff.minI2 (k := .i64) (a := (96 : Int)) (b := (bs.length : Int)) (m : Int) hmm rfl kr kr) ?_
  rintro ⟨⟩ -
  refine Le (Eff.callM (vs := [pT ib,.int .i64 (m : Int)]) (.int .i64 ((boundF (aD H 12) (m : Int) 6).1 : Int)) 0 (b := ib) (ob := Obj.cells (inC (aD H 12)) 196 (0,0)) (Obj.cells (inC (boundF (aD H 12) (m : Int) 6).2) 196 (0,0)) rfl Tryz.func100 rfl rfl kr kr (fun w1 h => wCount ib (aD H 12) (m : Int) w1 (h.own (ib,Obj.cells (inC (aD H 12)) 196 (0,0)) (show (ib,Obj.cells (inC (aD H 12)) 196 (0,0)) ∈ [(ib,Obj.cells (inC (aD H 12)) 196 (0,0)),(hx,Obj.cells (bv H) 37 (0,0))] from (mG 0 rfl))) om)) ?_
  rintro ⟨⟩ -
  refine Lp 1 [] (some [1,2,7,8,9]) n0 trivial ?_
  refine CfgL.done rfl ?_
  refine Cfg.begL rfl ?_
  refine Lp 1 [] none n0 trivial ?_
  refine Le (Eff.callA (vs := [pT ib]) (.int .i64 ((boundF (aD H 12) (m : Int) 6).2.er)) rfl Tryz.func101 rfl rfl kr (fun w1 h => wErr ib (boundF (aD H 12) (m : Int) 6).2 w1 (h.own (ib,_) (mG 0 rfl)))) ?_
  rintro ⟨⟩ -
  refine Lp 1 [] (some [1,2,7,8,9,28]) n0 trivial ?_
  refine CfgL.done rfl ?_
  refine Cfg.cond rfl (b := (((boundF (aD H 12) (m : Int) 6).2.er) != (0 : Int))) kr (fun c2r => ?_) (fun c2r => ?_)
  ·have c2 := (bne_iff_ne.1 c2r)
   refine Rg [4,5,6] [] n0 trivial ?_
   refine Cfg.ret rfl (rs := [.tmp 4,.tmp 5,.tmp 6]) rfl [.int .u64 0,.slice none 0 0,.bool false] ⟨kr,by kernel_rfl,by kernel_rfl,trivial⟩ (fun w1 hp => ?_)
   exact par_ret0 (par_no2 (by have := cnt_no hH (m := m) om; omega)) hp
  ·have c2 := (bne_eq_false_iff_eq.1 c2r)
   obtain ⟨hb1,hb2⟩ := cnt_ok hH (m := m) om
   refine Cfg.setS 9 (congrArg (fun (xq : Int) => (.int .i64 xq : Value)) (show ((boundF (aD H 12) (m : Int) 6).1 : Int) = ((cntP H) : Int) from by rw [hb1])) ?_
   refine Cfg.setO (congrArg (fun (xq : Array Value) => ([(ib,.cells xq 196 (0,0)),(hx,.cells (bv H) 37 (0,0))] : LO)) (show _ = (inC (aD H 16)) from by rw [hb1])) ?_
   refine Rg [1,2,7,8,9,10] [] n0 trivial ?_
   refine Rg [1,2,7,8,10,29,30] [] n0 trivial ?_
   refine Cfg.setO (congrArg (fun (xq : Array Value) => ([(ib,.cells xq 196 (0,0)),(hx,.cells (bv H) 37 (0,0))] : LO)) (show _ = (inC (aD H (16 + 2 * 0))) from rfl)) ?_
   refine Cfg.loop rfl (ι := Nat × K.Own) (fun (xz : Nat × K.Own) => match xz with | (k,own) => [(30,[],.int .i64 (k : Int)),(29,[],.int .i64 ((cntP H) : Int)),(10,[],.slice (Own.a own) k (Own.c own)),(8,[],.int .u64 ((numP H) : Int)),(7,[],pT ib),(2,[],pT hx),(1,[],.slice la bs.length cap)]) (fun (xz : Nat × K.Own) => match xz with | (k,own) => ([(ib,.cells (inC (aD H (16 + 2 * k))) 196 (0,0)),(hx,.cells (bv H) 37 (0,0))] ++ (Own.o 101 (jv (rowP H bs k)) own ++ []))) (fun (xz : Nat × K.Own) => match xz with | (k,own) => (k ≤ cntP H) ∧ (OwnOk own 513 k (jv (rowP H bs k)))) (fun (xz : Nat × K.Own) => match xz with | (k,own) => cntP H - k) (0,none) ?_ (Conv.mk kr) slr ?_
   ·exact ⟨Nat.zero_le _,OwnOk.none _⟩
   ·rintro ⟨k,own⟩ ⟨hk,hok⟩
    refine Rg [1,2,7,8,10,29,30,31] [] n0 trivial ?_
    refine Cfg.cond rfl (b := (decide ((k : Int) < ((cntP H) : Int)))) kr (fun c3r => ?_) (fun c3r => ?_)
    ·have c3 := (dT c3r)
     refine Rg [1,2,7,8,10,11,29,30] [] n0 trivial ?_
     refine Cfg.begL rfl ?_
     refine Lp 1 [] none n0 trivial ?_
     refine Le (Eff.callM (vs := [pT ib]) (.int .u8 ((gb H (16 + 2 * k)).toNat : Int)) 0 (b := ib) (ob := Obj.cells (inC (aD H (16 + 2 * k))) 196 (0,0)) (Obj.cells (inC (aD H (16 + 2 * k + 1))) 196 (0,0)) rfl Tryz.func69 rfl rfl kr kr (fun w1 h => jByte ib H (16 + 2 * k) w1 om (h.own (ib,Obj.cells (inC (aD H (16 + 2 * k))) 196 (0,0)) (show (ib,Obj.cells (inC (aD H (16 + 2 * k))) 196 (0,0)) ∈ ([(ib,Obj.cells (inC (aD H (16 + 2 * k))) 196 (0,0)),(hx,Obj.cells (bv H) 37 (0,0))] ++ (Own.o 101 (jv (rowP H bs k)) own ++ [])) from (mL (mG 0 rfl)))))) ?_
     rintro ⟨⟩ -
     refine Lp 2 [] (some [1,2,7,8,10,11,12,29,30]) (fun _ => [(i6 ((gb H (16 + 2 * k)).toNat : Int))]) ⟨(by have hq1 := byteLt (gb H (16 + 2 * k)); have hq2 := byteLt (gb H (16 + 2 * k + 1)); omega),trivial⟩ ?_
     refine CfgL.done rfl ?_
     obtain ⟨sb,off,cs,te,fre,rfl,hmem,hcs⟩ := hIq om
     refine Conv.cfg (Γ' := [(12,[],.int .i64 ((gb H (16 + 2 * k)).toNat : Int)),(11,[],.int .i64 (k : Int)),(30,[],.int .i64 (k : Int)),(29,[],.int .i64 ((cntP H) : Int)),(10,[],.slice (Own.a own) k (Own.c own)),(8,[],.int .u64 ((numP H) : Int)),(7,[],pT ib),(2,[],pT hx),(1,[],.slice (some ⟨sb,off,none⟩) bs.length cap)]) (Conv.mk kr) ?_
     refine Cfg.begA rfl kr [(hx,.cells (bv H) 37 (0,0))] ?_
     refine Ap [0,1,2,3,7,8,9] [] (some [1,2,7,8,10,29,30,36,38,39,45]) (bF 911 15) (.cons _ (.cons_cons _ (List.nil_sublist _))) 8 (fun _ => [(0 ≤ (8 : Int) ∧ 8 ≤ 64),(i6 (((gb H (16 + 2 * k)).toNat : Int) * 256)),(0 ≤ (k : Int) ∧ (k : Int) < (bs.length : Int))]) ⟨om,(by have hq1 := byteLt (gb H (16 + 2 * k)); have hq2 := byteLt (gb H (16 + 2 * k + 1)); omega),om,trivial⟩ ?_
     refine CfgA.two 4 10 kr (fuel' := 7) rfl ?_ ?_
     ·
      refine Ie rfl  (Eff.callM (vs := [pT ib]) (.int .u8 ((gb H (16 + 2 * k + 1)).toNat : Int)) 0 (b := ib) (ob := Obj.cells (inC (aD H (16 + 2 * k + 1))) 196 (0,0)) (Obj.cells (inC (aD H (16 + 2 * k + 1 + 1))) 196 (0,0)) rfl Tryz.func69 rfl rfl kr kr (fun w1 h => jByte ib H (16 + 2 * k + 1) w1 om (h.own (ib,Obj.cells (inC (aD H (16 + 2 * k + 1))) 196 (0,0)) (show (ib,Obj.cells (inC (aD H (16 + 2 * k + 1))) 196 (0,0)) ∈ ([(ib,Obj.cells (inC (aD H (16 + 2 * k + 1))) 196 (0,0)),(hx,Obj.cells (bv H) 37 (0,0))] ++ (Own.o 101 (jv (rowP H bs k)) own ++ [])) from (mL (mG 0 rfl)))))) (fun _ _ => (.cons _ (.cons_cons _ (List.nil_sublist _)))) ?_
      rintro ⟨⟩ -
      refine CfgA.pure [5,6] [] (some [1,2,7,8,10,29,30,36,42,45]) (l' := tF 10 5) kr kr (.cons _ (.cons_cons _ (List.nil_sublist _))) 5 rfl (Γ' := [(42,[],.int .i64 (((((gb H (16 + 2 * k)).toNat) * 256) ||| ((gb H (16 + 2 * k + 1)).toNat) : Nat) : Int)),(45,[],.pointer (some ⟨sb,(addO off (k * 512)),none⟩)),(36,[],.slice (Own.a own) k (Own.c own)),(30,[],.int .i64 (k : Int)),(29,[],.int .i64 ((cntP H) : Int)),(10,[],.slice (Own.a own) k (Own.c own)),(8,[],.int .u64 ((numP H) : Int)),(7,[],pT ib),(2,[],pT hx),(1,[],.slice (some ⟨sb,off,none⟩) bs.length cap)]) (nd := (fun _ => [(i6 ((gb H (16 + 2 * k + 1)).toNat : Int)),((0 ≤ (((gb H (16 + 2 * k)).toNat : Int) * 256) ∧ (((gb H (16 + 2 * k)).toNat : Int) * 256) ≤ 9223372036854775807) ∧ 0 ≤ ((gb H (16 + 2 * k + 1)).toNat : Int) ∧ ((gb H (16 + 2 * k + 1)).toNat : Int) ≤ 9223372036854775807)])) (fun _ => kr) ⟨(by have hq1 := byteLt (gb H (16 + 2 * k)); have hq2 := byteLt (gb H (16 + 2 * k + 1)); omega),(by have hq1 := byteLt (gb H (16 + 2 * k)); have hq2 := byteLt (gb H (16 + 2 * k + 1)); omega),trivial⟩ ?_
      refine Ae 10 rfl 4  (Eff.quiet (raw := false) (orc := some (.agg (bv (bs.getD k zb)))) (v := .agg (bv (bs.getD k zb))) (nd := (fun S => [(∀ w1,S w1 → (loadVar 37 ⟨sb,(addO off (k * 512)),none⟩).run Tryz.prog w1 = .ok (.agg (bv (bs.getD k zb))) w1)])) (fun _ => kr) ⟨(fun w1 h => load_bytes Tryz.underlying37 rfl kr (hB.at' k) (fun j hj => by rw [addO_eq]; exact (cell_cells (h.ro _ hmem)).trans (blk_cell hB hcs om hj))),trivial⟩ kr) (fun _ _ => (.cons _ (.cons_cons _ (List.nil_sublist _)))) ?_
      rintro ⟨⟩ -
      refine Ap [11] [(dS (.agg (jc ((((((gb H (16 + 2 * k)).toNat) * 256) ||| ((gb H (16 + 2 * k + 1)).toNat) : Nat) : Int),bs.getD k zb)).toArray))] (some [1,2,7,8,10,29,30,36,47]) (tF 12 3) (.cons _ (.cons_cons _ (List.nil_sublist _))) 3 (fun S => [(∀ w1,S w1 → (Instr.build 101 #[(0,.int .i64 (((((gb H (16 + 2 * k)).toNat) * 256) ||| ((gb H (16 + 2 * k + 1)).toNat) : Nat) : Int)),(1,.agg (bv (bs.getD k zb)))]).run Tryz.prog w1 = .ok (.agg (jc ((((((gb H (16 + 2 * k)).toNat) * 256) ||| ((gb H (16 + 2 * k + 1)).toNat) : Nat) : Int),bs.getD k zb)).toArray) w1)]) ⟨(fun w1 _ => build_wr (((((gb H (16 + 2 * k)).toNat) * 256) ||| ((gb H (16 + 2 * k + 1)).toNat) : Nat) : Int) (hB.at' k) w1),trivial⟩ ?_
      refine Ae 12 rfl 2  (Eff.buildAgg (vs := (jc ((((((gb H (16 + 2 * k)).toNat) * 256) ||| ((gb H (16 + 2 * k + 1)).toNat) : Nat) : Int),bs.getD k zb)).toArray) (n := 513) rfl kr Tryz.underlying98 kr (z := (.agg (jc wz).toArray)) kr (by rw [List.size_toArray]; exact jc_len (hB.at' k)) (by decide) (by decide)) (fun _ _ => (.cons _ (.cons _ (.cons_cons _ (List.nil_sublist _))))) ?_
      rintro x2 ⟨hx2,nx2⟩
      refine Ae 13 rfl 1  (Eff.appendF rfl 513 520 Tryz.underlying98 kr (z := (.agg (jc wz).toArray)) kr kr own (xs := (jv (rowP H bs k))) hok kr (b2 := x2) (off2 := 0) (m := 1) (c2 := 1) kr (jc ((((((gb H (16 + 2 * k)).toNat) * 256) ||| ((gb H (16 + 2 * k + 1)).toNat) : Nat) : Int),bs.getD k zb)) (jc_len (hB.at' k)) (jc_all _) [(x2,.cells ((jc ((((((gb H (16 + 2 * k)).toNat) * 256) ||| ((gb H (16 + 2 * k + 1)).toNat) : Nat) : Int),bs.getD k zb)).toArray) 101 (0,0)),(ib,.cells (inC (aD H (16 + 2 * k + 1 + 1))) 196 (0,0)),(hx,.cells (bv H) 37 (0,0))] [] (by rfl) (fun w1 h j v hj => wr_src h 0 rfl hj) om om) (fun _ _ => (.cons _ (.cons _ (.cons_cons _ (List.nil_sublist _))))) ?_
      rintro o9 ko9
      refine Ap [14] [] (some [1,2,7,8,10,29,30]) (tF 15 0) (.cons _ (.cons _ (.cons_cons _ (List.nil_sublist _)))) 0 n0 trivial ?_
      refine CfgA.done kr ?_
      refine Rg [1,2,7,8,10,29,30] [] (fun _ => [(i6 ((k : Int) + 1))]) ⟨om,trivial⟩ ?_
      have hrv : ((jv (rowP H bs k)) ++ (jc ((((((gb H (16 + 2 * k)).toNat) * 256) ||| ((gb H (16 + 2 * k + 1)).toNat) : Nat) : Int),bs.getD k zb))) = jv (rowP H bs (k + 1)) := by rw [rowP_succ,jv_app,jv_one,show (atP H k : Int) = _ from at_or H k]
      refine Cfg.setO (congrArg (fun (xq : Array Value) => (([(x2,.cells ((jc ((((((gb H (16 + 2 * k)).toNat) * 256) ||| ((gb H (16 + 2 * k + 1)).toNat) : Nat) : Int),bs.getD k zb)).toArray) 101 (0,0)),(ib,.cells xq 196 (0,0)),(hx,.cells (bv H) 37 (0,0))] ++ (Own.o 101 ((jv (rowP H bs k)) ++ (jc ((((((gb H (16 + 2 * k)).toNat) * 256) ||| ((gb H (16 + 2 * k + 1)).toNat) : Nat) : Int),bs.getD k zb))) o9 ++ [])) : LO)) (show _ = (inC (aD H (16 + 2 * (k + 1)))) from rfl)) ?_
      refine Cfg.setO (congrArg (fun (xq : List Value) => (([(x2,.cells ((jc ((((((gb H (16 + 2 * k)).toNat) * 256) ||| ((gb H (16 + 2 * k + 1)).toNat) : Nat) : Int),bs.getD k zb)).toArray) 101 (0,0)),(ib,.cells (inC (aD H (16 + 2 * (k + 1)))) 196 (0,0)),(hx,.cells (bv H) 37 (0,0))] ++ (Own.o 101 xq o9 ++ [])) : LO)) (show _ = (jv (rowP H bs (k + 1))) from hrv)) ?_
      refine Cfg.again rfl (k + 1,o9) ⟨by omega,hrv ▸ ko9⟩ (by show cntP H - (k + 1) < cntP H - k; omega) (Conv.mk kr) (.cons _ slr)
     ·
      refine Ie rfl  (Eff.quiet (raw := false) (orc := some (.agg (bv (bs.getD k zb)))) (v := .agg (bv (bs.getD k zb))) (nd := (fun S => [(∀ w1,S w1 → (loadVar 37 ⟨sb,(addO off (k * 512)),none⟩).run Tryz.prog w1 = .ok (.agg (bv (bs.getD k zb))) w1)])) (fun _ => kr) ⟨(fun w1 h => load_bytes Tryz.underlying37 rfl kr (hB.at' k) (fun j hj => by rw [addO_eq]; exact (cell_cells (h.ro _ hmem)).trans (blk_cell hB hcs om hj))),trivial⟩ kr) (fun _ _ => (.cons _ (.cons_cons _ (List.nil_sublist _)))) ?_
      rintro ⟨⟩ -
      refine Ae 4 rfl 6  (Eff.callM (vs := [pT ib]) (.int .u8 ((gb H (16 + 2 * k + 1)).toNat : Int)) 0 (b := ib) (ob := Obj.cells (inC (aD H (16 + 2 * k + 1))) 196 (0,0)) (Obj.cells (inC (aD H (16 + 2 * k + 1 + 1))) 196 (0,0)) rfl Tryz.func69 rfl rfl kr kr (fun w1 h => jByte ib H (16 + 2 * k + 1) w1 om (h.own (ib,Obj.cells (inC (aD H (16 + 2 * k + 1))) 196 (0,0)) (show (ib,Obj.cells (inC (aD H (16 + 2 * k + 1))) 196 (0,0)) ∈ ([(ib,Obj.cells (inC (aD H (16 + 2 * k + 1))) 196 (0,0)),(hx,Obj.cells (bv H) 37 (0,0))] ++ (Own.o 101 (jv (rowP H bs k)) own ++ [])) from (mL (mG 0 rfl)))))) (fun _ _ => (.cons _ (.cons_cons _ (List.nil_sublist _)))) ?_
      rintro ⟨⟩ -
      refine Ap [5,6,11] [dZ,dZ,(dS (.agg (jc ((((((gb H (16 + 2 * k)).toNat) * 256) ||| ((gb H (16 + 2 * k + 1)).toNat) : Nat) : Int),bs.getD k zb)).toArray))] (some [1,2,7,8,10,29,30,36,47]) (tF 12 3) (.cons _ (.cons_cons _ (List.nil_sublist _))) 3 (fun S => [(i6 ((gb H (16 + 2 * k + 1)).toNat : Int)),((0 ≤ (((gb H (16 + 2 * k)).toNat : Int) * 256) ∧ (((gb H (16 + 2 * k)).toNat : Int) * 256) ≤ 9223372036854775807) ∧ 0 ≤ ((gb H (16 + 2 * k + 1)).toNat : Int) ∧ ((gb H (16 + 2 * k + 1)).toNat : Int) ≤ 9223372036854775807),(∀ w1,S w1 → (Instr.build 101 #[(0,.int .i64 (((((gb H (16 + 2 * k)).toNat) * 256) ||| ((gb H (16 + 2 * k + 1)).toNat) : Nat) : Int)),(1,.agg (bv (bs.getD k zb)))]).run Tryz.prog w1 = .ok (.agg (jc ((((((gb H (16 + 2 * k)).toNat) * 256) ||| ((gb H (16 + 2 * k + 1)).toNat) : Nat) : Int),bs.getD k zb)).toArray) w1)]) ⟨(by have hq1 := byteLt (gb H (16 + 2 * k)); have hq2 := byteLt (gb H (16 + 2 * k + 1)); omega),(by have hq1 := byteLt (gb H (16 + 2 * k)); have hq2 := byteLt (gb H (16 + 2 * k + 1)); omega),(fun w1 _ => build_wr (((((gb H (16 + 2 * k)).toNat) * 256) ||| ((gb H (16 + 2 * k + 1)).toNat) : Nat) : Int) (hB.at' k) w1),trivial⟩ ?_
      refine Ae 12 rfl 2  (Eff.buildAgg (vs := (jc ((((((gb H (16 + 2 * k)).toNat) * 256) ||| ((gb H (16 + 2 * k + 1)).toNat) : Nat) : Int),bs.getD k zb)).toArray) (n := 513) rfl kr Tryz.underlying98 kr (z := (.agg (jc wz).toArray)) kr (by rw [List.size_toArray]; exact jc_len (hB.at' k)) (by decide) (by decide)) (fun _ _ => (.cons _ (.cons _ (.cons_cons _ (List.nil_sublist _))))) ?_
      rintro x3 ⟨hx3,nx3⟩
      refine Ae 13 rfl 1  (Eff.appendF rfl 513 520 Tryz.underlying98 kr (z := (.agg (jc wz).toArray)) kr kr own (xs := (jv (rowP H bs k))) hok kr (b2 := x3) (off2 := 0) (m := 1) (c2 := 1) kr (jc ((((((gb H (16 + 2 * k)).toNat) * 256) ||| ((gb H (16 + 2 * k + 1)).toNat) : Nat) : Int),bs.getD k zb)) (jc_len (hB.at' k)) (jc_all _) [(x3,.cells ((jc ((((((gb H (16 + 2 * k)).toNat) * 256) ||| ((gb H (16 + 2 * k + 1)).toNat) : Nat) : Int),bs.getD k zb)).toArray) 101 (0,0)),(ib,.cells (inC (aD H (16 + 2 * k + 1 + 1))) 196 (0,0)),(hx,.cells (bv H) 37 (0,0))] [] (by rfl) (fun w1 h j v hj => wr_src h 0 rfl hj) om om) (fun _ _ => (.cons _ (.cons _ (.cons_cons _ (List.nil_sublist _))))) ?_
      rintro o11 ko11
      refine Ap [14] [] (some [1,2,7,8,10,29,30]) (tF 15 0) (.cons _ (.cons _ (.cons_cons _ (List.nil_sublist _)))) 0 n0 trivial ?_
      refine CfgA.done kr ?_
      refine Rg [1,2,7,8,10,29,30] [] (fun _ => [(i6 ((k : Int) + 1))]) ⟨om,trivial⟩ ?_
      have hrv : ((jv (rowP H bs k)) ++ (jc ((((((gb H (16 + 2 * k)).toNat) * 256) ||| ((gb H (16 + 2 * k + 1)).toNat) : Nat) : Int),bs.getD k zb))) = jv (rowP H bs (k + 1)) := by rw [rowP_succ,jv_app,jv_one,show (atP H k : Int) = _ from at_or H k]
      refine Cfg.setO (congrArg (fun (xq : Array Value) => (([(x3,.cells ((jc ((((((gb H (16 + 2 * k)).toNat) * 256) ||| ((gb H (16 + 2 * k + 1)).toNat) : Nat) : Int),bs.getD k zb)).toArray) 101 (0,0)),(ib,.cells xq 196 (0,0)),(hx,.cells (bv H) 37 (0,0))] ++ (Own.o 101 ((jv (rowP H bs k)) ++ (jc ((((((gb H (16 + 2 * k)).toNat) * 256) ||| ((gb H (16 + 2 * k + 1)).toNat) : Nat) : Int),bs.getD k zb))) o11 ++ [])) : LO)) (show _ = (inC (aD H (16 + 2 * (k + 1)))) from rfl)) ?_
      refine Cfg.setO (congrArg (fun (xq : List Value) => (([(x3,.cells ((jc ((((((gb H (16 + 2 * k)).toNat) * 256) ||| ((gb H (16 + 2 * k + 1)).toNat) : Nat) : Int),bs.getD k zb)).toArray) 101 (0,0)),(ib,.cells (inC (aD H (16 + 2 * (k + 1)))) 196 (0,0)),(hx,.cells (bv H) 37 (0,0))] ++ (Own.o 101 xq o11 ++ [])) : LO)) (show _ = (jv (rowP H bs (k + 1))) from hrv)) ?_
      refine Cfg.again rfl (k + 1,o11) ⟨by omega,hrv ▸ ko11⟩ (by show cntP H - (k + 1) < cntP H - k; omega) (Conv.mk kr) (.cons _ slr)
    ·have c3 := (dF c3r)
     obtain rfl : k = cntP H := by omega
     have hokc : OwnOk own 513 (rowP H bs (cntP H)).length (jv (rowP H bs (cntP H))) := by rw [rowP_len]; exact hok
     refine Conv.cfg (Γ' := [(10,[],.slice (Own.a own) ((cntP H)) (Own.c own)),(8,[],.int .u64 ((numP H) : Int)),(2,[],pT hx)]) (Conv.mk kr) ?_
     refine Cfg.begA rfl kr [(hx,.cells (bv H) 37 (0,0))] ?_
     refine Ap [0,1,3] [dZ,dZ,(dS (.agg (bv H)))] (some [8,10,51,52,54]) (bF 11 5) (.cons _ (.cons_cons _ (List.nil_sublist _))) 2 (fun S => [(∀ w1,S w1 → (loadVar 37 ⟨hx,0,none⟩).run Tryz.prog w1 = .ok (.agg (bv H)) w1)]) ⟨(fun w1 h => h.oload 0 rfl Tryz.underlying37 rfl (n := 512) kr ((bv_size _).trans hH)),trivial⟩ ?_
     refine Ae 2 rfl 1  (Eff.callA (vs := [.int .u64 ((numP H) : Int),.slice (Own.a own) ((cntP H)) (Own.c own)]) (.agg (bv (headF (numP H) (rowP H bs (cntP H))))) rfl Tryz.func102 rfl rfl kr (fun w1 h => by have h9 := jHead (numP H) (Own.a own) (Own.c own) (rowP H bs (cntP H)) (Own.o 101 (jv (rowP H bs (cntP H))) own) w1 hnl (inW_own hokc) (rowP_w hB H _) (by rw [rowP_len]; unfold maxLen; omega) (own_le hokc) (fun e he => (List.mem_cons.1 he).elim (fun h1 => h1 ▸ h.ro _ mH) (fun h1 => h.own e (show e ∈ ([(ib,Obj.cells (inC (aD H (16 + 2 * cntP H))) 196 (0,0)),(hx,Obj.cells (bv H) 37 (0,0))] ++ (Own.o 101 (jv (rowP H bs (cntP H))) own ++ [])) from (mR (mL h1))))) hK; rw [rowP_len] at h9; exact h9)) (fun _ _ => (.cons _ (.cons_cons _ (List.nil_sublist _)))) ?_
     rintro ⟨⟩ -
     refine CfgA.pure [4] [(dS (.bool ((headF (numP H) (rowP H bs (cntP H))) == H)))] (some [8,10,55]) (l' := (tF 5 0)) kr kr (.cons _ (.cons_cons _ (List.nil_sublist _))) 0 rfl (Γ' := [(55,[],.bool (!((headF (numP H) (rowP H bs (cntP H))) == H))),(10,[],.slice (Own.a own) ((cntP H)) (Own.c own)),(8,[],.int .u64 ((numP H) : Int))]) (nd := (fun S => [(∀ w1,S w1 → (Op.equal 37 (.agg (bv (headF (numP H) (rowP H bs (cntP H))))) (.agg (bv H))).run Tryz.prog w1 = .ok ((headF (numP H) (rowP H bs (cntP H))) == H) w1)])) (fun _ => kr) ⟨(fun _ _ => equal_bv Tryz.underlying37 Tryz.underlying5 kr (headF_len _ _) hH),trivial⟩ ?_
     refine CfgA.done kr ?_
     refine Cfg.cond rfl (b := (!((headF (numP H) (rowP H bs (cntP H))) == H))) kr (fun c4r => ?_) (fun c4r => ?_)
     ·have c4 : (((headF (numP H) (rowP H bs (cntP H))) == H) = false) := (notT c4r)
      refine Rg [4,5,6] [] n0 trivial ?_
      refine Cfg.ret rfl (rs := [.tmp 4,.tmp 5,.tmp 6]) rfl [.int .u64 0,.slice none 0 0,.bool false] ⟨kr,by kernel_rfl,by kernel_rfl,trivial⟩ (fun w1 hp => ?_)
      exact par_ret0 (par_no3 (by simpa using c4r)) hp
     ·have c4 : (((headF (numP H) (rowP H bs (cntP H))) == H) = true) := (notF c4r)
      refine Rg [4,5,6] [] n0 trivial ?_
      refine Cfg.ret rfl (rs := [.tmp 4,.tmp 5,.tmp 6]) rfl [.int .u64 ((numP H) : Int),.slice (Own.a own) ((cntP H)) (Own.c own),.bool true] ⟨kr,by kernel_rfl,by kernel_rfl,trivial⟩ (fun w1 hp => ?_)
      have hG : parG H bs = true := par_ok hmk om (by simpa using c4r)
      exact par_ret own hG hokc hp rfl
end Go.Proofs.YtfgdepggdiibdaaGreatDoor
