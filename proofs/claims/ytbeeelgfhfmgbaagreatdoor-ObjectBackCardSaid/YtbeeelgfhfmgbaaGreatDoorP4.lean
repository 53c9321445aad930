/- Texts on which the proof of this claim stands: So3, So4. -/
import Derived.Test.YtbeeelgfhfmgbaaGreatDoorP3
import Derived.Test.YtbeeelgfhfmgbaaGreatDoorP1
namespace Go.Proofs.YtbeeelgfhfmgbaaGreatDoor
open K
set_option linter.unusedVariables false
theorem upF_go0 {L : List Nat} {a j x : Nat} (h : x ≤ j) (h2 : L.getD x 0 < L.getD a 0) : upF L a false j (j + 1 - x) x = upF L a false j (j + 1 - (x + 1)) (x + 1) := by
 rw [show j + 1 - x = (j + 1 - (x + 1)) + 1 by omega,upF,if_pos ⟨h,decide_eq_true h2⟩]
theorem upF_st0 {L : List Nat} {a j x : Nat} (h : x ≤ j → ¬ L.getD x 0 < L.getD a 0) : upF L a false j (j + 1 - x) x = x := by
 cases hn : j + 1 - x with
 | zero => rfl
 | succ n => rw [upF]; exact if_neg (fun h9 => h h9.1 (dT h9.2))
theorem upF_go1 {L : List Nat} {a j x : Nat} (h : x ≤ j) (h2 : ¬ L.getD a 0 < L.getD x 0) : upF L a true j (j + 1 - x) x = upF L a true j (j + 1 - (x + 1)) (x + 1) := by
 rw [show j + 1 - x = (j + 1 - (x + 1)) + 1 by omega,upF,if_pos ⟨h,by simp only [cond_true]; rw [decide_eq_false h2]; rfl⟩]
theorem upF_st1 {L : List Nat} {a j x : Nat} (h : x ≤ j → L.getD a 0 < L.getD x 0) : upF L a true j (j + 1 - x) x = x := by
 cases hn : j + 1 - x with
 | zero => rfl
 | succ n => rw [upF]; exact if_neg (fun h9 => by have h8 := h9.2; simp only [cond_true] at h8; rw [decide_eq_true (h h9.1)] at h8; cases h8)
theorem dnF_go0 {L : List Nat} {a i y : Nat} (h : i ≤ y) (h0 : 0 < i) (h2 : ¬ L.getD y 0 < L.getD a 0) : dnF L a false i (y + 1 - i) y = dnF L a false i (y - 1 + 1 - i) (y - 1) := by
 rw [show y + 1 - i = (y - 1 + 1 - i) + 1 by omega,dnF,if_pos ⟨h,by simp only [cond_false]; rw [decide_eq_false h2]; rfl⟩]
theorem dnF_st0 {L : List Nat} {a i y : Nat} (h : i ≤ y → L.getD y 0 < L.getD a 0) : dnF L a false i (y + 1 - i) y = y := by
 cases hn : y + 1 - i with
 | zero => rfl
 | succ n => rw [dnF]; exact if_neg (fun h9 => by have h8 := h9.2; simp only [cond_false] at h8; rw [decide_eq_true (h h9.1)] at h8; cases h8)
theorem dnF_go1 {L : List Nat} {a i y : Nat} (h : i ≤ y) (h0 : 0 < i) (h2 : L.getD a 0 < L.getD y 0) : dnF L a true i (y + 1 - i) y = dnF L a true i (y - 1 + 1 - i) (y - 1) := by
 rw [show y + 1 - i = (y - 1 + 1 - i) + 1 by omega,dnF,if_pos ⟨h,decide_eq_true h2⟩]
theorem dnF_st1 {L : List Nat} {a i y : Nat} (h : i ≤ y → ¬ L.getD a 0 < L.getD y 0) : dnF L a true i (y + 1 - i) y = y := by
 cases hn : y + 1 - i with
 | zero => rfl
 | succ n => rw [dnF]; exact if_neg (fun h9 => h h9.1 (dT h9.2))
theorem parL_stop {a n i j I J : Nat} {e : Bool} {L : List Nat} (hI : I = upF L a e j (j + 1 - i) i) (hJ : J = dnF L a e I (j + 1 - I) j) (h0 : 0 < n) (h : J < I) : parL a e n i j L = (L,I,J) := by
 subst hI; subst hJ
 rw [show n = (n - 1) + 1 by omega,parL,if_pos h]
theorem parL_go {a n i j I J : Nat} {e : Bool} {L : List Nat} (hI : I = upF L a e j (j + 1 - i) i) (hJ : J = dnF L a e I (j + 1 - I) j) (h0 : 0 < n) (h : ¬ J < I) : parL a e n i j L = parL a e (n - 1) (I + 1) (J - 1) (swpN L I J) := by
 subst hI; subst hJ
 rw [show n = (n - 1) + 1 by omega,parL,if_neg h]; rfl
theorem scanF_go {L : List Nat} {b x : Nat} (h : x < b) (h2 : ¬ L.getD x 0 < L.getD (x - 1) 0) : scanF L b (b - x) x = scanF L b (b - (x + 1)) (x + 1) := by
 rw [show b - x = (b - (x + 1)) + 1 by omega,scanF,if_pos ⟨h,h2⟩]
theorem scanF_st {L : List Nat} {b x : Nat} (h : x < b → L.getD x 0 < L.getD (x - 1) 0) : scanF L b (b - x) x = x := by
 cases hn : b - x with
 | zero => rfl
 | succ n => rw [scanF]; exact if_neg (fun h9 => h9.2 (h h9.1))
theorem shrF_go {L : List Nat} {b x : Nat} (h : x < b) (h2 : L.getD x 0 < L.getD (x - 1) 0) : shrF b (b + 1 - x) x L = shrF b (b + 1 - (x + 1)) (x + 1) (swpN L x (x - 1)) := by
 rw [show b + 1 - x = (b + 1 - (x + 1)) + 1 by omega,shrF,if_pos h,if_pos h2]
theorem shrF_st {L : List Nat} {b x : Nat} (h : x < b → ¬ L.getD x 0 < L.getD (x - 1) 0) : shrF b (b + 1 - x) x L = L := by
 cases hn : b + 1 - x with
 | zero => rfl
 | succ n =>
  rw [shrF]; split
  ·rename_i h9; rw [if_neg (h h9)]
  ·rfl
set_option maxRecDepth 100000 in
set_option maxHeartbeats 4000000 in
theorem sPeq (bk cp : Nat) (jk : List Value) (L : List Nat) (a b p : Nat) (w : World) (hB : w.heap[bk]? = some (.cells (nv L ++ jk).toArray 73 (0,0))) (hL : L.length ≤ 1000000) (hb : b ≤ L.length) (hab : a + 1 < b) (hp1 : a ≤ p) (hp2 : p < b) :
  Calls Tryz.prog 120 #[.slice (some ⟨bk,0,none⟩) L.length cp,.int .i64 (a : Int),.int .i64 (b : Int),.int .i64 (p : Int)] w fun e w' => e = .returned (.int .i64 ((peqF L a b p).2 : Int)) ∧ Ext [bk] w w' ∧ w'.heap[bk]? = some (.cells (nv (peqF L a b p).1 ++ jk).toArray 73 (0,0)) := by
 refine enter [bk] [] [(bk,.cells ((nv L ++ jk).toArray) 73 (0,0))] Tryz.func120 rfl kr (HP.startM (R := []) (fun _ h => by cases h) hB (by simp)) ?_
 refine Rq [0,1,2,3] ?_
 refine Cfg.begA rfl kr [] ?_
 refine CfgA.join (ι := Unit) (fun (_ : Unit) => [(bk,.cells (((nv L ++ jk).toArray.setIfInBounds a (uN (L.getD p 0))).setIfInBounds p (uN (L.getD a 0))) 73 (0,0))]) (fun (_ : Unit) => [(0,[],.slice (some ⟨bk,0,none⟩) L.length cp),(1,[],iN a),(2,[],iN b)]) ?_ ?_
 ·rintro ⟨⟩
  refine oB 0 rfl (show _ = ((nv (swpN L a p) ++ jk).toArray) from nv_swp jk om om om om) ?_
  refine Rg [0,1,9,10] [] (fun _ => [(i6 ((a : Int) + 1)),(i6 ((b : Int) - 1))]) ⟨om,om,trivial⟩ ?_
  refine sI 10 (show ((b : Int) - 1) = (((b - 1) : Nat) : Int) from by omega) ?_
  refine Cfg.loop rfl (ι := Nat × Nat × List Nat × Nat) (fun (xz : Nat × Nat × List Nat × Nat) => match xz with | (i,j,L2,n9) => [(10,[],iN j),(9,[],iN i),(0,[],.slice (some ⟨bk,0,none⟩) L.length cp),(1,[],iN a)]) (fun (xz : Nat × Nat × List Nat × Nat) => match xz with | (i,j,L2,n9) => [(bk,.cells ((nv L2 ++ jk).toArray) 73 (0,0))]) (fun (xz : Nat × Nat × List Nat × Nat) => match xz with | (i,j,L2,n9) => (a + 1 ≤ i) ∧ (i ≤ b) ∧ (a ≤ j) ∧ (j < b) ∧ (L2.length = L.length) ∧ ((i ≤ j + 1 ∧ j + 2 ≤ n9 + i) ∨ (i ≤ j + 2 ∧ j + 3 ≤ n9 + i)) ∧ (parL a true n9 i j L2 = parL a true (b - a) (a + 1) (b - 1) (swpN L a p))) (fun (xz : Nat × Nat × List Nat × Nat) => match xz with | (i,j,L2,n9) => n9) (a + 1,b - 1,swpN L a p,b - a) ?_ (Conv.mk kr) (.cons_cons _ .slnil) ?_
  ·exact ⟨Nat.le_refl _,by omega,by omega,by omega,swpN_len ..,.inl om,rfl⟩
  ·rintro ⟨i,j,L2,n9⟩ ⟨hi1,hi2,hj1,hj2,hl2,hn,hra⟩
   obtain ⟨I1,hI1⟩ : ∃ x,x = upF L2 a true j (j + 1 - i) i := ⟨_,rfl⟩
   obtain ⟨J1,hJ1⟩ : ∃ x,x = dnF L2 a true I1 (j + 1 - I1) j := ⟨_,rfl⟩
   have hI1i := upF_in (L := L2) (a := a) (e := true) (j := j) (n := j + 1 - i) (i := i)
   rw [← hI1] at hI1i
   have hJ1i := dnF_in (L := L2) (a := a) (e := true) (i := I1) om (n := j + 1 - I1) (j := j)
   rw [← hJ1] at hJ1i
   refine Cfg.share rfl (ι := Unit) (fun _ => [(10,[],iN j),(9,[],iN I1),(0,[],.slice (some ⟨bk,0,none⟩) L.length cp),(1,[],iN a)]) (fun _ => [(bk,.cells ((nv L2 ++ jk).toArray) 73 (0,0))]) (fun _ => True) ?_ ?_
   ·rintro ⟨⟩ -
    refine Cfg.share rfl (ι := Unit) (fun _ => [(10,[],iN J1),(9,[],iN I1),(0,[],.slice (some ⟨bk,0,none⟩) L.length cp),(1,[],iN a)]) (fun _ => [(bk,.cells ((nv L2 ++ jk).toArray) 73 (0,0))]) (fun _ => True) ?_ ?_
    ·rintro ⟨⟩ -
     refine Rq [0,1,9,10,64] ?_
     refine Cfg.cond rfl (b := (decide ((I1 : Int) > (J1 : Int)))) kr (fun c1r => ?_) (fun c1r => ?_)
     ·have c1 := (dT c1r)
      refine Rq [8] ?_
      refine Cfg.ret rfl (rs := [.tmp 8]) rfl [iN I1] ⟨kr,trivial⟩ (fun w1 hp => ?_)
      have hfin : peqF L a b p = (L2,I1) := by unfold peqF; rw [← hra,parL_stop hI1 hJ1 om om]
      rw [hfin]
      exact ⟨rfl,hp.ext,hp.own (bk,_) mH⟩
     ·have c1 := (dF c1r)
      refine Cfg.begA rfl kr [] ?_
      refine CfgA.join (ι := Unit) (fun (_ : Unit) => [(bk,.cells (((nv L2 ++ jk).toArray.setIfInBounds I1 (uN (L2.getD J1 0))).setIfInBounds J1 (uN (L2.getD I1 0))) 73 (0,0))]) (fun (_ : Unit) => [(10,[],iN J1),(9,[],iN I1),(0,[],.slice (some ⟨bk,0,none⟩) L.length cp),(1,[],iN a)]) ?_ ?_
      ·rintro ⟨⟩
       refine oB 0 rfl (show _ = ((nv (swpN L2 I1 J1) ++ jk).toArray) from nv_swp jk om om om om) ?_
       refine Rg [0,1,9,10] [] (fun _ => [(i6 ((I1 : Int) + 1))]) ⟨om,trivial⟩ ?_
       refine Rg [0,1,9,10] [] (fun _ => [(i6 ((J1 : Int) - 1))]) ⟨om,trivial⟩ ?_
       refine sI 10 (show ((J1 : Int) - 1) = (((J1 - 1) : Nat) : Int) from by omega) ?_
       refine Cfg.again rfl (I1 + 1,J1 - 1,swpN L2 I1 J1,n9 - 1) ⟨by omega,by omega,by omega,by omega,by rw [swpN_len]; exact hl2,by omega,(parL_go hI1 hJ1 om om).symm.trans hra⟩ (by show n9 - 1 < n9; omega) (Conv.mk kr) (.cons_cons _ .slnil)
      ·intro hj
       refine CfgA.pure [0,1,2,3,4,5,6,8,9,10] [] (some [0,1,9,10,65,66,67,68,71,75]) (l' := (bF 1919 16)) kr kr (.cons _ .slnil) 6 rfl (Γ' := [(75,[],.pointer (some ⟨bk,I1,none⟩)),(71,[],.pointer (some ⟨bk,J1,none⟩)),(68,[],iN J1),(67,[],.slice (some ⟨bk,0,none⟩) L.length cp),(66,[],iN I1),(65,[],.slice (some ⟨bk,0,none⟩) L.length cp),(10,[],iN J1),(9,[],iN I1),(0,[],.slice (some ⟨bk,0,none⟩) L.length cp),(1,[],iN a)]) (nd := (fun _ => [(0 ≤ (J1 : Int) ∧ (J1 : Int) < (L.length : Int)),(0 ≤ (I1 : Int) ∧ (I1 : Int) < (L.length : Int))])) (fun _ => kr) ⟨om,om,trivial⟩ ?_
       refine CfgA.two 7 11 kr (fuel' := 5) rfl ?_ ?_
       ·
        refine Iu rfl  (Eff.quiet (raw := false) (orc := some (uN (L2.getD J1 0))) (v := uN (L2.getD J1 0)) (nd := (fun S => [(cE S bk J1 (uN (L2.getD J1 0)))])) (fun _ => kr) ⟨(fun w1 h => h.ocell 0 rfl (nv_at jk om om)),trivial⟩ kr) (fun _ _ => List.nil_sublist _) ?_
        refine Au 11 rfl 4  (Eff.quiet (raw := false) (orc := some (uN (L2.getD I1 0))) (v := uN (L2.getD I1 0)) (nd := (fun S => [(cE S bk I1 (uN (L2.getD I1 0)))])) (fun _ => kr) ⟨(fun w1 h => h.ocell 0 rfl (nv_at jk om om)),trivial⟩ kr) (fun _ _ => List.nil_sublist _) ?_
        refine Ap [12] [] (some [0,1,9,10,67,68,72,76,77]) (tF 13 3) (.cons _ .slnil) 3 (fun _ => [(0 ≤ (I1 : Int) ∧ (I1 : Int) < (L.length : Int))]) ⟨om,trivial⟩ ?_
        refine Au 13 rfl 2  (Eff.store1 (b := bk) (off := I1) (v := uN (L2.getD J1 0)) rfl kr kr rfl kr 0 (cs := (nv L2 ++ jk).toArray) (e := 73) kr (by rw [nv_size]; omega)) (fun _ _ => List.nil_sublist _) ?_
        refine Ap [14] [] (some [0,1,9,10,76,78]) (tF 15 1) (.cons _ .slnil) 1 (fun _ => [(0 ≤ (J1 : Int) ∧ (J1 : Int) < (L.length : Int))]) ⟨om,trivial⟩ ?_
        refine Au 15 rfl 0  (Eff.store1 (b := bk) (off := J1) (v := uN (L2.getD I1 0)) rfl kr kr rfl kr 0 (cs := ((nv L2 ++ jk).toArray.setIfInBounds I1 (uN (L2.getD J1 0)))) (e := 73) kr (by rw [Array.size_setIfInBounds,nv_size]; omega)) (fun _ _ => List.nil_sublist _) ?_
        refine CfgA.done kr ?_
        refine Cg (Γ' := [(10,[],iN J1),(9,[],iN I1),(0,[],.slice (some ⟨bk,0,none⟩) L.length cp),(1,[],iN a)]) ?_
        refine Cg (Γ' := [(10,[],iN J1),(9,[],iN I1),(0,[],.slice (some ⟨bk,0,none⟩) L.length cp),(1,[],iN a)]) ?_
        exact hj ()
       ·
        refine Iu rfl  (Eff.quiet (raw := false) (orc := some (uN (L2.getD I1 0))) (v := uN (L2.getD I1 0)) (nd := (fun S => [(cE S bk I1 (uN (L2.getD I1 0)))])) (fun _ => kr) ⟨(fun w1 h => h.ocell 0 rfl (nv_at jk om om)),trivial⟩ kr) (fun _ _ => List.nil_sublist _) ?_
        refine Au 7 rfl 4  (Eff.quiet (raw := false) (orc := some (uN (L2.getD J1 0))) (v := uN (L2.getD J1 0)) (nd := (fun S => [(cE S bk J1 (uN (L2.getD J1 0)))])) (fun _ => kr) ⟨(fun w1 h => h.ocell 0 rfl (nv_at jk om om)),trivial⟩ kr) (fun _ _ => List.nil_sublist _) ?_
        refine Ap [12] [] (some [0,1,9,10,67,68,72,76,77]) (tF 13 3) (.cons _ .slnil) 3 (fun _ => [(0 ≤ (I1 : Int) ∧ (I1 : Int) < (L.length : Int))]) ⟨om,trivial⟩ ?_
        refine Au 13 rfl 2  (Eff.store1 (b := bk) (off := I1) (v := uN (L2.getD J1 0)) rfl kr kr rfl kr 0 (cs := (nv L2 ++ jk).toArray) (e := 73) kr (by rw [nv_size]; omega)) (fun _ _ => List.nil_sublist _) ?_
        refine Ap [14] [] (some [0,1,9,10,76,78]) (tF 15 1) (.cons _ .slnil) 1 (fun _ => [(0 ≤ (J1 : Int) ∧ (J1 : Int) < (L.length : Int))]) ⟨om,trivial⟩ ?_
        refine Au 15 rfl 0  (Eff.store1 (b := bk) (off := J1) (v := uN (L2.getD I1 0)) rfl kr kr rfl kr 0 (cs := ((nv L2 ++ jk).toArray.setIfInBounds I1 (uN (L2.getD J1 0)))) (e := 73) kr (by rw [Array.size_setIfInBounds,nv_size]; omega)) (fun _ _ => List.nil_sublist _) ?_
        refine CfgA.done kr ?_
        refine Cg (Γ' := [(10,[],iN J1),(9,[],iN I1),(0,[],.slice (some ⟨bk,0,none⟩) L.length cp),(1,[],iN a)]) ?_
        refine Cg (Γ' := [(10,[],iN J1),(9,[],iN I1),(0,[],.slice (some ⟨bk,0,none⟩) L.length cp),(1,[],iN a)]) ?_
        exact hj ()
    ·intro hj1
     refine Cfg.loop rfl (ι := Nat) (fun (y : Nat) => [(10,[],iN y),(9,[],iN I1),(0,[],.slice (some ⟨bk,0,none⟩) L.length cp),(1,[],iN a)]) (fun (y : Nat) => [(bk,.cells ((nv L2 ++ jk).toArray) 73 (0,0))]) (fun (y : Nat) => (y ≤ j) ∧ (I1 ≤ y + 1 ∨ y = j) ∧ (dnF L2 a true I1 (y + 1 - I1) y = J1)) (fun (y : Nat) => y) j ?_ (Conv.mk kr) (.cons_cons _ .slnil) ?_
     ·exact ⟨Nat.le_refl _,.inr rfl,hJ1.symm⟩
     ·rintro y ⟨hy1,hy2,hye⟩
      refine Cfg.begA rfl kr [(bk,.cells ((nv L2 ++ jk).toArray) 73 (0,0))] ?_
      refine Ap [0,1,2,3] [] (some [0,1,9,10,49]) (tF 4 10) (.cons_cons _ .slnil) 10 n0 trivial ?_
      by_cases c2 : (decide ((I1 : Int) ≤ (y : Int))) = true
      ·have c2k : (decide ((I1 : Int) ≤ (y : Int))) = true := c2
       have c2q := (dT c2k)
       refine CfgA.known 49 (b := (decide ((I1 : Int) ≤ (y : Int)))) kr true c2k ?_
       refine Ap [4,5,6,7,8,9,10,11] [(1,false,none),(1,false,none),(1,false,none),(1,false,some (uN (L2.getD a 0))),(1,false,none),(1,false,none),(1,false,none),(1,false,some (uN (L2.getD y 0)))] (some [0,1,9,10,49,53,57]) (tF 12 2) (.cons_cons _ .slnil) 2 (fun S => [((.bool true : Value) = .bool true),((.bool true : Value) = .bool true),((.bool true : Value) = .bool true),(0 ≤ (a : Int) ∧ (a : Int) < (L.length : Int)),((.bool true : Value) = .bool true),(cE S bk a (uN (L2.getD a 0))),((.bool true : Value) = .bool true),((.bool true : Value) = .bool true),((.bool true : Value) = .bool true),(0 ≤ (y : Int) ∧ (y : Int) < (L.length : Int)),((.bool true : Value) = .bool true),(cE S bk y (uN (L2.getD y 0)))]) ⟨rfl,rfl,rfl,om,rfl,(fun w1 h => h.ocell 0 rfl (nv_at jk om om)),rfl,rfl,rfl,om,rfl,(fun w1 h => h.ocell 0 rfl (nv_at jk om om)),trivial⟩ ?_
       refine Au 12 rfl 1  (Eff.callA (.bool (decide (((L2.getD a 0) : Int) < ((L2.getD y 0) : Int)))) rfl Tryz.func119 rfl rfl kr (fun w1 _ => cLess ((L2.getD a 0)) ((L2.getD y 0)) w1)) (fun _ _ => (.cons_cons _ .slnil)) ?_
       refine Ap [13] [] (some [0,1,9,10,59]) (tF 14 0) (.cons_cons _ .slnil) 0 n0 trivial ?_
       refine CfgA.done kr ?_
       refine Cfg.cond rfl (b := (decide (((L2.getD a 0) : Int) < ((L2.getD y 0) : Int)))) kr (fun c3r => ?_) (fun c3r => ?_)
       ·have c3 := (dT c3r)
        refine Rg [0,1,9,10] [] (fun _ => [(i6 ((y : Int) - 1))]) ⟨om,trivial⟩ ?_
        refine sI 10 (show ((y : Int) - 1) = (((y - 1) : Nat) : Int) from by omega) ?_
        refine Cfg.again rfl (y - 1) ⟨by omega,by omega,(dnF_go1 om om om).symm.trans hye⟩ (by show y - 1 < y; omega) (Conv.mk kr) (.cons_cons _ .slnil)
       ·have c3 := (dF c3r)
        refine sI 10 (show (y : Int) = (J1 : Int) from congrArg Int.ofNat (show y = J1 from (dnF_st1 (fun _ => by omega)).symm.trans hye)) ?_
        exact Cfg.joinS hj1 () trivial rfl (Conv.mk kr) (.cons_cons _ .slnil)
      ·have c2k : (decide ((I1 : Int) ≤ (y : Int))) = false := (by simpa using c2)
       have c2q := (dF c2k)
       refine CfgA.known 49 (b := (decide ((I1 : Int) ≤ (y : Int)))) kr false c2k ?_
       refine Ap [4,5,6,7,8,9,10,11,12,13] [(2,false,none),(2,false,none),(2,false,none),(2,false,none),(2,false,none),(2,false,none),(2,false,none),(2,false,none),(2,false,none)] (some [0,1,9,10,59]) (tF 14 0) (.cons_cons _ .slnil) 0 (fun _ => [((.bool false : Value) ≠ .bool true),((.bool false : Value) ≠ .bool true),((.bool false : Value) ≠ .bool true),((.bool false : Value) ≠ .bool true),((.bool false : Value) ≠ .bool true),((.bool false : Value) ≠ .bool true),((.bool false : Value) ≠ .bool true),((.bool false : Value) ≠ .bool true),((.bool false : Value) ≠ .bool true)]) ⟨(by simp),(by simp),(by simp),(by simp),(by simp),(by simp),(by simp),(by simp),(by simp),trivial⟩ ?_
       refine CfgA.done kr ?_
       refine Cfg.condF rfl (b := false) kr rfl ?_
       refine sI 10 (show (y : Int) = (J1 : Int) from congrArg Int.ofNat (show y = J1 from (dnF_st1 (fun _ => by omega)).symm.trans hye)) ?_
       exact Cfg.joinS hj1 () trivial rfl (Conv.mk kr) (.cons_cons _ .slnil)
   ·intro hj2
    refine Cfg.loop rfl (ι := Nat) (fun (x : Nat) => [(10,[],iN j),(9,[],iN x),(0,[],.slice (some ⟨bk,0,none⟩) L.length cp),(1,[],iN a)]) (fun (x : Nat) => [(bk,.cells ((nv L2 ++ jk).toArray) 73 (0,0))]) (fun (x : Nat) => (i ≤ x) ∧ (x ≤ j + 1 ∨ x = i) ∧ (upF L2 a true j (j + 1 - x) x = I1)) (fun (x : Nat) => j + 1 - x) i ?_ (Conv.mk kr) (.cons_cons _ .slnil) ?_
    ·exact ⟨Nat.le_refl _,.inr rfl,hI1.symm⟩
    ·rintro x ⟨hx1,hx2,hxe⟩
     refine Cfg.begA rfl kr [(bk,.cells ((nv L2 ++ jk).toArray) 73 (0,0))] ?_
     refine Ap [0,1,2,3] [] (some [0,1,9,10,32]) (tF 4 11) (.cons_cons _ .slnil) 11 n0 trivial ?_
     by_cases c5 : (decide ((x : Int) ≤ (j : Int))) = true
     ·have c5k : (decide ((x : Int) ≤ (j : Int))) = true := c5
      have c5q := (dT c5k)
      refine CfgA.known 32 (b := (decide ((x : Int) ≤ (j : Int)))) kr true c5k ?_
      refine Ap [4,5,6,7,8,9,10,11] [(1,false,none),(1,false,none),(1,false,none),(1,false,some (uN (L2.getD a 0))),(1,false,none),(1,false,none),(1,false,none),(1,false,some (uN (L2.getD x 0)))] (some [0,1,9,10,32,36,40]) (tF 12 3) (.cons_cons _ .slnil) 3 (fun S => [((.bool true : Value) = .bool true),((.bool true : Value) = .bool true),((.bool true : Value) = .bool true),(0 ≤ (a : Int) ∧ (a : Int) < (L.length : Int)),((.bool true : Value) = .bool true),(cE S bk a (uN (L2.getD a 0))),((.bool true : Value) = .bool true),((.bool true : Value) = .bool true),((.bool true : Value) = .bool true),(0 ≤ (x : Int) ∧ (x : Int) < (L.length : Int)),((.bool true : Value) = .bool true),(cE S bk x (uN (L2.getD x 0)))]) ⟨rfl,rfl,rfl,om,rfl,(fun w1 h => h.ocell 0 rfl (nv_at jk om om)),rfl,rfl,rfl,om,rfl,(fun w1 h => h.ocell 0 rfl (nv_at jk om om)),trivial⟩ ?_
      refine Au 12 rfl 2  (Eff.callA (.bool (decide (((L2.getD a 0) : Int) < ((L2.getD x 0) : Int)))) rfl Tryz.func119 rfl rfl kr (fun w1 _ => cLess ((L2.getD a 0)) ((L2.getD x 0)) w1)) (fun _ _ => (.cons_cons _ .slnil)) ?_
      refine Ap [13,14] [(1,false,none)] (some [0,1,9,10,43]) (tF 15 0) (.cons_cons _ .slnil) 0 (fun _ => [((.bool true : Value) = .bool true)]) ⟨rfl,trivial⟩ ?_
      refine CfgA.done kr ?_
      refine Cfg.cond rfl (b := (!(decide (((L2.getD a 0) : Int) < ((L2.getD x 0) : Int))))) kr (fun c6r => ?_) (fun c6r => ?_)
      ·have c6 := (dF (notT c6r))
       refine Rg [0,1,9,10] [] (fun _ => [(i6 ((x : Int) + 1))]) ⟨om,trivial⟩ ?_
       refine Cfg.again rfl (x + 1) ⟨by omega,by omega,(upF_go1 om om).symm.trans hxe⟩ (by show j + 1 - (x + 1) < j + 1 - x; omega) (Conv.mk kr) (.cons_cons _ .slnil)
      ·have c6 := (dT (notF c6r))
       refine sI 9 (show (x : Int) = (I1 : Int) from congrArg Int.ofNat (show x = I1 from (upF_st1 (fun _ => by omega)).symm.trans hxe)) ?_
       exact Cfg.joinS hj2 () trivial rfl (Conv.mk kr) (.cons_cons _ .slnil)
     ·have c5k : (decide ((x : Int) ≤ (j : Int))) = false := (by simpa using c5)
      have c5q := (dF c5k)
      refine CfgA.known 32 (b := (decide ((x : Int) ≤ (j : Int)))) kr false c5k ?_
      refine Ap [4,5,6,7,8,9,10,11,12,13,14] [(2,false,none),(2,false,none),(2,false,none),(2,false,none),(2,false,none),(2,false,none),(2,false,none),(2,false,none),(2,false,none),(2,false,none)] (some [0,1,9,10,43]) (tF 15 0) (.cons_cons _ .slnil) 0 (fun _ => [((.bool false : Value) ≠ .bool true),((.bool false : Value) ≠ .bool true),((.bool false : Value) ≠ .bool true),((.bool false : Value) ≠ .bool true),((.bool false : Value) ≠ .bool true),((.bool false : Value) ≠ .bool true),((.bool false : Value) ≠ .bool true),((.bool false : Value) ≠ .bool true),((.bool false : Value) ≠ .bool true),((.bool false : Value) ≠ .bool true)]) ⟨(by simp),(by simp),(by simp),(by simp),(by simp),(by simp),(by simp),(by simp),(by simp),(by simp),trivial⟩ ?_
      refine CfgA.done kr ?_
      refine Cfg.condF rfl (b := false) kr rfl ?_
      refine sI 9 (show (x : Int) = (I1 : Int) from congrArg Int.ofNat (show x = I1 from (upF_st1 (fun _ => by omega)).symm.trans hxe)) ?_
      exact Cfg.joinS hj2 () trivial rfl (Conv.mk kr) (.cons_cons _ .slnil)
 ·intro hj
  refine CfgA.pure [0,1,2,3,4,5,6,8,9,10] [] (some [0,1,2,11,12,13,14,17,21]) (l' := (bF 1919 16)) kr kr (.cons _ .slnil) 6 rfl (Γ' := [(21,[],.pointer (some ⟨bk,a,none⟩)),(17,[],.pointer (some ⟨bk,p,none⟩)),(14,[],iN p),(13,[],.slice (some ⟨bk,0,none⟩) L.length cp),(12,[],iN a),(11,[],.slice (some ⟨bk,0,none⟩) L.length cp),(0,[],.slice (some ⟨bk,0,none⟩) L.length cp),(1,[],iN a),(2,[],iN b)]) (nd := (fun _ => [(0 ≤ (p : Int) ∧ (p : Int) < (L.length : Int)),(0 ≤ (a : Int) ∧ (a : Int) < (L.length : Int))])) (fun _ => kr) ⟨om,om,trivial⟩ ?_
  refine CfgA.two 7 11 kr (fuel' := 5) rfl ?_ ?_
  ·
   refine Iu rfl  (Eff.quiet (raw := false) (orc := some (uN (L.getD p 0))) (v := uN (L.getD p 0)) (nd := (fun S => [(cE S bk p (uN (L.getD p 0)))])) (fun _ => kr) ⟨(fun w1 h => h.ocell 0 rfl (nv_at jk om om)),trivial⟩ kr) (fun _ _ => List.nil_sublist _) ?_
   refine Au 11 rfl 4  (Eff.quiet (raw := false) (orc := some (uN (L.getD a 0))) (v := uN (L.getD a 0)) (nd := (fun S => [(cE S bk a (uN (L.getD a 0)))])) (fun _ => kr) ⟨(fun w1 h => h.ocell 0 rfl (nv_at jk om om)),trivial⟩ kr) (fun _ _ => List.nil_sublist _) ?_
   refine Ap [12] [] (some [0,1,2,13,14,18,22,23]) (tF 13 3) (.cons _ .slnil) 3 (fun _ => [(0 ≤ (a : Int) ∧ (a : Int) < (L.length : Int))]) ⟨om,trivial⟩ ?_
   refine Au 13 rfl 2  (Eff.store1 (b := bk) (off := a) (v := uN (L.getD p 0)) rfl kr kr rfl kr 0 (cs := (nv L ++ jk).toArray) (e := 73) kr (by rw [nv_size]; omega)) (fun _ _ => List.nil_sublist _) ?_
   refine Ap [14] [] (some [0,1,2,22,24]) (tF 15 1) (.cons _ .slnil) 1 (fun _ => [(0 ≤ (p : Int) ∧ (p : Int) < (L.length : Int))]) ⟨om,trivial⟩ ?_
   refine Au 15 rfl 0  (Eff.store1 (b := bk) (off := p) (v := uN (L.getD a 0)) rfl kr kr rfl kr 0 (cs := ((nv L ++ jk).toArray.setIfInBounds a (uN (L.getD p 0)))) (e := 73) kr (by rw [Array.size_setIfInBounds,nv_size]; omega)) (fun _ _ => List.nil_sublist _) ?_
   refine CfgA.done kr ?_
   refine Cg (Γ' := [(0,[],.slice (some ⟨bk,0,none⟩) L.length cp),(1,[],iN a),(2,[],iN b)]) ?_
   refine Cg (Γ' := [(0,[],.slice (some ⟨bk,0,none⟩) L.length cp),(1,[],iN a),(2,[],iN b)]) ?_
   exact hj ()
  ·
   refine Iu rfl  (Eff.quiet (raw := false) (orc := some (uN (L.getD a 0))) (v := uN (L.getD a 0)) (nd := (fun S => [(cE S bk a (uN (L.getD a 0)))])) (fun _ => kr) ⟨(fun w1 h => h.ocell 0 rfl (nv_at jk om om)),trivial⟩ kr) (fun _ _ => List.nil_sublist _) ?_
   refine Au 7 rfl 4  (Eff.quiet (raw := false) (orc := some (uN (L.getD p 0))) (v := uN (L.getD p 0)) (nd := (fun S => [(cE S bk p (uN (L.getD p 0)))])) (fun _ => kr) ⟨(fun w1 h => h.ocell 0 rfl (nv_at jk om om)),trivial⟩ kr) (fun _ _ => List.nil_sublist _) ?_
   refine Ap [12] [] (some [0,1,2,13,14,18,22,23]) (tF 13 3) (.cons _ .slnil) 3 (fun _ => [(0 ≤ (a : Int) ∧ (a : Int) < (L.length : Int))]) ⟨om,trivial⟩ ?_
   refine Au 13 rfl 2  (Eff.store1 (b := bk) (off := a) (v := uN (L.getD p 0)) rfl kr kr rfl kr 0 (cs := (nv L ++ jk).toArray) (e := 73) kr (by rw [nv_size]; omega)) (fun _ _ => List.nil_sublist _) ?_
   refine Ap [14] [] (some [0,1,2,22,24]) (tF 15 1) (.cons _ .slnil) 1 (fun _ => [(0 ≤ (p : Int) ∧ (p : Int) < (L.length : Int))]) ⟨om,trivial⟩ ?_
   refine Au 15 rfl 0  (Eff.store1 (b := bk) (off := p) (v := uN (L.getD a 0)) rfl kr kr rfl kr 0 (cs := ((nv L ++ jk).toArray.setIfInBounds a (uN (L.getD p 0)))) (e := 73) kr (by rw [Array.size_setIfInBounds,nv_size]; omega)) (fun _ _ => List.nil_sublist _) ?_
   refine CfgA.done kr ?_
   refine Cg (Γ' := [(0,[],.slice (some ⟨bk,0,none⟩) L.length cp),(1,[],iN a),(2,[],iN b)]) ?_
   refine Cg (Γ' := [(0,[],.slice (some ⟨bk,0,none⟩) L.length cp),(1,[],iN a),(2,[],iN b)]) ?_
   exact hj ()
set_option maxRecDepth 100000 in
set_option maxHeartbeats 4000000 in
theorem sPart (bk cp : Nat) (jk : List Value) (L : List Nat) (a b p : Nat) (w : World) (hB : w.heap[bk]? = some (.cells (nv L ++ jk).toArray 73 (0,0))) (hL : L.length ≤ 1000000) (hb : b ≤ L.length) (hab : a + 1 < b) (hp1 : a ≤ p) (hp2 : p < b) :
  Calls Tryz.prog 121 #[.slice (some ⟨bk,0,none⟩) L.length cp,.int .i64 (a : Int),.int .i64 (b : Int),.int .i64 (p : Int)] w fun e w' => e = .returned (.tuple #[.int .i64 ((partF L a b p).2.1 : Int),.bool (partF L a b p).2.2]) ∧ Ext [bk] w w' ∧ w'.heap[bk]? = some (.cells (nv (partF L a b p).1 ++ jk).toArray 73 (0,0)) := by
 obtain ⟨L1,hL1⟩ : ∃ L1,L1 = swpN L a p := ⟨_,rfl⟩
 have hl1 : L1.length = L.length := by rw [hL1,swpN_len]
 obtain ⟨I0,hI0⟩ : ∃ x,x = upF L1 a false (b - 1) ((b - 1) + 1 - (a + 1)) (a + 1) := ⟨_,rfl⟩
 obtain ⟨J0,hJ0⟩ : ∃ x,x = dnF L1 a false I0 ((b - 1) + 1 - I0) (b - 1) := ⟨_,rfl⟩
 have hI0i := upF_in (L := L1) (a := a) (e := false) (j := (b - 1)) (n := (b - 1) + 1 - (a + 1)) (i := (a + 1))
 rw [← hI0] at hI0i
 have hJ0i := dnF_in (L := L1) (a := a) (e := false) (i := I0) om (n := (b - 1) + 1 - I0) (j := (b - 1))
 rw [← hJ0] at hJ0i
 refine enter [bk] [] [(bk,.cells ((nv L ++ jk).toArray) 73 (0,0))] Tryz.func121 rfl kr (HP.startM (R := []) (fun _ h => by cases h) hB (by simp)) ?_
 refine Rq [0,1,2,3] ?_
 refine Cfg.begA rfl kr [] ?_
 refine CfgA.join (ι := Unit) (fun (_ : Unit) => [(bk,.cells (((nv L ++ jk).toArray.setIfInBounds a (uN (L.getD p 0))).setIfInBounds p (uN (L.getD a 0))) 73 (0,0))]) (fun (_ : Unit) => [(0,[],.slice (some ⟨bk,0,none⟩) L.length cp),(1,[],iN a),(2,[],iN b)]) ?_ ?_
 ·rintro ⟨⟩
  refine oB 0 rfl (show _ = ((nv (swpN L a p) ++ jk).toArray) from nv_swp jk om om om om) ?_
  refine oB 0 rfl (show _ = ((nv L1 ++ jk).toArray) from by rw [hL1]) ?_
  refine Rg [0,1,10,11] [] (fun _ => [(i6 ((a : Int) + 1)),(i6 ((b : Int) - 1))]) ⟨om,om,trivial⟩ ?_
  refine sI 10 (show ((a : Int) + 1) = (((a + 1) : Nat) : Int) from by omega) ?_
  refine sI 11 (show ((b : Int) - 1) = (((b - 1) : Nat) : Int) from by omega) ?_
  refine Cfg.share rfl (ι := Unit) (fun _ => [(11,[],iN ((b - 1))),(10,[],iN I0),(0,[],.slice (some ⟨bk,0,none⟩) L.length cp),(1,[],iN a)]) (fun _ => [(bk,.cells ((nv L1 ++ jk).toArray) 73 (0,0))]) (fun _ => True) ?_ ?_
  ·rintro ⟨⟩ -
   refine Cfg.share rfl (ι := Unit) (fun _ => [(11,[],iN J0),(10,[],iN I0),(0,[],.slice (some ⟨bk,0,none⟩) L.length cp),(1,[],iN a)]) (fun _ => [(bk,.cells ((nv L1 ++ jk).toArray) 73 (0,0))]) (fun _ => True) ?_ ?_
   ·rintro ⟨⟩ -
    refine Rq [0,1,10,11,65] ?_
    refine Cfg.cond rfl (b := (decide ((I0 : Int) > (J0 : Int)))) kr (fun c1r => ?_) (fun c1r => ?_)
    ·have c1 := (dT c1r)
     refine Cfg.begA rfl kr [] ?_
     refine CfgA.join (ι := Unit) (fun (_ : Unit) => [(bk,.cells (((nv L1 ++ jk).toArray.setIfInBounds J0 (uN (L1.getD a 0))).setIfInBounds a (uN (L1.getD J0 0))) 73 (0,0))]) (fun (_ : Unit) => [(11,[],iN J0)]) ?_ ?_
     ·rintro ⟨⟩
      refine oB 0 rfl (show _ = ((nv (swpN L1 J0 a) ++ jk).toArray) from nv_swp jk om om om om) ?_
      refine Rq [8,9] ?_
      refine Cfg.ret rfl (rs := [.tmp 8,.tmp 9]) rfl [iN J0,.bool true] ⟨kr,by kernel_rfl,trivial⟩ (fun w1 hp => ?_)
      have hfin : partF L a b p = (swpN L1 J0 a,J0,true) := by unfold partF; simp only; rw [← hL1,← hI0,← hJ0,if_pos om]
      rw [hfin]
      exact ⟨rfl,hp.ext,hp.own (bk,_) mH⟩
     ·intro hj
      refine CfgA.pure [0,1,2,3,4,5,6,8,9,10] [] (some [11,66,67,68,69,72,76]) (l' := (bF 1919 16)) kr kr (.cons _ .slnil) 6 rfl (Γ' := [(76,[],.pointer (some ⟨bk,J0,none⟩)),(72,[],.pointer (some ⟨bk,a,none⟩)),(69,[],iN a),(68,[],.slice (some ⟨bk,0,none⟩) L.length cp),(67,[],iN J0),(66,[],.slice (some ⟨bk,0,none⟩) L.length cp),(11,[],iN J0)]) (nd := (fun _ => [(0 ≤ (a : Int) ∧ (a : Int) < (L.length : Int)),(0 ≤ (J0 : Int) ∧ (J0 : Int) < (L.length : Int))])) (fun _ => kr) ⟨om,om,trivial⟩ ?_
      refine CfgA.two 7 11 kr (fuel' := 5) rfl ?_ ?_
      ·
       refine Iu rfl  (Eff.quiet (raw := false) (orc := some (uN (L1.getD a 0))) (v := uN (L1.getD a 0)) (nd := (fun S => [(cE S bk a (uN (L1.getD a 0)))])) (fun _ => kr) ⟨(fun w1 h => h.ocell 0 rfl (nv_at jk om om)),trivial⟩ kr) (fun _ _ => List.nil_sublist _) ?_
       refine Au 11 rfl 4  (Eff.quiet (raw := false) (orc := some (uN (L1.getD J0 0))) (v := uN (L1.getD J0 0)) (nd := (fun S => [(cE S bk J0 (uN (L1.getD J0 0)))])) (fun _ => kr) ⟨(fun w1 h => h.ocell 0 rfl (nv_at jk om om)),trivial⟩ kr) (fun _ _ => List.nil_sublist _) ?_
       refine Ap [12] [] (some [11,68,69,73,77,78]) (tF 13 3) (.cons _ .slnil) 3 (fun _ => [(0 ≤ (J0 : Int) ∧ (J0 : Int) < (L.length : Int))]) ⟨om,trivial⟩ ?_
       refine Au 13 rfl 2  (Eff.store1 (b := bk) (off := J0) (v := uN (L1.getD a 0)) rfl kr kr rfl kr 0 (cs := (nv L1 ++ jk).toArray) (e := 73) kr (by rw [nv_size]; omega)) (fun _ _ => List.nil_sublist _) ?_
       refine Ap [14] [] (some [11,77,79]) (tF 15 1) (.cons _ .slnil) 1 (fun _ => [(0 ≤ (a : Int) ∧ (a : Int) < (L.length : Int))]) ⟨om,trivial⟩ ?_
       refine Au 15 rfl 0  (Eff.store1 (b := bk) (off := a) (v := uN (L1.getD J0 0)) rfl kr kr rfl kr 0 (cs := ((nv L1 ++ jk).toArray.setIfInBounds J0 (uN (L1.getD a 0)))) (e := 73) kr (by rw [Array.size_setIfInBounds,nv_size]; omega)) (fun _ _ => List.nil_sublist _) ?_
       refine CfgA.done kr ?_
       refine Cg (Γ' := [(11,[],iN J0)]) ?_
       refine Cg (Γ' := [(11,[],iN J0)]) ?_
       exact hj ()
      ·
       refine Iu rfl  (Eff.quiet (raw := false) (orc := some (uN (L1.getD J0 0))) (v := uN (L1.getD J0 0)) (nd := (fun S => [(cE S bk J0 (uN (L1.getD J0 0)))])) (fun _ => kr) ⟨(fun w1 h => h.ocell 0 rfl (nv_at jk om om)),trivial⟩ kr) (fun _ _ => List.nil_sublist _) ?_
       refine Au 7 rfl 4  (Eff.quiet (raw := false) (orc := some (uN (L1.getD a 0))) (v := uN (L1.getD a 0)) (nd := (fun S => [(cE S bk a (uN (L1.getD a 0)))])) (fun _ => kr) ⟨(fun w1 h => h.ocell 0 rfl (nv_at jk om om)),trivial⟩ kr) (fun _ _ => List.nil_sublist _) ?_
       refine Ap [12] [] (some [11,68,69,73,77,78]) (tF 13 3) (.cons _ .slnil) 3 (fun _ => [(0 ≤ (J0 : Int) ∧ (J0 : Int) < (L.length : Int))]) ⟨om,trivial⟩ ?_
       refine Au 13 rfl 2  (Eff.store1 (b := bk) (off := J0) (v := uN (L1.getD a 0)) rfl kr kr rfl kr 0 (cs := (nv L1 ++ jk).toArray) (e := 73) kr (by rw [nv_size]; omega)) (fun _ _ => List.nil_sublist _) ?_
       refine Ap [14] [] (some [11,77,79]) (tF 15 1) (.cons _ .slnil) 1 (fun _ => [(0 ≤ (a : Int) ∧ (a : Int) < (L.length : Int))]) ⟨om,trivial⟩ ?_
       refine Au 15 rfl 0  (Eff.store1 (b := bk) (off := a) (v := uN (L1.getD J0 0)) rfl kr kr rfl kr 0 (cs := ((nv L1 ++ jk).toArray.setIfInBounds J0 (uN (L1.getD a 0)))) (e := 73) kr (by rw [Array.size_setIfInBounds,nv_size]; omega)) (fun _ _ => List.nil_sublist _) ?_
       refine CfgA.done kr ?_
       refine Cg (Γ' := [(11,[],iN J0)]) ?_
       refine Cg (Γ' := [(11,[],iN J0)]) ?_
       exact hj ()
    ·have c1 := (dF c1r)
     refine Cfg.begA rfl kr [] ?_
     refine CfgA.join (ι := Unit) (fun (_ : Unit) => [(bk,.cells (((nv L1 ++ jk).toArray.setIfInBounds I0 (uN (L1.getD J0 0))).setIfInBounds J0 (uN (L1.getD I0 0))) 73 (0,0))]) (fun (_ : Unit) => [(11,[],iN J0),(10,[],iN I0),(0,[],.slice (some ⟨bk,0,none⟩) L.length cp),(1,[],iN a)]) ?_ ?_
     ·rintro ⟨⟩
      refine oB 0 rfl (show _ = ((nv (swpN L1 I0 J0) ++ jk).toArray) from nv_swp jk om om om om) ?_
      refine Rg [0,1,10,11] [] (fun _ => [(i6 ((I0 : Int) + 1))]) ⟨om,trivial⟩ ?_
      refine Rg [0,1,10,11] [] (fun _ => [(i6 ((J0 : Int) - 1))]) ⟨om,trivial⟩ ?_
      refine sI 10 (show ((I0 : Int) + 1) = (((I0 + 1) : Nat) : Int) from by omega) ?_
      refine sI 11 (show ((J0 : Int) - 1) = (((J0 - 1) : Nat) : Int) from by omega) ?_
      refine Cfg.loop rfl (ι := Nat × Nat × List Nat × Nat) (fun (xz : Nat × Nat × List Nat × Nat) => match xz with | (i,j,L2,n9) => [(11,[],iN j),(10,[],iN i),(0,[],.slice (some ⟨bk,0,none⟩) L.length cp),(1,[],iN a)]) (fun (xz : Nat × Nat × List Nat × Nat) => match xz with | (i,j,L2,n9) => [(bk,.cells ((nv L2 ++ jk).toArray) 73 (0,0))]) (fun (xz : Nat × Nat × List Nat × Nat) => match xz with | (i,j,L2,n9) => (a + 1 ≤ i) ∧ (i ≤ b) ∧ (a ≤ j) ∧ (j < b) ∧ (L2.length = L.length) ∧ ((i ≤ j + 1 ∧ j + 2 ≤ n9 + i) ∨ (i ≤ j + 2 ∧ j + 3 ≤ n9 + i)) ∧ (parL a false n9 i j L2 = parL a false (b - a) (I0 + 1) (J0 - 1) (swpN L1 I0 J0))) (fun (xz : Nat × Nat × List Nat × Nat) => match xz with | (i,j,L2,n9) => n9) (I0 + 1,J0 - 1,swpN L1 I0 J0,b - a) ?_ (Conv.mk kr) (.cons_cons _ .slnil) ?_
      ·exact ⟨by omega,by omega,by omega,by omega,by rw [swpN_len]; exact hl1,by omega,rfl⟩
      ·rintro ⟨i,j,L2,n9⟩ ⟨hi1,hi2,hj1,hj2,hl2,hn,hra⟩
       obtain ⟨I1,hI1⟩ : ∃ x,x = upF L2 a false j (j + 1 - i) i := ⟨_,rfl⟩
       obtain ⟨J1,hJ1⟩ : ∃ x,x = dnF L2 a false I1 (j + 1 - I1) j := ⟨_,rfl⟩
       have hI1i := upF_in (L := L2) (a := a) (e := false) (j := j) (n := j + 1 - i) (i := i)
       rw [← hI1] at hI1i
       have hJ1i := dnF_in (L := L2) (a := a) (e := false) (i := I1) om (n := j + 1 - I1) (j := j)
       rw [← hJ1] at hJ1i
       refine Cfg.share rfl (ι := Unit) (fun _ => [(11,[],iN j),(10,[],iN I1),(0,[],.slice (some ⟨bk,0,none⟩) L.length cp),(1,[],iN a)]) (fun _ => [(bk,.cells ((nv L2 ++ jk).toArray) 73 (0,0))]) (fun _ => True) ?_ ?_
       ·rintro ⟨⟩ -
        refine Cfg.share rfl (ι := Unit) (fun _ => [(11,[],iN J1),(10,[],iN I1),(0,[],.slice (some ⟨bk,0,none⟩) L.length cp),(1,[],iN a)]) (fun _ => [(bk,.cells ((nv L2 ++ jk).toArray) 73 (0,0))]) (fun _ => True) ?_ ?_
        ·rintro ⟨⟩ -
         refine Rq [0,1,10,11,134] ?_
         refine Cfg.cond rfl (b := (decide ((I1 : Int) > (J1 : Int)))) kr (fun c2r => ?_) (fun c2r => ?_)
         ·have c2 := (dT c2r)
          refine Cfg.begA rfl kr [] ?_
          refine CfgA.join (ι := Unit) (fun (_ : Unit) => [(bk,.cells (((nv L2 ++ jk).toArray.setIfInBounds J1 (uN (L2.getD a 0))).setIfInBounds a (uN (L2.getD J1 0))) 73 (0,0))]) (fun (_ : Unit) => [(11,[],iN J1)]) ?_ ?_
          ·rintro ⟨⟩
           refine oB 0 rfl (show _ = ((nv (swpN L2 J1 a) ++ jk).toArray) from nv_swp jk om om om om) ?_
           refine Rq [8,9] ?_
           refine Cfg.ret rfl (rs := [.tmp 8,.tmp 9]) rfl [iN J1,.bool false] ⟨kr,by kernel_rfl,trivial⟩ (fun w1 hp => ?_)
           have hfin : partF L a b p = (swpN L2 J1 a,J1,false) := by unfold partF; simp only; rw [← hL1,← hI0,← hJ0,if_neg om,← hra,parL_stop hI1 hJ1 om om]
           rw [hfin]
           exact ⟨rfl,hp.ext,hp.own (bk,_) mH⟩
          ·intro hj
           refine CfgA.pure [0,1,2,3,4,5,6,8,9,10] [] (some [11,153,154,155,156,159,163]) (l' := (bF 1919 16)) kr kr (.cons _ .slnil) 6 rfl (Γ' := [(163,[],.pointer (some ⟨bk,J1,none⟩)),(159,[],.pointer (some ⟨bk,a,none⟩)),(156,[],iN a),(155,[],.slice (some ⟨bk,0,none⟩) L.length cp),(154,[],iN J1),(153,[],.slice (some ⟨bk,0,none⟩) L.length cp),(11,[],iN J1)]) (nd := (fun _ => [(0 ≤ (a : Int) ∧ (a : Int) < (L.length : Int)),(0 ≤ (J1 : Int) ∧ (J1 : Int) < (L.length : Int))])) (fun _ => kr) ⟨om,om,trivial⟩ ?_
           refine CfgA.two 7 11 kr (fuel' := 5) rfl ?_ ?_
           ·
            refine Iu rfl  (Eff.quiet (raw := false) (orc := some (uN (L2.getD a 0))) (v := uN (L2.getD a 0)) (nd := (fun S => [(cE S bk a (uN (L2.getD a 0)))])) (fun _ => kr) ⟨(fun w1 h => h.ocell 0 rfl (nv_at jk om om)),trivial⟩ kr) (fun _ _ => List.nil_sublist _) ?_
            refine Au 11 rfl 4  (Eff.quiet (raw := false) (orc := some (uN (L2.getD J1 0))) (v := uN (L2.getD J1 0)) (nd := (fun S => [(cE S bk J1 (uN (L2.getD J1 0)))])) (fun _ => kr) ⟨(fun w1 h => h.ocell 0 rfl (nv_at jk om om)),trivial⟩ kr) (fun _ _ => List.nil_sublist _) ?_
            refine Ap [12] [] (some [11,155,156,160,164,165]) (tF 13 3) (.cons _ .slnil) 3 (fun _ => [(0 ≤ (J1 : Int) ∧ (J1 : Int) < (L.length : Int))]) ⟨om,trivial⟩ ?_
            refine Au 13 rfl 2  (Eff.store1 (b := bk) (off := J1) (v := uN (L2.getD a 0)) rfl kr kr rfl kr 0 (cs := (nv L2 ++ jk).toArray) (e := 73) kr (by rw [nv_size]; omega)) (fun _ _ => List.nil_sublist _) ?_
            refine Ap [14] [] (some [11,164,166]) (tF 15 1) (.cons _ .slnil) 1 (fun _ => [(0 ≤ (a : Int) ∧ (a : Int) < (L.length : Int))]) ⟨om,trivial⟩ ?_
            refine Au 15 rfl 0  (Eff.store1 (b := bk) (off := a) (v := uN (L2.getD J1 0)) rfl kr kr rfl kr 0 (cs := ((nv L2 ++ jk).toArray.setIfInBounds J1 (uN (L2.getD a 0)))) (e := 73) kr (by rw [Array.size_setIfInBounds,nv_size]; omega)) (fun _ _ => List.nil_sublist _) ?_
            refine CfgA.done kr ?_
            refine Cg (Γ' := [(11,[],iN J1)]) ?_
            refine Cg (Γ' := [(11,[],iN J1)]) ?_
            exact hj ()
           ·
            refine Iu rfl  (Eff.quiet (raw := false) (orc := some (uN (L2.getD J1 0))) (v := uN (L2.getD J1 0)) (nd := (fun S => [(cE S bk J1 (uN (L2.getD J1 0)))])) (fun _ => kr) ⟨(fun w1 h => h.ocell 0 rfl (nv_at jk om om)),trivial⟩ kr) (fun _ _ => List.nil_sublist _) ?_
            refine Au 7 rfl 4  (Eff.quiet (raw := false) (orc := some (uN (L2.getD a 0))) (v := uN (L2.getD a 0)) (nd := (fun S => [(cE S bk a (uN (L2.getD a 0)))])) (fun _ => kr) ⟨(fun w1 h => h.ocell 0 rfl (nv_at jk om om)),trivial⟩ kr) (fun _ _ => List.nil_sublist _) ?_
            refine Ap [12] [] (some [11,155,156,160,164,165]) (tF 13 3) (.cons _ .slnil) 3 (fun _ => [(0 ≤ (J1 : Int) ∧ (J1 : Int) < (L.length : Int))]) ⟨om,trivial⟩ ?_
            refine Au 13 rfl 2  (Eff.store1 (b := bk) (off := J1) (v := uN (L2.getD a 0)) rfl kr kr rfl kr 0 (cs := (nv L2 ++ jk).toArray) (e := 73) kr (by rw [nv_size]; omega)) (fun _ _ => List.nil_sublist _) ?_
            refine Ap [14] [] (some [11,164,166]) (tF 15 1) (.cons _ .slnil) 1 (fun _ => [(0 ≤ (a : Int) ∧ (a : Int) < (L.length : Int))]) ⟨om,trivial⟩ ?_
            refine Au 15 rfl 0  (Eff.store1 (b := bk) (off := a) (v := uN (L2.getD J1 0)) rfl kr kr rfl kr 0 (cs := ((nv L2 ++ jk).toArray.setIfInBounds J1 (uN (L2.getD a 0)))) (e := 73) kr (by rw [Array.size_setIfInBounds,nv_size]; omega)) (fun _ _ => List.nil_sublist _) ?_
            refine CfgA.done kr ?_
            refine Cg (Γ' := [(11,[],iN J1)]) ?_
            refine Cg (Γ' := [(11,[],iN J1)]) ?_
            exact hj ()
         ·have c2 := (dF c2r)
          refine Cfg.begA rfl kr [] ?_
          refine CfgA.join (ι := Unit) (fun (_ : Unit) => [(bk,.cells (((nv L2 ++ jk).toArray.setIfInBounds I1 (uN (L2.getD J1 0))).setIfInBounds J1 (uN (L2.getD I1 0))) 73 (0,0))]) (fun (_ : Unit) => [(11,[],iN J1),(10,[],iN I1),(0,[],.slice (some ⟨bk,0,none⟩) L.length cp),(1,[],iN a)]) ?_ ?_
          ·rintro ⟨⟩
           refine oB 0 rfl (show _ = ((nv (swpN L2 I1 J1) ++ jk).toArray) from nv_swp jk om om om om) ?_
           refine Rg [0,1,10,11] [] (fun _ => [(i6 ((I1 : Int) + 1))]) ⟨om,trivial⟩ ?_
           refine Rg [0,1,10,11] [] (fun _ => [(i6 ((J1 : Int) - 1))]) ⟨om,trivial⟩ ?_
           refine sI 11 (show ((J1 : Int) - 1) = (((J1 - 1) : Nat) : Int) from by omega) ?_
           refine Cfg.again rfl (I1 + 1,J1 - 1,swpN L2 I1 J1,n9 - 1) ⟨by omega,by omega,by omega,by omega,by rw [swpN_len]; exact hl2,by omega,(parL_go hI1 hJ1 om om).symm.trans hra⟩ (by show n9 - 1 < n9; omega) (Conv.mk kr) (.cons_cons _ .slnil)
          ·intro hj
           refine CfgA.pure [0,1,2,3,4,5,6,8,9,10] [] (some [0,1,10,11,135,136,137,138,141,145]) (l' := (bF 1919 16)) kr kr (.cons _ .slnil) 6 rfl (Γ' := [(145,[],.pointer (some ⟨bk,I1,none⟩)),(141,[],.pointer (some ⟨bk,J1,none⟩)),(138,[],iN J1),(137,[],.slice (some ⟨bk,0,none⟩) L.length cp),(136,[],iN I1),(135,[],.slice (some ⟨bk,0,none⟩) L.length cp),(11,[],iN J1),(10,[],iN I1),(0,[],.slice (some ⟨bk,0,none⟩) L.length cp),(1,[],iN a)]) (nd := (fun _ => [(0 ≤ (J1 : Int) ∧ (J1 : Int) < (L.length : Int)),(0 ≤ (I1 : Int) ∧ (I1 : Int) < (L.length : Int))])) (fun _ => kr) ⟨om,om,trivial⟩ ?_
           refine CfgA.two 7 11 kr (fuel' := 5) rfl ?_ ?_
           ·
            refine Iu rfl  (Eff.quiet (raw := false) (orc := some (uN (L2.getD J1 0))) (v := uN (L2.getD J1 0)) (nd := (fun S => [(cE S bk J1 (uN (L2.getD J1 0)))])) (fun _ => kr) ⟨(fun w1 h => h.ocell 0 rfl (nv_at jk om om)),trivial⟩ kr) (fun _ _ => List.nil_sublist _) ?_
            refine Au 11 rfl 4  (Eff.quiet (raw := false) (orc := some (uN (L2.getD I1 0))) (v := uN (L2.getD I1 0)) (nd := (fun S => [(cE S bk I1 (uN (L2.getD I1 0)))])) (fun _ => kr) ⟨(fun w1 h => h.ocell 0 rfl (nv_at jk om om)),trivial⟩ kr) (fun _ _ => List.nil_sublist _) ?_
            refine Ap [12] [] (some [0,1,10,11,137,138,142,146,147]) (tF 13 3) (.cons _ .slnil) 3 (fun _ => [(0 ≤ (I1 : Int) ∧ (I1 : Int) < (L.length : Int))]) ⟨om,trivial⟩ ?_
            refine Au 13 rfl 2  (Eff.store1 (b := bk) (off := I1) (v := uN (L2.getD J1 0)) rfl kr kr rfl kr 0 (cs := (nv L2 ++ jk).toArray) (e := 73) kr (by rw [nv_size]; omega)) (fun _ _ => List.nil_sublist _) ?_
            refine Ap [14] [] (some [0,1,10,11,146,148]) (tF 15 1) (.cons _ .slnil) 1 (fun _ => [(0 ≤ (J1 : Int) ∧ (J1 : Int) < (L.length : Int))]) ⟨om,trivial⟩ ?_
            refine Au 15 rfl 0  (Eff.store1 (b := bk) (off := J1) (v := uN (L2.getD I1 0)) rfl kr kr rfl kr 0 (cs := ((nv L2 ++ jk).toArray.setIfInBounds I1 (uN (L2.getD J1 0)))) (e := 73) kr (by rw [Array.size_setIfInBounds,nv_size]; omega)) (fun _ _ => List.nil_sublist _) ?_
            refine CfgA.done kr ?_
            refine Cg (Γ' := [(11,[],iN J1),(10,[],iN I1),(0,[],.slice (some ⟨bk,0,none⟩) L.length cp),(1,[],iN a)]) ?_
            refine Cg (Γ' := [(11,[],iN J1),(10,[],iN I1),(0,[],.slice (some ⟨bk,0,none⟩) L.length cp),(1,[],iN a)]) ?_
            exact hj ()
           ·
            refine Iu rfl  (Eff.quiet (raw := false) (orc := some (uN (L2.getD I1 0))) (v := uN (L2.getD I1 0)) (nd := (fun S => [(cE S bk I1 (uN (L2.getD I1 0)))])) (fun _ => kr) ⟨(fun w1 h => h.ocell 0 rfl (nv_at jk om om)),trivial⟩ kr) (fun _ _ => List.nil_sublist _) ?_
            refine Au 7 rfl 4  (Eff.quiet (raw := false) (orc := some (uN (L2.getD J1 0))) (v := uN (L2.getD J1 0)) (nd := (fun S => [(cE S bk J1 (uN (L2.getD J1 0)))])) (fun _ => kr) ⟨(fun w1 h => h.ocell 0 rfl (nv_at jk om om)),trivial⟩ kr) (fun _ _ => List.nil_sublist _) ?_
            refine Ap [12] [] (some [0,1,10,11,137,138,142,146,147]) (tF 13 3) (.cons _ .slnil) 3 (fun _ => [(0 ≤ (I1 : Int) ∧ (I1 : Int) < (L.length : Int))]) ⟨om,trivial⟩ ?_
            refine Au 13 rfl 2  (Eff.store1 (b := bk) (off := I1) (v := uN (L2.getD J1 0)) rfl kr kr rfl kr 0 (cs := (nv L2 ++ jk).toArray) (e := 73) kr (by rw [nv_size]; omega)) (fun _ _ => List.nil_sublist _) ?_
            refine Ap [14] [] (some [0,1,10,11,146,148]) (tF 15 1) (.cons _ .slnil) 1 (fun _ => [(0 ≤ (J1 : Int) ∧ (J1 : Int) < (L.length : Int))]) ⟨om,trivial⟩ ?_
            refine Au 15 rfl 0  (Eff.store1 (b := bk) (off := J1) (v := uN (L2.getD I1 0)) rfl kr kr rfl kr 0 (cs := ((nv L2 ++ jk).toArray.setIfInBounds I1 (uN (L2.getD J1 0)))) (e := 73) kr (by rw [Array.size_setIfInBounds,nv_size]; omega)) (fun _ _ => List.nil_sublist _) ?_
            refine CfgA.done kr ?_
            refine Cg (Γ' := [(11,[],iN J1),(10,[],iN I1),(0,[],.slice (some ⟨bk,0,none⟩) L.length cp),(1,[],iN a)]) ?_
            refine Cg (Γ' := [(11,[],iN J1),(10,[],iN I1),(0,[],.slice (some ⟨bk,0,none⟩) L.length cp),(1,[],iN a)]) ?_
            exact hj ()
        ·intro hj1
         refine Cfg.loop rfl (ι := Nat) (fun (y : Nat) => [(11,[],iN y),(10,[],iN I1),(0,[],.slice (some ⟨bk,0,none⟩) L.length cp),(1,[],iN a)]) (fun (y : Nat) => [(bk,.cells ((nv L2 ++ jk).toArray) 73 (0,0))]) (fun (y : Nat) => (y ≤ j) ∧ (I1 ≤ y + 1 ∨ y = j) ∧ (dnF L2 a false I1 (y + 1 - I1) y = J1)) (fun (y : Nat) => y) j ?_ (Conv.mk kr) (.cons_cons _ .slnil) ?_
         ·exact ⟨Nat.le_refl _,.inr rfl,hJ1.symm⟩
         ·rintro y ⟨hy1,hy2,hye⟩
          refine Cfg.begA rfl kr [(bk,.cells ((nv L2 ++ jk).toArray) 73 (0,0))] ?_
          refine Ap [0,1,2,3] [] (some [0,1,10,11,118]) (tF 4 11) (.cons_cons _ .slnil) 11 n0 trivial ?_
          by_cases c3 : (decide ((I1 : Int) ≤ (y : Int))) = true
          ·have c3k : (decide ((I1 : Int) ≤ (y : Int))) = true := c3
           have c3q := (dT c3k)
           refine CfgA.known 118 (b := (decide ((I1 : Int) ≤ (y : Int)))) kr true c3k ?_
           refine Ap [4,5,6,7,8,9,10,11] [(1,false,none),(1,false,none),(1,false,none),(1,false,some (uN (L2.getD y 0))),(1,false,none),(1,false,none),(1,false,none),(1,false,some (uN (L2.getD a 0)))] (some [0,1,10,11,118,122,126]) (tF 12 3) (.cons_cons _ .slnil) 3 (fun S => [((.bool true : Value) = .bool true),((.bool true : Value) = .bool true),((.bool true : Value) = .bool true),(0 ≤ (y : Int) ∧ (y : Int) < (L.length : Int)),((.bool true : Value) = .bool true),(cE S bk y (uN (L2.getD y 0))),((.bool true : Value) = .bool true),((.bool true : Value) = .bool true),((.bool true : Value) = .bool true),(0 ≤ (a : Int) ∧ (a : Int) < (L.length : Int)),((.bool true : Value) = .bool true),(cE S bk a (uN (L2.getD a 0)))]) ⟨rfl,rfl,rfl,om,rfl,(fun w1 h => h.ocell 0 rfl (nv_at jk om om)),rfl,rfl,rfl,om,rfl,(fun w1 h => h.ocell 0 rfl (nv_at jk om om)),trivial⟩ ?_
           refine Au 12 rfl 2  (Eff.callA (.bool (decide (((L2.getD y 0) : Int) < ((L2.getD a 0) : Int)))) rfl Tryz.func119 rfl rfl kr (fun w1 _ => cLess ((L2.getD y 0)) ((L2.getD a 0)) w1)) (fun _ _ => (.cons_cons _ .slnil)) ?_
           refine Ap [13,14] [(1,false,none)] (some [0,1,10,11,129]) (tF 15 0) (.cons_cons _ .slnil) 0 (fun _ => [((.bool true : Value) = .bool true)]) ⟨rfl,trivial⟩ ?_
           refine CfgA.done kr ?_
           refine Cfg.cond rfl (b := (!(decide (((L2.getD y 0) : Int) < ((L2.getD a 0) : Int))))) kr (fun c4r => ?_) (fun c4r => ?_)
           ·have c4 := (dF (notT c4r))
            refine Rg [0,1,10,11] [] (fun _ => [(i6 ((y : Int) - 1))]) ⟨om,trivial⟩ ?_
            refine sI 11 (show ((y : Int) - 1) = (((y - 1) : Nat) : Int) from by omega) ?_
            refine Cfg.again rfl (y - 1) ⟨by omega,by omega,(dnF_go0 om om om).symm.trans hye⟩ (by show y - 1 < y; omega) (Conv.mk kr) (.cons_cons _ .slnil)
           ·have c4 := (dT (notF c4r))
            refine sI 11 (show (y : Int) = (J1 : Int) from congrArg Int.ofNat (show y = J1 from (dnF_st0 (fun _ => by omega)).symm.trans hye)) ?_
            exact Cfg.joinS hj1 () trivial rfl (Conv.mk kr) (.cons_cons _ .slnil)
          ·have c3k : (decide ((I1 : Int) ≤ (y : Int))) = false := (by simpa using c3)
           have c3q := (dF c3k)
           refine CfgA.known 118 (b := (decide ((I1 : Int) ≤ (y : Int)))) kr false c3k ?_
           refine Ap [4,5,6,7,8,9,10,11,12,13,14] [(2,false,none),(2,false,none),(2,false,none),(2,false,none),(2,false,none),(2,false,none),(2,false,none),(2,false,none),(2,false,none),(2,false,none)] (some [0,1,10,11,129]) (tF 15 0) (.cons_cons _ .slnil) 0 (fun _ => [((.bool false : Value) ≠ .bool true),((.bool false : Value) ≠ .bool true),((.bool false : Value) ≠ .bool true),((.bool false : Value) ≠ .bool true),((.bool false : Value) ≠ .bool true),((.bool false : Value) ≠ .bool true),((.bool false : Value) ≠ .bool true),((.bool false : Value) ≠ .bool true),((.bool false : Value) ≠ .bool true),((.bool false : Value) ≠ .bool true)]) ⟨(by simp),(by simp),(by simp),(by simp),(by simp),(by simp),(by simp),(by simp),(by simp),(by simp),trivial⟩ ?_
           refine CfgA.done kr ?_
           refine Cfg.condF rfl (b := false) kr rfl ?_
           refine sI 11 (show (y : Int) = (J1 : Int) from congrArg Int.ofNat (show y = J1 from (dnF_st0 (fun _ => by omega)).symm.trans hye)) ?_
           exact Cfg.joinS hj1 () trivial rfl (Conv.mk kr) (.cons_cons _ .slnil)
       ·intro hj2
        refine Cfg.loop rfl (ι := Nat) (fun (x : Nat) => [(11,[],iN j),(10,[],iN x),(0,[],.slice (some ⟨bk,0,none⟩) L.length cp),(1,[],iN a)]) (fun (x : Nat) => [(bk,.cells ((nv L2 ++ jk).toArray) 73 (0,0))]) (fun (x : Nat) => (i ≤ x) ∧ (x ≤ j + 1 ∨ x = i) ∧ (upF L2 a false j (j + 1 - x) x = I1)) (fun (x : Nat) => j + 1 - x) i ?_ (Conv.mk kr) (.cons_cons _ .slnil) ?_
        ·exact ⟨Nat.le_refl _,.inr rfl,hI1.symm⟩
        ·rintro x ⟨hx1,hx2,hxe⟩
         refine Cfg.begA rfl kr [(bk,.cells ((nv L2 ++ jk).toArray) 73 (0,0))] ?_
         refine Ap [0,1,2,3] [] (some [0,1,10,11,102]) (tF 4 10) (.cons_cons _ .slnil) 10 n0 trivial ?_
         by_cases c6 : (decide ((x : Int) ≤ (j : Int))) = true
         ·have c6k : (decide ((x : Int) ≤ (j : Int))) = true := c6
          have c6q := (dT c6k)
          refine CfgA.known 102 (b := (decide ((x : Int) ≤ (j : Int)))) kr true c6k ?_
          refine Ap [4,5,6,7,8,9,10,11] [(1,false,none),(1,false,none),(1,false,none),(1,false,some (uN (L2.getD x 0))),(1,false,none),(1,false,none),(1,false,none),(1,false,some (uN (L2.getD a 0)))] (some [0,1,10,11,102,106,110]) (tF 12 2) (.cons_cons _ .slnil) 2 (fun S => [((.bool true : Value) = .bool true),((.bool true : Value) = .bool true),((.bool true : Value) = .bool true),(0 ≤ (x : Int) ∧ (x : Int) < (L.length : Int)),((.bool true : Value) = .bool true),(cE S bk x (uN (L2.getD x 0))),((.bool true : Value) = .bool true),((.bool true : Value) = .bool true),((.bool true : Value) = .bool true),(0 ≤ (a : Int) ∧ (a : Int) < (L.length : Int)),((.bool true : Value) = .bool true),(cE S bk a (uN (L2.getD a 0)))]) ⟨rfl,rfl,rfl,om,rfl,(fun w1 h => h.ocell 0 rfl (nv_at jk om om)),rfl,rfl,rfl,om,rfl,(fun w1 h => h.ocell 0 rfl (nv_at jk om om)),trivial⟩ ?_
          refine Au 12 rfl 1  (Eff.callA (.bool (decide (((L2.getD x 0) : Int) < ((L2.getD a 0) : Int)))) rfl Tryz.func119 rfl rfl kr (fun w1 _ => cLess ((L2.getD x 0)) ((L2.getD a 0)) w1)) (fun _ _ => (.cons_cons _ .slnil)) ?_
          refine Ap [13] [] (some [0,1,10,11,112]) (tF 14 0) (.cons_cons _ .slnil) 0 n0 trivial ?_
          refine CfgA.done kr ?_
          refine Cfg.cond rfl (b := (decide (((L2.getD x 0) : Int) < ((L2.getD a 0) : Int)))) kr (fun c7r => ?_) (fun c7r => ?_)
          ·have c7 := (dT c7r)
           refine Rg [0,1,10,11] [] (fun _ => [(i6 ((x : Int) + 1))]) ⟨om,trivial⟩ ?_
           refine Cfg.again rfl (x + 1) ⟨by omega,by omega,(upF_go0 om om).symm.trans hxe⟩ (by show j + 1 - (x + 1) < j + 1 - x; omega) (Conv.mk kr) (.cons_cons _ .slnil)
          ·have c7 := (dF c7r)
           refine sI 10 (show (x : Int) = (I1 : Int) from congrArg Int.ofNat (show x = I1 from (upF_st0 (fun _ => by omega)).symm.trans hxe)) ?_
           exact Cfg.joinS hj2 () trivial rfl (Conv.mk kr) (.cons_cons _ .slnil)
         ·have c6k : (decide ((x : Int) ≤ (j : Int))) = false := (by simpa using c6)
          have c6q := (dF c6k)
          refine CfgA.known 102 (b := (decide ((x : Int) ≤ (j : Int)))) kr false c6k ?_
          refine Ap [4,5,6,7,8,9,10,11,12,13] [(2,false,none),(2,false,none),(2,false,none),(2,false,none),(2,false,none),(2,false,none),(2,false,none),(2,false,none),(2,false,none)] (some [0,1,10,11,112]) (tF 14 0) (.cons_cons _ .slnil) 0 (fun _ => [((.bool false : Value) ≠ .bool true),((.bool false : Value) ≠ .bool true),((.bool false : Value) ≠ .bool true),((.bool false : Value) ≠ .bool true),((.bool false : Value) ≠ .bool true),((.bool false : Value) ≠ .bool true),((.bool false : Value) ≠ .bool true),((.bool false : Value) ≠ .bool true),((.bool false : Value) ≠ .bool true)]) ⟨(by simp),(by simp),(by simp),(by simp),(by simp),(by simp),(by simp),(by simp),(by simp),trivial⟩ ?_
          refine CfgA.done kr ?_
          refine Cfg.condF rfl (b := false) kr rfl ?_
          refine sI 10 (show (x : Int) = (I1 : Int) from congrArg Int.ofNat (show x = I1 from (upF_st0 (fun _ => by omega)).symm.trans hxe)) ?_
          exact Cfg.joinS hj2 () trivial rfl (Conv.mk kr) (.cons_cons _ .slnil)
     ·intro hj
      refine CfgA.pure [0,1,2,3,4,5,6,8,9,10] [] (some [0,1,10,11,81,82,83,84,87,91]) (l' := (bF 1919 16)) kr kr (.cons _ .slnil) 6 rfl (Γ' := [(91,[],.pointer (some ⟨bk,I0,none⟩)),(87,[],.pointer (some ⟨bk,J0,none⟩)),(84,[],iN J0),(83,[],.slice (some ⟨bk,0,none⟩) L.length cp),(82,[],iN I0),(81,[],.slice (some ⟨bk,0,none⟩) L.length cp),(11,[],iN J0),(10,[],iN I0),(0,[],.slice (some ⟨bk,0,none⟩) L.length cp),(1,[],iN a)]) (nd := (fun _ => [(0 ≤ (J0 : Int) ∧ (J0 : Int) < (L.length : Int)),(0 ≤ (I0 : Int) ∧ (I0 : Int) < (L.length : Int))])) (fun _ => kr) ⟨om,om,trivial⟩ ?_
      refine CfgA.two 7 11 kr (fuel' := 5) rfl ?_ ?_
      ·
       refine Iu rfl  (Eff.quiet (raw := false) (orc := some (uN (L1.getD J0 0))) (v := uN (L1.getD J0 0)) (nd := (fun S => [(cE S bk J0 (uN (L1.getD J0 0)))])) (fun _ => kr) ⟨(fun w1 h => h.ocell 0 rfl (nv_at jk om om)),trivial⟩ kr) (fun _ _ => List.nil_sublist _) ?_
       refine Au 11 rfl 4  (Eff.quiet (raw := false) (orc := some (uN (L1.getD I0 0))) (v := uN (L1.getD I0 0)) (nd := (fun S => [(cE S bk I0 (uN (L1.getD I0 0)))])) (fun _ => kr) ⟨(fun w1 h => h.ocell 0 rfl (nv_at jk om om)),trivial⟩ kr) (fun _ _ => List.nil_sublist _) ?_
       refine Ap [12] [] (some [0,1,10,11,83,84,88,92,93]) (tF 13 3) (.cons _ .slnil) 3 (fun _ => [(0 ≤ (I0 : Int) ∧ (I0 : Int) < (L.length : Int))]) ⟨om,trivial⟩ ?_
       refine Au 13 rfl 2  (Eff.store1 (b := bk) (off := I0) (v := uN (L1.getD J0 0)) rfl kr kr rfl kr 0 (cs := (nv L1 ++ jk).toArray) (e := 73) kr (by rw [nv_size]; omega)) (fun _ _ => List.nil_sublist _) ?_
       refine Ap [14] [] (some [0,1,10,11,92,94]) (tF 15 1) (.cons _ .slnil) 1 (fun _ => [(0 ≤ (J0 : Int) ∧ (J0 : Int) < (L.length : Int))]) ⟨om,trivial⟩ ?_
       refine Au 15 rfl 0  (Eff.store1 (b := bk) (off := J0) (v := uN (L1.getD I0 0)) rfl kr kr rfl kr 0 (cs := ((nv L1 ++ jk).toArray.setIfInBounds I0 (uN (L1.getD J0 0)))) (e := 73) kr (by rw [Array.size_setIfInBounds,nv_size]; omega)) (fun _ _ => List.nil_sublist _) ?_
       refine CfgA.done kr ?_
       refine Cg (Γ' := [(11,[],iN J0),(10,[],iN I0),(0,[],.slice (some ⟨bk,0,none⟩) L.length cp),(1,[],iN a)]) ?_
       refine Cg (Γ' := [(11,[],iN J0),(10,[],iN I0),(0,[],.slice (some ⟨bk,0,none⟩) L.length cp),(1,[],iN a)]) ?_
       exact hj ()
      ·
       refine Iu rfl  (Eff.quiet (raw := false) (orc := some (uN (L1.getD I0 0))) (v := uN (L1.getD I0 0)) (nd := (fun S => [(cE S bk I0 (uN (L1.getD I0 0)))])) (fun _ => kr) ⟨(fun w1 h => h.ocell 0 rfl (nv_at jk om om)),trivial⟩ kr) (fun _ _ => List.nil_sublist _) ?_
       refine Au 7 rfl 4  (Eff.quiet (raw := false) (orc := some (uN (L1.getD J0 0))) (v := uN (L1.getD J0 0)) (nd := (fun S => [(cE S bk J0 (uN (L1.getD J0 0)))])) (fun _ => kr) ⟨(fun w1 h => h.ocell 0 rfl (nv_at jk om om)),trivial⟩ kr) (fun _ _ => List.nil_sublist _) ?_
       refine Ap [12] [] (some [0,1,10,11,83,84,88,92,93]) (tF 13 3) (.cons _ .slnil) 3 (fun _ => [(0 ≤ (I0 : Int) ∧ (I0 : Int) < (L.length : Int))]) ⟨om,trivial⟩ ?_
       refine Au 13 rfl 2  (Eff.store1 (b := bk) (off := I0) (v := uN (L1.getD J0 0)) rfl kr kr rfl kr 0 (cs := (nv L1 ++ jk).toArray) (e := 73) kr (by rw [nv_size]; omega)) (fun _ _ => List.nil_sublist _) ?_
       refine Ap [14] [] (some [0,1,10,11,92,94]) (tF 15 1) (.cons _ .slnil) 1 (fun _ => [(0 ≤ (J0 : Int) ∧ (J0 : Int) < (L.length : Int))]) ⟨om,trivial⟩ ?_
       refine Au 15 rfl 0  (Eff.store1 (b := bk) (off := J0) (v := uN (L1.getD I0 0)) rfl kr kr rfl kr 0 (cs := ((nv L1 ++ jk).toArray.setIfInBounds I0 (uN (L1.getD J0 0)))) (e := 73) kr (by rw [Array.size_setIfInBounds,nv_size]; omega)) (fun _ _ => List.nil_sublist _) ?_
       refine CfgA.done kr ?_
       refine Cg (Γ' := [(11,[],iN J0),(10,[],iN I0),(0,[],.slice (some ⟨bk,0,none⟩) L.length cp),(1,[],iN a)]) ?_
       refine Cg (Γ' := [(11,[],iN J0),(10,[],iN I0),(0,[],.slice (some ⟨bk,0,none⟩) L.length cp),(1,[],iN a)]) ?_
       exact hj ()
   ·intro hj3
    refine Cfg.loop rfl (ι := Nat) (fun (y : Nat) => [(11,[],iN y),(10,[],iN I0),(0,[],.slice (some ⟨bk,0,none⟩) L.length cp),(1,[],iN a)]) (fun (y : Nat) => [(bk,.cells ((nv L1 ++ jk).toArray) 73 (0,0))]) (fun (y : Nat) => (y ≤ (b - 1)) ∧ (I0 ≤ y + 1 ∨ y = (b - 1)) ∧ (dnF L1 a false I0 (y + 1 - I0) y = J0)) (fun (y : Nat) => y) (b - 1) ?_ (Conv.mk kr) (.cons_cons _ .slnil) ?_
    ·exact ⟨Nat.le_refl _,.inr rfl,hJ0.symm⟩
    ·rintro y ⟨hy1,hy2,hye⟩
     refine Cfg.begA rfl kr [(bk,.cells ((nv L1 ++ jk).toArray) 73 (0,0))] ?_
     refine Ap [0,1,2,3] [] (some [0,1,10,11,49]) (tF 4 11) (.cons_cons _ .slnil) 11 n0 trivial ?_
     by_cases c9 : (decide ((I0 : Int) ≤ (y : Int))) = true
     ·have c9k : (decide ((I0 : Int) ≤ (y : Int))) = true := c9
      have c9q := (dT c9k)
      refine CfgA.known 49 (b := (decide ((I0 : Int) ≤ (y : Int)))) kr true c9k ?_
      refine Ap [4,5,6,7,8,9,10,11] [(1,false,none),(1,false,none),(1,false,none),(1,false,some (uN (L1.getD y 0))),(1,false,none),(1,false,none),(1,false,none),(1,false,some (uN (L1.getD a 0)))] (some [0,1,10,11,49,53,57]) (tF 12 3) (.cons_cons _ .slnil) 3 (fun S => [((.bool true : Value) = .bool true),((.bool true : Value) = .bool true),((.bool true : Value) = .bool true),(0 ≤ (y : Int) ∧ (y : Int) < (L.length : Int)),((.bool true : Value) = .bool true),(cE S bk y (uN (L1.getD y 0))),((.bool true : Value) = .bool true),((.bool true : Value) = .bool true),((.bool true : Value) = .bool true),(0 ≤ (a : Int) ∧ (a : Int) < (L.length : Int)),((.bool true : Value) = .bool true),(cE S bk a (uN (L1.getD a 0)))]) ⟨rfl,rfl,rfl,om,rfl,(fun w1 h => h.ocell 0 rfl (nv_at jk om om)),rfl,rfl,rfl,om,rfl,(fun w1 h => h.ocell 0 rfl (nv_at jk om om)),trivial⟩ ?_
      refine Au 12 rfl 2  (Eff.callA (.bool (decide (((L1.getD y 0) : Int) < ((L1.getD a 0) : Int)))) rfl Tryz.func119 rfl rfl kr (fun w1 _ => cLess ((L1.getD y 0)) ((L1.getD a 0)) w1)) (fun _ _ => (.cons_cons _ .slnil)) ?_
      refine Ap [13,14] [(1,false,none)] (some [0,1,10,11,60]) (tF 15 0) (.cons_cons _ .slnil) 0 (fun _ => [((.bool true : Value) = .bool true)]) ⟨rfl,trivial⟩ ?_
      refine CfgA.done kr ?_
      refine Cfg.cond rfl (b := (!(decide (((L1.getD y 0) : Int) < ((L1.getD a 0) : Int))))) kr (fun c10r => ?_) (fun c10r => ?_)
      ·have c10 := (dF (notT c10r))
       refine Rg [0,1,10,11] [] (fun _ => [(i6 ((y : Int) - 1))]) ⟨om,trivial⟩ ?_
       refine sI 11 (show ((y : Int) - 1) = (((y - 1) : Nat) : Int) from by omega) ?_
       refine Cfg.again rfl (y - 1) ⟨by omega,by omega,(dnF_go0 om om om).symm.trans hye⟩ (by show y - 1 < y; omega) (Conv.mk kr) (.cons_cons _ .slnil)
      ·have c10 := (dT (notF c10r))
       refine sI 11 (show (y : Int) = (J0 : Int) from congrArg Int.ofNat (show y = J0 from (dnF_st0 (fun _ => by omega)).symm.trans hye)) ?_
       exact Cfg.joinS hj3 () trivial rfl (Conv.mk kr) (.cons_cons _ .slnil)
     ·have c9k : (decide ((I0 : Int) ≤ (y : Int))) = false := (by simpa using c9)
      have c9q := (dF c9k)
      refine CfgA.known 49 (b := (decide ((I0 : Int) ≤ (y : Int)))) kr false c9k ?_
      refine Ap [4,5,6,7,8,9,10,11,12,13,14] [(2,false,none),(2,false,none),(2,false,none),(2,false,none),(2,false,none),(2,false,none),(2,false,none),(2,false,none),(2,false,none),(2,false,none)] (some [0,1,10,11,60]) (tF 15 0) (.cons_cons _ .slnil) 0 (fun _ => [((.bool false : Value) ≠ .bool true),((.bool false : Value) ≠ .bool true),((.bool false : Value) ≠ .bool true),((.bool false : Value) ≠ .bool true),((.bool false : Value) ≠ .bool true),((.bool false : Value) ≠ .bool true),((.bool false : Value) ≠ .bool true),((.bool false : Value) ≠ .bool true),((.bool false : Value) ≠ .bool true),((.bool false : Value) ≠ .bool true)]) ⟨(by simp),(by simp),(by simp),(by simp),(by simp),(by simp),(by simp),(by simp),(by simp),(by simp),trivial⟩ ?_
      refine CfgA.done kr ?_
      refine Cfg.condF rfl (b := false) kr rfl ?_
      refine sI 11 (show (y : Int) = (J0 : Int) from congrArg Int.ofNat (show y = J0 from (dnF_st0 (fun _ => by omega)).symm.trans hye)) ?_
      exact Cfg.joinS hj3 () trivial rfl (Conv.mk kr) (.cons_cons _ .slnil)
  ·intro hj4
   refine Cfg.loop rfl (ι := Nat) (fun (x : Nat) => [(11,[],iN ((b - 1))),(10,[],iN x),(0,[],.slice (some ⟨bk,0,none⟩) L.length cp),(1,[],iN a)]) (fun (x : Nat) => [(bk,.cells ((nv L1 ++ jk).toArray) 73 (0,0))]) (fun (x : Nat) => ((a + 1) ≤ x) ∧ (x ≤ (b - 1) + 1 ∨ x = (a + 1)) ∧ (upF L1 a false (b - 1) ((b - 1) + 1 - x) x = I0)) (fun (x : Nat) => (b - 1) + 1 - x) (a + 1) ?_ (Conv.mk kr) (.cons_cons _ .slnil) ?_
   ·exact ⟨Nat.le_refl _,.inr rfl,hI0.symm⟩
   ·rintro x ⟨hx1,hx2,hxe⟩
    refine Cfg.begA rfl kr [(bk,.cells ((nv L1 ++ jk).toArray) 73 (0,0))] ?_
    refine Ap [0,1,2,3] [] (some [0,1,10,11,33]) (tF 4 10) (.cons_cons _ .slnil) 10 n0 trivial ?_
    by_cases c12 : (decide ((x : Int) ≤ (((b - 1) : Nat) : Int))) = true
    ·have c12k : (decide ((x : Int) ≤ (((b - 1) : Nat) : Int))) = true := c12
     have c12q := (dT c12k)
     refine CfgA.known 33 (b := (decide ((x : Int) ≤ (((b - 1) : Nat) : Int)))) kr true c12k ?_
     refine Ap [4,5,6,7,8,9,10,11] [(1,false,none),(1,false,none),(1,false,none),(1,false,some (uN (L1.getD x 0))),(1,false,none),(1,false,none),(1,false,none),(1,false,some (uN (L1.getD a 0)))] (some [0,1,10,11,33,37,41]) (tF 12 2) (.cons_cons _ .slnil) 2 (fun S => [((.bool true : Value) = .bool true),((.bool true : Value) = .bool true),((.bool true : Value) = .bool true),(0 ≤ (x : Int) ∧ (x : Int) < (L.length : Int)),((.bool true : Value) = .bool true),(cE S bk x (uN (L1.getD x 0))),((.bool true : Value) = .bool true),((.bool true : Value) = .bool true),((.bool true : Value) = .bool true),(0 ≤ (a : Int) ∧ (a : Int) < (L.length : Int)),((.bool true : Value) = .bool true),(cE S bk a (uN (L1.getD a 0)))]) ⟨rfl,rfl,rfl,om,rfl,(fun w1 h => h.ocell 0 rfl (nv_at jk om om)),rfl,rfl,rfl,om,rfl,(fun w1 h => h.ocell 0 rfl (nv_at jk om om)),trivial⟩ ?_
     refine Au 12 rfl 1  (Eff.callA (.bool (decide (((L1.getD x 0) : Int) < ((L1.getD a 0) : Int)))) rfl Tryz.func119 rfl rfl kr (fun w1 _ => cLess ((L1.getD x 0)) ((L1.getD a 0)) w1)) (fun _ _ => (.cons_cons _ .slnil)) ?_
     refine Ap [13] [] (some [0,1,10,11,43]) (tF 14 0) (.cons_cons _ .slnil) 0 n0 trivial ?_
     refine CfgA.done kr ?_
     refine Cfg.cond rfl (b := (decide (((L1.getD x 0) : Int) < ((L1.getD a 0) : Int)))) kr (fun c13r => ?_) (fun c13r => ?_)
     ·have c13 := (dT c13r)
      refine Rg [0,1,10,11] [] (fun _ => [(i6 ((x : Int) + 1))]) ⟨om,trivial⟩ ?_
      refine Cfg.again rfl (x + 1) ⟨by omega,by omega,(upF_go0 om om).symm.trans hxe⟩ (by show (b - 1) + 1 - (x + 1) < (b - 1) + 1 - x; omega) (Conv.mk kr) (.cons_cons _ .slnil)
     ·have c13 := (dF c13r)
      refine sI 10 (show (x : Int) = (I0 : Int) from congrArg Int.ofNat (show x = I0 from (upF_st0 (fun _ => by omega)).symm.trans hxe)) ?_
      exact Cfg.joinS hj4 () trivial rfl (Conv.mk kr) (.cons_cons _ .slnil)
    ·have c12k : (decide ((x : Int) ≤ (((b - 1) : Nat) : Int))) = false := (by simpa using c12)
     have c12q := (dF c12k)
     refine CfgA.known 33 (b := (decide ((x : Int) ≤ (((b - 1) : Nat) : Int)))) kr false c12k ?_
     refine Ap [4,5,6,7,8,9,10,11,12,13] [(2,false,none),(2,false,none),(2,false,none),(2,false,none),(2,false,none),(2,false,none),(2,false,none),(2,false,none),(2,false,none)] (some [0,1,10,11,43]) (tF 14 0) (.cons_cons _ .slnil) 0 (fun _ => [((.bool false : Value) ≠ .bool true),((.bool false : Value) ≠ .bool true),((.bool false : Value) ≠ .bool true),((.bool false : Value) ≠ .bool true),((.bool false : Value) ≠ .bool true),((.bool false : Value) ≠ .bool true),((.bool false : Value) ≠ .bool true),((.bool false : Value) ≠ .bool true),((.bool false : Value) ≠ .bool true)]) ⟨(by simp),(by simp),(by simp),(by simp),(by simp),(by simp),(by simp),(by simp),(by simp),trivial⟩ ?_
     refine CfgA.done kr ?_
     refine Cfg.condF rfl (b := false) kr rfl ?_
     refine sI 10 (show (x : Int) = (I0 : Int) from congrArg Int.ofNat (show x = I0 from (upF_st0 (fun _ => by omega)).symm.trans hxe)) ?_
     exact Cfg.joinS hj4 () trivial rfl (Conv.mk kr) (.cons_cons _ .slnil)
 ·intro hj
  refine CfgA.pure [0,1,2,3,4,5,6,8,9,10] [] (some [0,1,2,12,13,14,15,18,22]) (l' := (bF 1919 16)) kr kr (.cons _ .slnil) 6 rfl (Γ' := [(22,[],.pointer (some ⟨bk,a,none⟩)),(18,[],.pointer (some ⟨bk,p,none⟩)),(15,[],iN p),(14,[],.slice (some ⟨bk,0,none⟩) L.length cp),(13,[],iN a),(12,[],.slice (some ⟨bk,0,none⟩) L.length cp),(0,[],.slice (some ⟨bk,0,none⟩) L.length cp),(1,[],iN a),(2,[],iN b)]) (nd := (fun _ => [(0 ≤ (p : Int) ∧ (p : Int) < (L.length : Int)),(0 ≤ (a : Int) ∧ (a : Int) < (L.length : Int))])) (fun _ => kr) ⟨om,om,trivial⟩ ?_
  refine CfgA.two 7 11 kr (fuel' := 5) rfl ?_ ?_
  ·
   refine Iu rfl  (Eff.quiet (raw := false) (orc := some (uN (L.getD p 0))) (v := uN (L.getD p 0)) (nd := (fun S => [(cE S bk p (uN (L.getD p 0)))])) (fun _ => kr) ⟨(fun w1 h => h.ocell 0 rfl (nv_at jk om om)),trivial⟩ kr) (fun _ _ => List.nil_sublist _) ?_
   refine Au 11 rfl 4  (Eff.quiet (raw := false) (orc := some (uN (L.getD a 0))) (v := uN (L.getD a 0)) (nd := (fun S => [(cE S bk a (uN (L.getD a 0)))])) (fun _ => kr) ⟨(fun w1 h => h.ocell 0 rfl (nv_at jk om om)),trivial⟩ kr) (fun _ _ => List.nil_sublist _) ?_
   refine Ap [12] [] (some [0,1,2,14,15,19,23,24]) (tF 13 3) (.cons _ .slnil) 3 (fun _ => [(0 ≤ (a : Int) ∧ (a : Int) < (L.length : Int))]) ⟨om,trivial⟩ ?_
   refine Au 13 rfl 2  (Eff.store1 (b := bk) (off := a) (v := uN (L.getD p 0)) rfl kr kr rfl kr 0 (cs := (nv L ++ jk).toArray) (e := 73) kr (by rw [nv_size]; omega)) (fun _ _ => List.nil_sublist _) ?_
   refine Ap [14] [] (some [0,1,2,23,25]) (tF 15 1) (.cons _ .slnil) 1 (fun _ => [(0 ≤ (p : Int) ∧ (p : Int) < (L.length : Int))]) ⟨om,trivial⟩ ?_
   refine Au 15 rfl 0  (Eff.store1 (b := bk) (off := p) (v := uN (L.getD a 0)) rfl kr kr rfl kr 0 (cs := ((nv L ++ jk).toArray.setIfInBounds a (uN (L.getD p 0)))) (e := 73) kr (by rw [Array.size_setIfInBounds,nv_size]; omega)) (fun _ _ => List.nil_sublist _) ?_
   refine CfgA.done kr ?_
   refine Cg (Γ' := [(0,[],.slice (some ⟨bk,0,none⟩) L.length cp),(1,[],iN a),(2,[],iN b)]) ?_
   refine Cg (Γ' := [(0,[],.slice (some ⟨bk,0,none⟩) L.length cp),(1,[],iN a),(2,[],iN b)]) ?_
   exact hj ()
  ·
   refine Iu rfl  (Eff.quiet (raw := false) (orc := some (uN (L.getD a 0))) (v := uN (L.getD a 0)) (nd := (fun S => [(cE S bk a (uN (L.getD a 0)))])) (fun _ => kr) ⟨(fun w1 h => h.ocell 0 rfl (nv_at jk om om)),trivial⟩ kr) (fun _ _ => List.nil_sublist _) ?_
   refine Au 7 rfl 4  (Eff.quiet (raw := false) (orc := some (uN (L.getD p 0))) (v := uN (L.getD p 0)) (nd := (fun S => [(cE S bk p (uN (L.getD p 0)))])) (fun _ => kr) ⟨(fun w1 h => h.ocell 0 rfl (nv_at jk om om)),trivial⟩ kr) (fun _ _ => List.nil_sublist _) ?_
   refine Ap [12] [] (some [0,1,2,14,15,19,23,24]) (tF 13 3) (.cons _ .slnil) 3 (fun _ => [(0 ≤ (a : Int) ∧ (a : Int) < (L.length : Int))]) ⟨om,trivial⟩ ?_
   refine Au 13 rfl 2  (Eff.store1 (b := bk) (off := a) (v := uN (L.getD p 0)) rfl kr kr rfl kr 0 (cs := (nv L ++ jk).toArray) (e := 73) kr (by rw [nv_size]; omega)) (fun _ _ => List.nil_sublist _) ?_
   refine Ap [14] [] (some [0,1,2,23,25]) (tF 15 1) (.cons _ .slnil) 1 (fun _ => [(0 ≤ (p : Int) ∧ (p : Int) < (L.length : Int))]) ⟨om,trivial⟩ ?_
   refine Au 15 rfl 0  (Eff.store1 (b := bk) (off := p) (v := uN (L.getD a 0)) rfl kr kr rfl kr 0 (cs := ((nv L ++ jk).toArray.setIfInBounds a (uN (L.getD p 0)))) (e := 73) kr (by rw [Array.size_setIfInBounds,nv_size]; omega)) (fun _ _ => List.nil_sublist _) ?_
   refine CfgA.done kr ?_
   refine Cg (Γ' := [(0,[],.slice (some ⟨bk,0,none⟩) L.length cp),(1,[],iN a),(2,[],iN b)]) ?_
   refine Cg (Γ' := [(0,[],.slice (some ⟨bk,0,none⟩) L.length cp),(1,[],iN a),(2,[],iN b)]) ?_
   exact hj ()
set_option maxRecDepth 100000 in
set_option maxHeartbeats 4000000 in
theorem sPis (bk cp : Nat) (jk : List Value) (L : List Nat) (a b : Nat) (w : World) (hB : w.heap[bk]? = some (.cells (nv L ++ jk).toArray 73 (0,0))) (hL : L.length ≤ 1000000) (hb : b ≤ L.length) (hab : a + 1 < b) :
  Calls Tryz.prog 118 #[.slice (some ⟨bk,0,none⟩) L.length cp,.int .i64 (a : Int),.int .i64 (b : Int)] w fun e w' => e = .returned (.bool (pisF a b 5 (a + 1) L).1) ∧ Ext [bk] w w' ∧ w'.heap[bk]? = some (.cells (nv (pisF a b 5 (a + 1) L).2 ++ jk).toArray 73 (0,0)) := by
 refine enter [bk] [] [(bk,.cells ((nv L ++ jk).toArray) 73 (0,0))] Tryz.func118 rfl kr (HP.startM (R := []) (fun _ h => by cases h) hB (by simp)) ?_
 refine Rq [0,1,2] ?_
 refine Rg [0,1,2,7] [] (fun _ => [(i6 ((a : Int) + 1))]) ⟨om,trivial⟩ ?_
 refine Rq [0,1,2,7,8] ?_
 refine Cfg.loop rfl (ι := Nat × Nat × List Nat) (fun (xz : Nat × Nat × List Nat) => match xz with | (m,i,L1) => [(8,[],iN m),(7,[],iN i),(0,[],.slice (some ⟨bk,0,none⟩) L.length cp),(1,[],iN a),(2,[],iN b)]) (fun (xz : Nat × Nat × List Nat) => match xz with | (m,i,L1) => [(bk,.cells ((nv L1 ++ jk).toArray) 73 (0,0))]) (fun (xz : Nat × Nat × List Nat) => match xz with | (m,i,L1) => (m ≤ 5) ∧ (a + 1 ≤ i) ∧ (i ≤ b) ∧ (L1.length = L.length) ∧ (pisF a b (5 - m) i L1 = pisF a b 5 (a + 1) L)) (fun (xz : Nat × Nat × List Nat) => match xz with | (m,i,L1) => 5 - m) (0,a + 1,L) ?_ (Conv.mk kr) (.cons_cons _ .slnil) ?_
 ·exact ⟨by omega,Nat.le_refl _,by omega,rfl,rfl⟩
 ·rintro ⟨m,i,L1⟩ ⟨hm,hi1,hi2,hl1,hra⟩
  obtain ⟨I,hI⟩ : ∃ I,I = scanF L1 b (b - i) i := ⟨_,rfl⟩
  have hIi := scanF_in (L := L1) (n := b - i) hi2
  rw [← hI] at hIi
  have hgo : m < 5 → ¬ I = b ∧ ¬ b - a < 50 → pisF a b (5 - m) i L1 = pisF a b (5 - (m + 1)) I (fixF L1 a b I) := fun h9 h8 => by rw [show 5 - m = (5 - (m + 1)) + 1 by omega,pisF,← hI,if_neg h8.1,if_neg h8.2]
  refine Rq [0,1,2,7,8,14] ?_
  refine Cfg.cond rfl (b := (decide ((m : Int) < (5 : Int)))) kr (fun c1r => ?_) (fun c1r => ?_)
  ·have c1 := (dT c1r)
   refine Cfg.share rfl (ι := Unit) (fun _ => [(8,[],iN m),(7,[],iN I),(0,[],.slice (some ⟨bk,0,none⟩) L.length cp),(1,[],iN a),(2,[],iN b)]) (fun _ => [(bk,.cells ((nv L1 ++ jk).toArray) 73 (0,0))]) (fun _ => True) ?_ ?_
   ·rintro ⟨⟩ -
    refine Rq [0,1,2,7,8,37] ?_
    refine Cfg.cond rfl (b := ((I : Int) == (b : Int))) kr (fun c2r => ?_) (fun c2r => ?_)
    ·have c2 := (beq_iff_eq.1 c2r)
     refine Rq [6] ?_
     refine Cfg.ret rfl (rs := [.tmp 6]) rfl [.bool true] ⟨kr,trivial⟩ (fun w1 hp => ?_)
     have hfin : pisF a b 5 (a + 1) L = (true,L1) := by rw [← hra,show 5 - m = (5 - (m + 1)) + 1 by omega,pisF,← hI,if_pos om]
     rw [hfin]
     exact ⟨rfl,hp.ext,hp.own (bk,_) mH⟩
    ·have c2 := (beq_eq_false_iff_ne.1 c2r)
     refine Rg [0,1,2,7,8,41] [] (fun _ => [(i6 ((b : Int) - (a : Int)))]) ⟨om,trivial⟩ ?_
     refine Cfg.cond rfl (b := (decide (((b : Int) - (a : Int)) < (50 : Int)))) kr (fun c3r => ?_) (fun c3r => ?_)
     ·have c3 := (dT c3r)
      refine Cfg.reg rfl [6] [] (Γ' := [(6,[],.bool false)]) (nd := (fun _ => [])) (fun _ => kr) trivial ?_
      refine Cfg.ret rfl (rs := [.tmp 6]) rfl [.bool false] ⟨kr,trivial⟩ (fun w1 hp => ?_)
      have hfin : pisF a b 5 (a + 1) L = (false,L1) := by rw [← hra,show 5 - m = (5 - (m + 1)) + 1 by omega,pisF,← hI,if_neg om,if_pos om]
      rw [hfin]
      exact ⟨rfl,hp.ext,hp.own (bk,_) mH⟩
     ·have c3 := (dF c3r)
      refine Cfg.begA rfl kr [] ?_
      refine CfgA.join (ι := Unit) (fun (_ : Unit) => [(bk,.cells (((nv L1 ++ jk).toArray.setIfInBounds I (uN ((L1.getD ((I - 1)) 0)))).setIfInBounds ((((I : Int) - 1)).toNat) (uN (L1.getD I 0))) 73 (0,0))]) (fun (_ : Unit) => [(8,[],iN m),(7,[],iN I),(0,[],.slice (some ⟨bk,0,none⟩) L.length cp),(1,[],iN a),(2,[],iN b)]) ?_ ?_
      ·rintro ⟨⟩
       refine oB 0 rfl (show _ = ((nv (swpN L1 I ((I - 1))) ++ jk).toArray) from nv_swp jk om om om om) ?_
       refine Rg [0,1,2,7,8,61] [] (fun _ => [(i6 ((I : Int) - (a : Int)))]) ⟨om,trivial⟩ ?_
       obtain ⟨L3,hL3⟩ : ∃ L3,L3 = if 2 ≤ I - a then insJ 0 (I - 1) (swpN L1 I (I - 1)) else swpN L1 I (I - 1) := ⟨_,rfl⟩
       have hl3 : L3.length = L.length := by rw [hL3]; split <;> simp only [insJ_len,swpN_len,hl1]
       refine Cfg.share rfl (ι := Unit) (fun _ => [(8,[],iN m),(7,[],iN I),(0,[],.slice (some ⟨bk,0,none⟩) L.length cp),(1,[],iN a),(2,[],iN b)]) (fun _ => [(bk,.cells ((nv L3 ++ jk).toArray) 73 (0,0))]) (fun _ => True) ?_ ?_
       ·rintro ⟨⟩ -
        refine Rg [0,1,2,7,8,98] [] (fun _ => [(i6 ((b : Int) - (I : Int)))]) ⟨om,trivial⟩ ?_
        refine Cfg.cond rfl (b := (decide (((b : Int) - (I : Int)) ≥ (2 : Int)))) kr (fun c5r => ?_) (fun c5r => ?_)
        ·have c5 := (dT c5r)
         refine Rg [0,1,2,7,8,10] [] (fun _ => [(i6 ((I : Int) + 1))]) ⟨om,trivial⟩ ?_
         refine sI 10 (show ((I : Int) + 1) = (((I + 1) : Nat) : Int) from by omega) ?_
         refine Cfg.loop rfl (ι := Nat × List Nat) (fun (xz : Nat × List Nat) => match xz with | (k,L4) => [(10,[],iN k),(8,[],iN m),(7,[],iN I),(0,[],.slice (some ⟨bk,0,none⟩) L.length cp),(1,[],iN a),(2,[],iN b)]) (fun (xz : Nat × List Nat) => match xz with | (k,L4) => [(bk,.cells ((nv L4 ++ jk).toArray) 73 (0,0))]) (fun (xz : Nat × List Nat) => match xz with | (k,L4) => (I + 1 ≤ k) ∧ (k ≤ b) ∧ (L4.length = L.length) ∧ (shrF b (b + 1 - k) k L4 = shrF b (b - I) (I + 1) L3)) (fun (xz : Nat × List Nat) => match xz with | (k,L4) => b - k) (I + 1,L3) ?_ (Conv.mk kr) (.cons_cons _ .slnil) ?_
         ·exact ⟨Nat.le_refl _,by omega,hl3,by rw [show b + 1 - (I + 1) = b - I by omega]⟩
         ·rintro ⟨k,L4⟩ ⟨hk,hk2,hl4,hke⟩
          refine Rq [0,1,2,7,8,10,103] ?_
          refine Cfg.cond rfl (b := (decide ((k : Int) < (b : Int)))) kr (fun c6r => ?_) (fun c6r => ?_)
          ·have c6 := (dT c6r)
           refine Cfg.begA rfl kr [(bk,.cells ((nv L4 ++ jk).toArray) 73 (0,0))] ?_
           refine Ap (List.range 9) [dZ,dZ,dZ,(dS (uN (L4.getD k 0))),dZ,dZ,dZ,dZ,(dS (uN ((L4.getD ((k - 1)) 0))))] (some [0,1,2,7,8,10,109,114]) (tF 9 2) (.cons_cons _ .slnil) 2 (fun S => [(0 ≤ (k : Int) ∧ (k : Int) < (L.length : Int)),(cE S bk k (uN (L4.getD k 0))),(i6 ((k : Int) - 1)),(0 ≤ ((k : Int) - 1) ∧ ((k : Int) - 1) < (L.length : Int)),(cE S bk ((((k : Int) - 1)).toNat) (uN ((L4.getD ((k - 1)) 0))))]) ⟨om,(fun w1 h => h.ocell 0 rfl (nv_at jk om om)),om,om,(fun w1 h => h.ocell 0 rfl (nv_at jk om om)),trivial⟩ ?_
           refine Au 9 rfl 1  (Eff.callA (.bool (decide (((L4.getD k 0) : Int) < (((L4.getD ((k - 1)) 0) : Nat) : Int)))) rfl Tryz.func119 rfl rfl kr (fun w1 _ => cLess ((L4.getD k 0)) ((L4.getD ((k - 1)) 0)) w1)) (fun _ _ => (.cons_cons _ .slnil)) ?_
           refine Ap [10] [] (some [0,1,2,7,8,10,116]) (tF 11 0) (.cons_cons _ .slnil) 0 n0 trivial ?_
           refine CfgA.done kr ?_
           refine Cfg.cond rfl (b := (!(decide (((L4.getD k 0) : Int) < (((L4.getD ((k - 1)) 0) : Nat) : Int))))) kr (fun c7r => ?_) (fun c7r => ?_)
           ·have c7 := (dF (notT c7r))
            refine Rg [0,1,2,7,8] [] (fun _ => [(i6 ((m : Int) + 1))]) ⟨om,trivial⟩ ?_
            have hfx : fixF L1 a b I = L4 := by unfold fixF; simp only; rw [← hL3,if_pos om,← hke,shrF_st (fun _ => by omega)]
            refine Cfg.again rfl (m + 1,I,L4) ⟨by omega,by omega,by omega,by first | exact hl3 | exact hl4,by rw [← hfx]; exact (hgo om om).symm.trans hra⟩ (by show 5 - (m + 1) < 5 - m; omega) (Conv.mk kr) (.cons_cons _ .slnil)
           ·have c7 := (dT (notF c7r))
            refine Cfg.begA rfl kr [] ?_
            refine CfgA.join (ι := Unit) (fun (_ : Unit) => [(bk,.cells (((nv L4 ++ jk).toArray.setIfInBounds k (uN ((L4.getD ((k - 1)) 0)))).setIfInBounds ((((k : Int) - 1)).toNat) (uN (L4.getD k 0))) 73 (0,0))]) (fun (_ : Unit) => [(10,[],iN k),(8,[],iN m),(7,[],iN I),(0,[],.slice (some ⟨bk,0,none⟩) L.length cp),(1,[],iN a),(2,[],iN b)]) ?_ ?_
            ·rintro ⟨⟩
             refine oB 0 rfl (show _ = ((nv (swpN L4 k ((k - 1))) ++ jk).toArray) from nv_swp jk om om om om) ?_
             refine Rg [0,1,2,7,8,10] [] (fun _ => [(i6 ((k : Int) + 1))]) ⟨om,trivial⟩ ?_
             refine Cfg.again rfl (k + 1,swpN L4 k (k - 1)) ⟨by omega,by omega,by rw [swpN_len]; exact hl4,(shrF_go om om).symm.trans hke⟩ (by show b - (k + 1) < b - k; omega) (Conv.mk kr) (.cons_cons _ .slnil)
            ·intro hj
             refine CfgA.pure [0,1,2,3,4,5,6,7,8,10,11,12] [] (some [0,1,2,7,8,10,117,118,119,121,125,129]) (l' := (bF 7679 18)) kr kr (.cons _ .slnil) 6 rfl (Γ' := [(129,[],.pointer (some ⟨bk,k,none⟩)),(125,[],.pointer (some ⟨bk,(((k : Int) - 1)).toNat,none⟩)),(121,[],.int .i64 ((k : Int) - 1)),(119,[],.slice (some ⟨bk,0,none⟩) L.length cp),(118,[],iN k),(117,[],.slice (some ⟨bk,0,none⟩) L.length cp),(10,[],iN k),(8,[],iN m),(7,[],iN I),(0,[],.slice (some ⟨bk,0,none⟩) L.length cp),(1,[],iN a),(2,[],iN b)]) (nd := (fun _ => [(i6 ((k : Int) - 1)),(i6 ((k : Int) - 1)),(0 ≤ ((k : Int) - 1) ∧ ((k : Int) - 1) < (L.length : Int)),(0 ≤ (k : Int) ∧ (k : Int) < (L.length : Int))])) (fun _ => kr) ⟨om,om,om,om,trivial⟩ ?_
             refine CfgA.two 9 13 kr (fuel' := 5) rfl ?_ ?_
             ·
              refine Iu rfl  (Eff.quiet (raw := false) (orc := some (uN ((L4.getD ((k - 1)) 0)))) (v := uN ((L4.getD ((k - 1)) 0))) (nd := (fun S => [(cE S bk ((((k : Int) - 1)).toNat) (uN ((L4.getD ((k - 1)) 0))))])) (fun _ => kr) ⟨(fun w1 h => h.ocell 0 rfl (nv_at jk om om)),trivial⟩ kr) (fun _ _ => List.nil_sublist _) ?_
              refine Au 13 rfl 4  (Eff.quiet (raw := false) (orc := some (uN (L4.getD k 0))) (v := uN (L4.getD k 0)) (nd := (fun S => [(cE S bk k (uN (L4.getD k 0)))])) (fun _ => kr) ⟨(fun w1 h => h.ocell 0 rfl (nv_at jk om om)),trivial⟩ kr) (fun _ _ => List.nil_sublist _) ?_
              refine Ap [14] [] (some [0,1,2,7,8,10,119,121,126,130,131]) (tF 15 3) (.cons _ .slnil) 3 (fun _ => [(0 ≤ (k : Int) ∧ (k : Int) < (L.length : Int))]) ⟨om,trivial⟩ ?_
              refine Au 15 rfl 2  (Eff.store1 (b := bk) (off := k) (v := uN ((L4.getD ((k - 1)) 0))) rfl kr kr rfl kr 0 (cs := (nv L4 ++ jk).toArray) (e := 73) kr (by rw [nv_size]; omega)) (fun _ _ => List.nil_sublist _) ?_
              refine Ap [16] [] (some [0,1,2,7,8,10,130,132]) (tF 17 1) (.cons _ .slnil) 1 (fun _ => [(0 ≤ ((k : Int) - 1) ∧ ((k : Int) - 1) < (L.length : Int))]) ⟨om,trivial⟩ ?_
              refine Au 17 rfl 0  (Eff.store1 (b := bk) (off := (((k : Int) - 1)).toNat) (v := uN (L4.getD k 0)) rfl kr kr rfl kr 0 (cs := ((nv L4 ++ jk).toArray.setIfInBounds k (uN ((L4.getD ((k - 1)) 0))))) (e := 73) kr (by rw [Array.size_setIfInBounds,nv_size]; omega)) (fun _ _ => List.nil_sublist _) ?_
              refine CfgA.done kr ?_
              refine Cg (Γ' := [(10,[],iN k),(8,[],iN m),(7,[],iN I),(0,[],.slice (some ⟨bk,0,none⟩) L.length cp),(1,[],iN a),(2,[],iN b)]) ?_
              refine Cg (Γ' := [(10,[],iN k),(8,[],iN m),(7,[],iN I),(0,[],.slice (some ⟨bk,0,none⟩) L.length cp),(1,[],iN a),(2,[],iN b)]) ?_
              exact hj ()
             ·
              refine Iu rfl  (Eff.quiet (raw := false) (orc := some (uN (L4.getD k 0))) (v := uN (L4.getD k 0)) (nd := (fun S => [(cE S bk k (uN (L4.getD k 0)))])) (fun _ => kr) ⟨(fun w1 h => h.ocell 0 rfl (nv_at jk om om)),trivial⟩ kr) (fun _ _ => List.nil_sublist _) ?_
              refine Au 9 rfl 4  (Eff.quiet (raw := false) (orc := some (uN ((L4.getD ((k - 1)) 0)))) (v := uN ((L4.getD ((k - 1)) 0))) (nd := (fun S => [(cE S bk ((((k : Int) - 1)).toNat) (uN ((L4.getD ((k - 1)) 0))))])) (fun _ => kr) ⟨(fun w1 h => h.ocell 0 rfl (nv_at jk om om)),trivial⟩ kr) (fun _ _ => List.nil_sublist _) ?_
              refine Ap [14] [] (some [0,1,2,7,8,10,119,121,126,130,131]) (tF 15 3) (.cons _ .slnil) 3 (fun _ => [(0 ≤ (k : Int) ∧ (k : Int) < (L.length : Int))]) ⟨om,trivial⟩ ?_
              refine Au 15 rfl 2  (Eff.store1 (b := bk) (off := k) (v := uN ((L4.getD ((k - 1)) 0))) rfl kr kr rfl kr 0 (cs := (nv L4 ++ jk).toArray) (e := 73) kr (by rw [nv_size]; omega)) (fun _ _ => List.nil_sublist _) ?_
              refine Ap [16] [] (some [0,1,2,7,8,10,130,132]) (tF 17 1) (.cons _ .slnil) 1 (fun _ => [(0 ≤ ((k : Int) - 1) ∧ ((k : Int) - 1) < (L.length : Int))]) ⟨om,trivial⟩ ?_
              refine Au 17 rfl 0  (Eff.store1 (b := bk) (off := (((k : Int) - 1)).toNat) (v := uN (L4.getD k 0)) rfl kr kr rfl kr 0 (cs := ((nv L4 ++ jk).toArray.setIfInBounds k (uN ((L4.getD ((k - 1)) 0))))) (e := 73) kr (by rw [Array.size_setIfInBounds,nv_size]; omega)) (fun _ _ => List.nil_sublist _) ?_
              refine CfgA.done kr ?_
              refine Cg (Γ' := [(10,[],iN k),(8,[],iN m),(7,[],iN I),(0,[],.slice (some ⟨bk,0,none⟩) L.length cp),(1,[],iN a),(2,[],iN b)]) ?_
              refine Cg (Γ' := [(10,[],iN k),(8,[],iN m),(7,[],iN I),(0,[],.slice (some ⟨bk,0,none⟩) L.length cp),(1,[],iN a),(2,[],iN b)]) ?_
              exact hj ()
          ·have c6 := (dF c6r)
           refine Rg [0,1,2,7,8] [] (fun _ => [(i6 ((m : Int) + 1))]) ⟨om,trivial⟩ ?_
           have hfx : fixF L1 a b I = L4 := by unfold fixF; simp only; rw [← hL3,if_pos om,← hke,shrF_st (fun _ => by omega)]
           refine Cfg.again rfl (m + 1,I,L4) ⟨by omega,by omega,by omega,by first | exact hl3 | exact hl4,by rw [← hfx]; exact (hgo om om).symm.trans hra⟩ (by show 5 - (m + 1) < 5 - m; omega) (Conv.mk kr) (.cons_cons _ .slnil)
        ·have c5 := (dF c5r)
         refine Rg [0,1,2,7,8] [] (fun _ => [(i6 ((m : Int) + 1))]) ⟨om,trivial⟩ ?_
         have hfx : fixF L1 a b I = L3 := by unfold fixF; simp only; rw [← hL3,if_neg om]
         refine Cfg.again rfl (m + 1,I,L3) ⟨by omega,by omega,by omega,by first | exact hl3 | exact hl4,by rw [← hfx]; exact (hgo om om).symm.trans hra⟩ (by show 5 - (m + 1) < 5 - m; omega) (Conv.mk kr) (.cons_cons _ .slnil)
       ·intro hj1
        refine Cfg.cond rfl (b := (decide (((I : Int) - (a : Int)) ≥ (2 : Int)))) kr (fun c4r => ?_) (fun c4r => ?_)
        ·have c4 := (dT c4r)
         refine Rg [0,1,2,7,8,9] [] (fun _ => [(i6 ((I : Int) - 1))]) ⟨om,trivial⟩ ?_
         refine sI 9 (show ((I : Int) - 1) = (((I - 1) : Nat) : Int) from by omega) ?_
         refine Cfg.loop rfl (ι := Nat × List Nat) (fun (xz : Nat × List Nat) => match xz with | (j,L2) => [(9,[],iN j),(8,[],iN m),(7,[],iN I),(0,[],.slice (some ⟨bk,0,none⟩) L.length cp),(1,[],iN a),(2,[],iN b)]) (fun (xz : Nat × List Nat) => match xz with | (j,L2) => [(bk,.cells ((nv L2 ++ jk).toArray) 73 (0,0))]) (fun (xz : Nat × List Nat) => match xz with | (j,L2) => (j ≤ I - 1) ∧ (L2.length = L.length) ∧ (insJ 0 j L2 = insJ 0 (I - 1) (swpN L1 I (I - 1)))) (fun (xz : Nat × List Nat) => match xz with | (j,L2) => j) (I - 1,swpN L1 I (I - 1)) ?_ (Conv.mk kr) (.cons_cons _ .slnil) ?_
         ·exact ⟨Nat.le_refl _,by rw [swpN_len]; exact hl1,rfl⟩
         ·rintro ⟨j,L2⟩ ⟨hj,hl2,hj2e⟩
          refine Rq [0,1,2,7,8,9,65] ?_
          refine Cfg.cond rfl (b := (decide ((j : Int) ≥ (1 : Int)))) kr (fun c8r => ?_) (fun c8r => ?_)
          ·have c8 := (dT c8r)
           refine Cfg.begA rfl kr [(bk,.cells ((nv L2 ++ jk).toArray) 73 (0,0))] ?_
           refine Ap (List.range 9) [dZ,dZ,dZ,(dS (uN (L2.getD j 0))),dZ,dZ,dZ,dZ,(dS (uN ((L2.getD ((j - 1)) 0))))] (some [0,1,2,7,8,9,71,76]) (tF 9 2) (.cons_cons _ .slnil) 2 (fun S => [(0 ≤ (j : Int) ∧ (j : Int) < (L.length : Int)),(cE S bk j (uN (L2.getD j 0))),(i6 ((j : Int) - 1)),(0 ≤ ((j : Int) - 1) ∧ ((j : Int) - 1) < (L.length : Int)),(cE S bk ((((j : Int) - 1)).toNat) (uN ((L2.getD ((j - 1)) 0))))]) ⟨om,(fun w1 h => h.ocell 0 rfl (nv_at jk om om)),om,om,(fun w1 h => h.ocell 0 rfl (nv_at jk om om)),trivial⟩ ?_
           refine Au 9 rfl 1  (Eff.callA (.bool (decide (((L2.getD j 0) : Int) < (((L2.getD ((j - 1)) 0) : Nat) : Int)))) rfl Tryz.func119 rfl rfl kr (fun w1 _ => cLess ((L2.getD j 0)) ((L2.getD ((j - 1)) 0)) w1)) (fun _ _ => (.cons_cons _ .slnil)) ?_
           refine Ap [10] [] (some [0,1,2,7,8,9,78]) (tF 11 0) (.cons_cons _ .slnil) 0 n0 trivial ?_
           refine CfgA.done kr ?_
           refine Cfg.cond rfl (b := (!(decide (((L2.getD j 0) : Int) < (((L2.getD ((j - 1)) 0) : Nat) : Int))))) kr (fun c9r => ?_) (fun c9r => ?_)
           ·have c9 := (dF (notT c9r))
            refine oB 0 rfl (show _ = ((nv L3 ++ jk).toArray) from by rw [hL3,if_pos om,← hj2e,insJ_stop (fun h9 => by have := h9.1; have := h9.2; omega)]) ?_
            exact Cfg.joinS hj1 () trivial rfl (Conv.mk kr) (.cons_cons _ .slnil)
           ·have c9 := (dT (notF c9r))
            refine Cfg.begA rfl kr [] ?_
            refine CfgA.join (ι := Unit) (fun (_ : Unit) => [(bk,.cells (((nv L2 ++ jk).toArray.setIfInBounds j (uN ((L2.getD ((j - 1)) 0)))).setIfInBounds ((((j : Int) - 1)).toNat) (uN (L2.getD j 0))) 73 (0,0))]) (fun (_ : Unit) => [(9,[],iN j),(8,[],iN m),(7,[],iN I),(0,[],.slice (some ⟨bk,0,none⟩) L.length cp),(1,[],iN a),(2,[],iN b)]) ?_ ?_
            ·rintro ⟨⟩
             refine oB 0 rfl (show _ = ((nv (swpN L2 j ((j - 1))) ++ jk).toArray) from nv_swp jk om om om om) ?_
             refine Rg [0,1,2,7,8,9] [] (fun _ => [(i6 ((j : Int) - 1))]) ⟨om,trivial⟩ ?_
             refine sI 9 (show ((j : Int) - 1) = (((j - 1) : Nat) : Int) from by omega) ?_
             refine Cfg.again rfl (j - 1,swpN L2 j (j - 1)) ⟨by omega,by rw [swpN_len]; exact hl2,(insJ_go om om).symm.trans hj2e⟩ (by show j - 1 < j; omega) (Conv.mk kr) (.cons_cons _ .slnil)
            ·intro hj
             refine CfgA.pure [0,1,2,3,4,5,6,7,8,10,11,12] [] (some [0,1,2,7,8,9,79,80,81,83,87,91]) (l' := (bF 7679 18)) kr kr (.cons _ .slnil) 6 rfl (Γ' := [(91,[],.pointer (some ⟨bk,j,none⟩)),(87,[],.pointer (some ⟨bk,(((j : Int) - 1)).toNat,none⟩)),(83,[],.int .i64 ((j : Int) - 1)),(81,[],.slice (some ⟨bk,0,none⟩) L.length cp),(80,[],iN j),(79,[],.slice (some ⟨bk,0,none⟩) L.length cp),(9,[],iN j),(8,[],iN m),(7,[],iN I),(0,[],.slice (some ⟨bk,0,none⟩) L.length cp),(1,[],iN a),(2,[],iN b)]) (nd := (fun _ => [(i6 ((j : Int) - 1)),(i6 ((j : Int) - 1)),(0 ≤ ((j : Int) - 1) ∧ ((j : Int) - 1) < (L.length : Int)),(0 ≤ (j : Int) ∧ (j : Int) < (L.length : Int))])) (fun _ => kr) ⟨om,om,om,om,trivial⟩ ?_
             refine CfgA.two 9 13 kr (fuel' := 5) rfl ?_ ?_
             ·
              refine Iu rfl  (Eff.quiet (raw := false) (orc := some (uN ((L2.getD ((j - 1)) 0)))) (v := uN ((L2.getD ((j - 1)) 0))) (nd := (fun S => [(cE S bk ((((j : Int) - 1)).toNat) (uN ((L2.getD ((j - 1)) 0))))])) (fun _ => kr) ⟨(fun w1 h => h.ocell 0 rfl (nv_at jk om om)),trivial⟩ kr) (fun _ _ => List.nil_sublist _) ?_
              refine Au 13 rfl 4  (Eff.quiet (raw := false) (orc := some (uN (L2.getD j 0))) (v := uN (L2.getD j 0)) (nd := (fun S => [(cE S bk j (uN (L2.getD j 0)))])) (fun _ => kr) ⟨(fun w1 h => h.ocell 0 rfl (nv_at jk om om)),trivial⟩ kr) (fun _ _ => List.nil_sublist _) ?_
              refine Ap [14] [] (some [0,1,2,7,8,9,81,83,88,92,93]) (tF 15 3) (.cons _ .slnil) 3 (fun _ => [(0 ≤ (j : Int) ∧ (j : Int) < (L.length : Int))]) ⟨om,trivial⟩ ?_
              refine Au 15 rfl 2  (Eff.store1 (b := bk) (off := j) (v := uN ((L2.getD ((j - 1)) 0))) rfl kr kr rfl kr 0 (cs := (nv L2 ++ jk).toArray) (e := 73) kr (by rw [nv_size]; omega)) (fun _ _ => List.nil_sublist _) ?_
              refine Ap [16] [] (some [0,1,2,7,8,9,92,94]) (tF 17 1) (.cons _ .slnil) 1 (fun _ => [(0 ≤ ((j : Int) - 1) ∧ ((j : Int) - 1) < (L.length : Int))]) ⟨om,trivial⟩ ?_
              refine Au 17 rfl 0  (Eff.store1 (b := bk) (off := (((j : Int) - 1)).toNat) (v := uN (L2.getD j 0)) rfl kr kr rfl kr 0 (cs := ((nv L2 ++ jk).toArray.setIfInBounds j (uN ((L2.getD ((j - 1)) 0))))) (e := 73) kr (by rw [Array.size_setIfInBounds,nv_size]; omega)) (fun _ _ => List.nil_sublist _) ?_
              refine CfgA.done kr ?_
              refine Cg (Γ' := [(9,[],iN j),(8,[],iN m),(7,[],iN I),(0,[],.slice (some ⟨bk,0,none⟩) L.length cp),(1,[],iN a),(2,[],iN b)]) ?_
              refine Cg (Γ' := [(9,[],iN j),(8,[],iN m),(7,[],iN I),(0,[],.slice (some ⟨bk,0,none⟩) L.length cp),(1,[],iN a),(2,[],iN b)]) ?_
              exact hj ()
             ·
              refine Iu rfl  (Eff.quiet (raw := false) (orc := some (uN (L2.getD j 0))) (v := uN (L2.getD j 0)) (nd := (fun S => [(cE S bk j (uN (L2.getD j 0)))])) (fun _ => kr) ⟨(fun w1 h => h.ocell 0 rfl (nv_at jk om om)),trivial⟩ kr) (fun _ _ => List.nil_sublist _) ?_
              refine Au 9 rfl 4  (Eff.quiet (raw := false) (orc := some (uN ((L2.getD ((j - 1)) 0)))) (v := uN ((L2.getD ((j - 1)) 0))) (nd := (fun S => [(cE S bk ((((j : Int) - 1)).toNat) (uN ((L2.getD ((j - 1)) 0))))])) (fun _ => kr) ⟨(fun w1 h => h.ocell 0 rfl (nv_at jk om om)),trivial⟩ kr) (fun _ _ => List.nil_sublist _) ?_
              refine Ap [14] [] (some [0,1,2,7,8,9,81,83,88,92,93]) (tF 15 3) (.cons _ .slnil) 3 (fun _ => [(0 ≤ (j : Int) ∧ (j : Int) < (L.length : Int))]) ⟨om,trivial⟩ ?_
              refine Au 15 rfl 2  (Eff.store1 (b := bk) (off := j) (v := uN ((L2.getD ((j - 1)) 0))) rfl kr kr rfl kr 0 (cs := (nv L2 ++ jk).toArray) (e := 73) kr (by rw [nv_size]; omega)) (fun _ _ => List.nil_sublist _) ?_
              refine Ap [16] [] (some [0,1,2,7,8,9,92,94]) (tF 17 1) (.cons _ .slnil) 1 (fun _ => [(0 ≤ ((j : Int) - 1) ∧ ((j : Int) - 1) < (L.length : Int))]) ⟨om,trivial⟩ ?_
              refine Au 17 rfl 0  (Eff.store1 (b := bk) (off := (((j : Int) - 1)).toNat) (v := uN (L2.getD j 0)) rfl kr kr rfl kr 0 (cs := ((nv L2 ++ jk).toArray.setIfInBounds j (uN ((L2.getD ((j - 1)) 0))))) (e := 73) kr (by rw [Array.size_setIfInBounds,nv_size]; omega)) (fun _ _ => List.nil_sublist _) ?_
              refine CfgA.done kr ?_
              refine Cg (Γ' := [(9,[],iN j),(8,[],iN m),(7,[],iN I),(0,[],.slice (some ⟨bk,0,none⟩) L.length cp),(1,[],iN a),(2,[],iN b)]) ?_
              refine Cg (Γ' := [(9,[],iN j),(8,[],iN m),(7,[],iN I),(0,[],.slice (some ⟨bk,0,none⟩) L.length cp),(1,[],iN a),(2,[],iN b)]) ?_
              exact hj ()
          ·have c8 := (dF c8r)
           refine oB 0 rfl (show _ = ((nv L3 ++ jk).toArray) from by rw [hL3,if_pos om,← hj2e,insJ_stop (fun h9 => by have := h9.1; have := h9.2; omega)]) ?_
           exact Cfg.joinS hj1 () trivial rfl (Conv.mk kr) (.cons_cons _ .slnil)
        ·have c4 := (dF c4r)
         refine oB 0 rfl (show _ = ((nv L3 ++ jk).toArray) from by rw [hL3,if_neg om]) ?_
         exact Cfg.joinS hj1 () trivial rfl (Conv.mk kr) (.cons_cons _ .slnil)
      ·intro hj
       refine CfgA.pure [0,1,2,3,4,5,6,7,8,10,11,12] [] (some [0,1,2,7,8,42,43,44,46,50,54]) (l' := (bF 7679 18)) kr kr (.cons _ .slnil) 6 rfl (Γ' := [(54,[],.pointer (some ⟨bk,I,none⟩)),(50,[],.pointer (some ⟨bk,(((I : Int) - 1)).toNat,none⟩)),(46,[],.int .i64 ((I : Int) - 1)),(44,[],.slice (some ⟨bk,0,none⟩) L.length cp),(43,[],iN I),(42,[],.slice (some ⟨bk,0,none⟩) L.length cp),(8,[],iN m),(7,[],iN I),(0,[],.slice (some ⟨bk,0,none⟩) L.length cp),(1,[],iN a),(2,[],iN b)]) (nd := (fun _ => [(i6 ((I : Int) - 1)),(i6 ((I : Int) - 1)),(0 ≤ ((I : Int) - 1) ∧ ((I : Int) - 1) < (L.length : Int)),(0 ≤ (I : Int) ∧ (I : Int) < (L.length : Int))])) (fun _ => kr) ⟨om,om,om,om,trivial⟩ ?_
       refine CfgA.two 9 13 kr (fuel' := 5) rfl ?_ ?_
       ·
        refine Iu rfl  (Eff.quiet (raw := false) (orc := some (uN ((L1.getD ((I - 1)) 0)))) (v := uN ((L1.getD ((I - 1)) 0))) (nd := (fun S => [(cE S bk ((((I : Int) - 1)).toNat) (uN ((L1.getD ((I - 1)) 0))))])) (fun _ => kr) ⟨(fun w1 h => h.ocell 0 rfl (nv_at jk om om)),trivial⟩ kr) (fun _ _ => List.nil_sublist _) ?_
        refine Au 13 rfl 4  (Eff.quiet (raw := false) (orc := some (uN (L1.getD I 0))) (v := uN (L1.getD I 0)) (nd := (fun S => [(cE S bk I (uN (L1.getD I 0)))])) (fun _ => kr) ⟨(fun w1 h => h.ocell 0 rfl (nv_at jk om om)),trivial⟩ kr) (fun _ _ => List.nil_sublist _) ?_
        refine Ap [14] [] (some [0,1,2,7,8,44,46,51,55,56]) (tF 15 3) (.cons _ .slnil) 3 (fun _ => [(0 ≤ (I : Int) ∧ (I : Int) < (L.length : Int))]) ⟨om,trivial⟩ ?_
        refine Au 15 rfl 2  (Eff.store1 (b := bk) (off := I) (v := uN ((L1.getD ((I - 1)) 0))) rfl kr kr rfl kr 0 (cs := (nv L1 ++ jk).toArray) (e := 73) kr (by rw [nv_size]; omega)) (fun _ _ => List.nil_sublist _) ?_
        refine Ap [16] [] (some [0,1,2,7,8,55,57]) (tF 17 1) (.cons _ .slnil) 1 (fun _ => [(0 ≤ ((I : Int) - 1) ∧ ((I : Int) - 1) < (L.length : Int))]) ⟨om,trivial⟩ ?_
        refine Au 17 rfl 0  (Eff.store1 (b := bk) (off := (((I : Int) - 1)).toNat) (v := uN (L1.getD I 0)) rfl kr kr rfl kr 0 (cs := ((nv L1 ++ jk).toArray.setIfInBounds I (uN ((L1.getD ((I - 1)) 0))))) (e := 73) kr (by rw [Array.size_setIfInBounds,nv_size]; omega)) (fun _ _ => List.nil_sublist _) ?_
        refine CfgA.done kr ?_
        refine Cg (Γ' := [(8,[],iN m),(7,[],iN I),(0,[],.slice (some ⟨bk,0,none⟩) L.length cp),(1,[],iN a),(2,[],iN b)]) ?_
        refine Cg (Γ' := [(8,[],iN m),(7,[],iN I),(0,[],.slice (some ⟨bk,0,none⟩) L.length cp),(1,[],iN a),(2,[],iN b)]) ?_
        exact hj ()
       ·
        refine Iu rfl  (Eff.quiet (raw := false) (orc := some (uN (L1.getD I 0))) (v := uN (L1.getD I 0)) (nd := (fun S => [(cE S bk I (uN (L1.getD I 0)))])) (fun _ => kr) ⟨(fun w1 h => h.ocell 0 rfl (nv_at jk om om)),trivial⟩ kr) (fun _ _ => List.nil_sublist _) ?_
        refine Au 9 rfl 4  (Eff.quiet (raw := false) (orc := some (uN ((L1.getD ((I - 1)) 0)))) (v := uN ((L1.getD ((I - 1)) 0))) (nd := (fun S => [(cE S bk ((((I : Int) - 1)).toNat) (uN ((L1.getD ((I - 1)) 0))))])) (fun _ => kr) ⟨(fun w1 h => h.ocell 0 rfl (nv_at jk om om)),trivial⟩ kr) (fun _ _ => List.nil_sublist _) ?_
        refine Ap [14] [] (some [0,1,2,7,8,44,46,51,55,56]) (tF 15 3) (.cons _ .slnil) 3 (fun _ => [(0 ≤ (I : Int) ∧ (I : Int) < (L.length : Int))]) ⟨om,trivial⟩ ?_
        refine Au 15 rfl 2  (Eff.store1 (b := bk) (off := I) (v := uN ((L1.getD ((I - 1)) 0))) rfl kr kr rfl kr 0 (cs := (nv L1 ++ jk).toArray) (e := 73) kr (by rw [nv_size]; omega)) (fun _ _ => List.nil_sublist _) ?_
        refine Ap [16] [] (some [0,1,2,7,8,55,57]) (tF 17 1) (.cons _ .slnil) 1 (fun _ => [(0 ≤ ((I : Int) - 1) ∧ ((I : Int) - 1) < (L.length : Int))]) ⟨om,trivial⟩ ?_
        refine Au 17 rfl 0  (Eff.store1 (b := bk) (off := (((I : Int) - 1)).toNat) (v := uN (L1.getD I 0)) rfl kr kr rfl kr 0 (cs := ((nv L1 ++ jk).toArray.setIfInBounds I (uN ((L1.getD ((I - 1)) 0))))) (e := 73) kr (by rw [Array.size_setIfInBounds,nv_size]; omega)) (fun _ _ => List.nil_sublist _) ?_
        refine CfgA.done kr ?_
        refine Cg (Γ' := [(8,[],iN m),(7,[],iN I),(0,[],.slice (some ⟨bk,0,none⟩) L.length cp),(1,[],iN a),(2,[],iN b)]) ?_
        refine Cg (Γ' := [(8,[],iN m),(7,[],iN I),(0,[],.slice (some ⟨bk,0,none⟩) L.length cp),(1,[],iN a),(2,[],iN b)]) ?_
        exact hj ()
   ·intro hj2
    refine Cfg.loop rfl (ι := Nat) (fun (x : Nat) => [(8,[],iN m),(7,[],iN x),(0,[],.slice (some ⟨bk,0,none⟩) L.length cp),(1,[],iN a),(2,[],iN b)]) (fun (x : Nat) => [(bk,.cells ((nv L1 ++ jk).toArray) 73 (0,0))]) (fun (x : Nat) => (i ≤ x) ∧ (x ≤ b) ∧ (scanF L1 b (b - x) x = I)) (fun (x : Nat) => b - x) i ?_ (Conv.mk kr) (.cons_cons _ .slnil) ?_
    ·exact ⟨Nat.le_refl _,hi2,hI.symm⟩
    ·rintro x ⟨hx1,hx2,hxe⟩
     refine Cfg.begA rfl kr [(bk,.cells ((nv L1 ++ jk).toArray) 73 (0,0))] ?_
     refine Ap [0,1,2,3] [] (some [0,1,2,7,8,20]) (tF 4 12) (.cons_cons _ .slnil) 12 n0 trivial ?_
     by_cases c10 : (decide ((x : Int) < (b : Int))) = true
     ·have c10k : (decide ((x : Int) < (b : Int))) = true := c10
      have c10q := (dT c10k)
      refine CfgA.known 20 (b := (decide ((x : Int) < (b : Int)))) kr true c10k ?_
      refine Ap [4,5,6,7,8,9,10,11,12] [(1,false,none),(1,false,none),(1,false,none),(1,false,some (uN (L1.getD x 0))),(1,false,none),(1,false,none),(1,false,none),(1,false,none),(1,false,some (uN ((L1.getD ((x - 1)) 0))))] (some [0,1,2,7,8,20,24,29]) (tF 13 3) (.cons_cons _ .slnil) 3 (fun S => [((.bool true : Value) = .bool true),((.bool true : Value) = .bool true),((.bool true : Value) = .bool true),(0 ≤ (x : Int) ∧ (x : Int) < (L.length : Int)),((.bool true : Value) = .bool true),(cE S bk x (uN (L1.getD x 0))),((.bool true : Value) = .bool true),((.bool true : Value) = .bool true),((.bool true : Value) = .bool true),(i6 ((x : Int) - 1)),((.bool true : Value) = .bool true),(0 ≤ ((x : Int) - 1) ∧ ((x : Int) - 1) < (L.length : Int)),((.bool true : Value) = .bool true),(cE S bk ((((x : Int) - 1)).toNat) (uN ((L1.getD ((x - 1)) 0))))]) ⟨rfl,rfl,rfl,om,rfl,(fun w1 h => h.ocell 0 rfl (nv_at jk om om)),rfl,rfl,rfl,om,rfl,om,rfl,(fun w1 h => h.ocell 0 rfl (nv_at jk om om)),trivial⟩ ?_
      refine Au 13 rfl 2  (Eff.callA (.bool (decide (((L1.getD x 0) : Int) < (((L1.getD ((x - 1)) 0) : Nat) : Int)))) rfl Tryz.func119 rfl rfl kr (fun w1 _ => cLess ((L1.getD x 0)) ((L1.getD ((x - 1)) 0)) w1)) (fun _ _ => (.cons_cons _ .slnil)) ?_
      refine Ap [14,15] [(1,false,none)] (some [0,1,2,7,8,32]) (tF 16 0) (.cons_cons _ .slnil) 0 (fun _ => [((.bool true : Value) = .bool true)]) ⟨rfl,trivial⟩ ?_
      refine CfgA.done kr ?_
      refine Cfg.cond rfl (b := (!(decide (((L1.getD x 0) : Int) < (((L1.getD ((x - 1)) 0) : Nat) : Int))))) kr (fun c11r => ?_) (fun c11r => ?_)
      ·have c11 := (dF (notT c11r))
       refine Rg [0,1,2,7,8] [] (fun _ => [(i6 ((x : Int) + 1))]) ⟨om,trivial⟩ ?_
       refine Cfg.again rfl (x + 1) ⟨by omega,by omega,(scanF_go om om).symm.trans hxe⟩ (by show b - (x + 1) < b - x; omega) (Conv.mk kr) (.cons_cons _ .slnil)
      ·have c11 := (dT (notF c11r))
       refine sI 7 (show (x : Int) = (I : Int) from congrArg Int.ofNat (show x = I from (scanF_st (fun _ => by omega)).symm.trans hxe)) ?_
       exact Cfg.joinS hj2 () trivial rfl (Conv.mk kr) (.cons_cons _ .slnil)
     ·have c10k : (decide ((x : Int) < (b : Int))) = false := (by simpa using c10)
      have c10q := (dF c10k)
      refine CfgA.known 20 (b := (decide ((x : Int) < (b : Int)))) kr false c10k ?_
      refine Ap [4,5,6,7,8,9,10,11,12,13,14,15] [(2,false,none),(2,false,none),(2,false,none),(2,false,none),(2,false,none),(2,false,none),(2,false,none),(2,false,none),(2,false,none),(2,false,none),(2,false,none)] (some [0,1,2,7,8,32]) (tF 16 0) (.cons_cons _ .slnil) 0 (fun _ => [((.bool false : Value) ≠ .bool true),((.bool false : Value) ≠ .bool true),((.bool false : Value) ≠ .bool true),((.bool false : Value) ≠ .bool true),((.bool false : Value) ≠ .bool true),((.bool false : Value) ≠ .bool true),((.bool false : Value) ≠ .bool true),((.bool false : Value) ≠ .bool true),((.bool false : Value) ≠ .bool true),((.bool false : Value) ≠ .bool true),((.bool false : Value) ≠ .bool true)]) ⟨(by simp),(by simp),(by simp),(by simp),(by simp),(by simp),(by simp),(by simp),(by simp),(by simp),(by simp),trivial⟩ ?_
      refine CfgA.done kr ?_
      refine Cfg.condF rfl (b := false) kr rfl ?_
      refine sI 7 (show (x : Int) = (I : Int) from congrArg Int.ofNat (show x = I from (scanF_st (fun _ => by omega)).symm.trans hxe)) ?_
      exact Cfg.joinS hj2 () trivial rfl (Conv.mk kr) (.cons_cons _ .slnil)
  ·have c1 := (dF c1r)
   refine Rq [6] ?_
   refine Cfg.ret rfl (rs := [.tmp 6]) rfl [.bool false] ⟨kr,trivial⟩ (fun w1 hp => ?_)
   have hfin : pisF a b 5 (a + 1) L = (false,L1) := by rw [← hra,show 5 - m = 0 by omega]; rfl
   rw [hfin]
   exact ⟨rfl,hp.ext,hp.own (bk,_) mH⟩
end Go.Proofs.YtbeeelgfhfmgbaaGreatDoor
namespace Go.Proofs.YtbeeelgfhfmgbaaGreatDoor
open K
set_option linter.unusedVariables false
def len8 : ByteArray := ⟨#[0,1,2,2,3,3,3,3,4,4,4,4,4,4,4,4,5,5,5,5,5,5,5,5,5,5,5,5,5,5,5,5,6,6,6,6,6,6,6,6,6,6,6,6,6,6,6,6,6,6,6,6,6,6,6,6,6,6,6,6,6,6,6,6,7,7,7,7,7,7,7,7,7,7,7,7,7,7,7,7,7,7,7,7,7,7,7,7,7,7,7,7,7,7,7,7,7,7,7,7,7,7,7,7,7,7,7,7,7,7,7,7,7,7,7,7,7,7,7,7,7,7,7,7,7,7,7,7,8,8,8,8,8,8,8,8,8,8,8,8,8,8,8,8,8,8,8,8,8,8,8,8,8,8,8,8,8,8,8,8,8,8,8,8,8,8,8,8,8,8,8,8,8,8,8,8,8,8,8,8,8,8,8,8,8,8,8,8,8,8,8,8,8,8,8,8,8,8,8,8,8,8,8,8,8,8,8,8,8,8,8,8,8,8,8,8,8,8,8,8,8,8,8,8,8,8,8,8,8,8,8,8,8,8,8,8,8,8,8,8,8,8,8,8,8,8,8,8,8,8,8,8,8,8,8,8]⟩
theorem len8_ok {x : Nat} (h : x < 256) : sbyte len8 (x : Int) = (lenN x : Int) := by
 have h9 : (List.range 256).all (fun x => sbyte len8 (x : Int) == (lenN x : Int)) = true := by kernel_rfl
 exact beq_iff_eq.1 (List.all_eq_true.1 h9 x (List.mem_range.2 h))
theorem lenN_hi {n : Nat} (h : 256 ≤ n) : lenN n = lenN (n / 256) + 8 := by
 unfold lenN
 rw [if_neg om,if_neg om,show n / 256 = n / 2 / 2 / 2 / 2 / 2 / 2 / 2 / 2 by omega]
 rw [Nat.log2_def n,if_pos om,Nat.log2_def (n / 2),if_pos om,Nat.log2_def (n / 2 / 2),if_pos om,Nat.log2_def (n / 2 / 2 / 2),if_pos om,Nat.log2_def (n / 2 / 2 / 2 / 2),if_pos om,Nat.log2_def (n / 2 / 2 / 2 / 2 / 2),if_pos om,Nat.log2_def (n / 2 / 2 / 2 / 2 / 2 / 2),if_pos om,Nat.log2_def (n / 2 / 2 / 2 / 2 / 2 / 2 / 2),if_pos om]
theorem lenN_le {n : Nat} (h : n ≤ 60000) : lenN n ≤ 16 := by
 have h1 : n = 0 ∨ 0 < n := by omega
 rcases h1 with rfl | h1
 ·decide
 ·have h2 := (lenN_lt h1).2
  by_cases h3 : lenN n ≤ 16
  ·exact h3
  ·have h4 : 2 ^ 17 ≤ 2 ^ lenN n := Nat.pow_le_pow_right (by decide) om
   omega
theorem xsN_lt {r : Nat} (h : r < 18446744073709551616) : xsN r < 18446744073709551616 := by
 have a1 : (r ^^^ (r * 2 ^ 13 % 18446744073709551616)) < 2 ^ 64 := Nat.xor_lt_two_pow h (Nat.mod_lt _ (by decide))
 have a2 := Nat.xor_lt_two_pow a1 (Nat.lt_of_le_of_lt (Nat.div_le_self (r ^^^ (r * 2 ^ 13 % 18446744073709551616)) (2 ^ 7)) a1)
 exact Nat.xor_lt_two_pow a2 (Nat.mod_lt _ (by decide))
theorem brkL_go {a l n i r : Nat} {L : List Nat} (h : 0 < n) : brkL a l n i r L = brkL a l (n - 1) (i + 1) (xsN r) (swpN L i (a + othN l (xsN r))) := by
 rw [show n = (n - 1) + 1 by omega,brkL]; rfl
set_option maxRecDepth 100000 in
set_option maxHeartbeats 1000000 in
theorem bLen64 (n : Nat) (w : World) (hn : n < 65536) :
  Calls Tryz.prog 123 #[.int .u64 (n : Int)] w fun e w' => e = .returned (.int .i64 (lenN n : Int)) ∧ Ext [] w w' := by
 refine enter [] [] [] Tryz.func123 rfl kr (HP.start w) ?_
 refine Rq [0,2] ?_
 refine Rq [0,2,4] ?_
 refine Cfg.condF rfl (b := (decide ((n : Int) ≥ (4294967296 : Int)))) kr (decide_eq_false om) ?_
 refine Rq [0,2,8] ?_
 refine Cfg.condF rfl (b := (decide ((n : Int) ≥ (65536 : Int)))) kr (decide_eq_false om) ?_
 refine Rq [0,2,14] ?_
 refine Cfg.cond rfl (b := (decide ((n : Int) ≥ (256 : Int)))) kr (fun c3r => ?_) (fun c3r => ?_)
 ·have c3 := (dT c3r)
  refine Rg [0,2] [] (fun _ => [(0 ≤ (8 : Int) ∧ 8 ≤ 64)]) ⟨om,trivial⟩ ?_
  refine Rg [0,2] [] (fun _ => [(i6 (8 : Int))]) ⟨om,trivial⟩ ?_
  have hsz : len8.size = 256 := by kernel_rfl
  have hsb : sbyte len8 (((n / 256 : Nat) : Int) % 256) = (lenN (n / 256) : Int) := by rw [show ((n / 256 : Nat) : Int) % 256 = ((n / 256 : Nat) : Int) by omega]; exact len8_ok om
  have hle := lenN_le (n := n / 256) om
  refine Cfg.setS 0 (congrArg (fun (xq : Int) => (.int .u64 xq : Value)) (show ((n : Int) / 256) = (((n / 256) : Nat) : Int) from by omega)) ?_
  refine Rg [2] [] (fun _ => [(0 ≤ ((((n / 256) : Nat) : Int) % 256) ∧ ((((n / 256) : Nat) : Int) % 256) < (len8.size : Int)),(i6 (sbyte len8 ((((n / 256) : Nat) : Int) % 256))),(i6 (8 + (sbyte len8 ((((n / 256) : Nat) : Int) % 256))))]) ⟨om,om,om,trivial⟩ ?_
  refine Cfg.ret rfl (rs := [.tmp 2]) rfl [.int .i64 (8 + (sbyte len8 ((((n / 256) : Nat) : Int) % 256)))] ⟨kr,trivial⟩ (fun w1 hp => ?_)
  refine ⟨?_,hp.ext⟩
  show _ = Ending.returned (Value.int .i64 (lenN n : Int))
  have h8 := lenN_hi (n := n) om
  exact congrArg (fun (x : Int) => Ending.returned (Value.int .i64 x)) (by first | omega | (simp only [Int.zero_add]; omega))
 ·have c3 := (dF c3r)
  have hsz : len8.size = 256 := by kernel_rfl
  have hsb : sbyte len8 ((n : Int) % 256) = (lenN n : Int) := by rw [show (n : Int) % 256 = (n : Int) by omega]; exact len8_ok om
  have hle := lenN_le (n := n) om
  refine Rg [2] [] (fun _ => [(0 ≤ ((n : Int) % 256) ∧ ((n : Int) % 256) < (len8.size : Int)),(i6 (sbyte len8 ((n : Int) % 256))),(i6 (0 + (sbyte len8 ((n : Int) % 256))))]) ⟨om,om,om,trivial⟩ ?_
  refine Cfg.ret rfl (rs := [.tmp 2]) rfl [.int .i64 (0 + (sbyte len8 ((n : Int) % 256)))] ⟨kr,trivial⟩ (fun w1 hp => ?_)
  refine ⟨?_,hp.ext⟩
  show _ = Ending.returned (Value.int .i64 (lenN n : Int))
  skip
  exact congrArg (fun (x : Int) => Ending.returned (Value.int .i64 x)) (by first | omega | (simp only [Int.zero_add]; omega))
set_option maxRecDepth 100000 in
theorem bLen (n : Nat) (w : World) (hn : n < 65536) :
  Calls Tryz.prog 105 #[.int .u64 (n : Int)] w fun e w' => e = .returned (.int .i64 (lenN n : Int)) ∧ Ext [] w w' := by
 refine enter [] [] [] Tryz.func105 rfl kr (HP.start w) ?_
 refine Rq [0] ?_
 refine Cfg.condF rfl (b := false) kr rfl ?_
 refine Cfg.begL rfl ?_
 refine Lq 1 [6] ?_
 refine Lu (Eff.callA (.int .i64 (lenN n : Int)) rfl Tryz.func123 rfl rfl kr (fun w1 _ => bLen64 n w1 hn)) ?_
 refine Ld 1 [2] ?_
 refine Cfg.ret rfl (rs := [.tmp 2]) rfl [iN (lenN n)] ⟨kr,trivial⟩ (fun w1 hp => ?_)
 exact ⟨rfl,hp.ext⟩
set_option maxRecDepth 100000 in
theorem sNpt (n : Nat) (w : World) (hn : n < 60000) :
  Calls Tryz.prog 136 #[.int .i64 (n : Int)] w fun e w' => e = .returned (.int .u64 ((2 ^ lenN n : Nat) : Int)) ∧ Ext [] w w' := by
 have hle := lenN_le (n := n) om
 obtain ⟨P2,hP⟩ : ∃ P2,P2 = 2 ^ lenN n := ⟨_,rfl⟩
 have hpw : P2 ≤ 65536 := by rw [hP]; exact Nat.pow_le_pow_right (n := 2) (j := 16) (by decide) hle
 rw [← hP]
 refine enter [] [] [] Tryz.func136 rfl kr (HP.start w) ?_
 refine Rq [0] ?_
 refine Cfg.begL rfl ?_
 refine Lq 2 [4] ?_
 refine Lu (Eff.callA (vs := [.int .u64 ((n : Int) % 18446744073709551616)]) (.int .i64 (lenN n : Int)) rfl Tryz.func105 rfl rfl kr (fun w1 _ => by have h9 := bLen n w1 om; rw [show (n : Int) = (n : Int) % 18446744073709551616 by omega] at h9; exact h9)) ?_
 refine Lp 2 [] (some [2]) (fun _ => [(0 ≤ ((lenN n) : Int) ∧ ((lenN n)) ≤ 64)]) ⟨om,trivial⟩ ?_
 refine CfgL.done rfl ?_
 refine Cfg.ret rfl (rs := [.tmp 2]) rfl [.int .u64 ((1 * ((2 ^ ((lenN n)) : Nat) : Int)) % 18446744073709551616)] ⟨kr,trivial⟩ (fun w1 hp => ?_)
 exact ⟨congrArg (fun (x : Int) => Ending.returned (Value.int .u64 x)) (by show (1 : Int) * ((2 ^ lenN n : Nat) : Int) % 18446744073709551616 = (P2 : Int); rw [← hP]; omega),hp.ext⟩
set_option maxRecDepth 100000 in
theorem xNext (bx r : Nat) (w : World) (hB : w.heap[bx]? = some (.cells #[.int .u64 (r : Int)] 185 (0,0))) (hr : r < 18446744073709551616) :
  Calls Tryz.prog 137 #[.pointer (some ⟨bx,0,none⟩)] w fun e w' => e = .returned (.int .u64 (xsN r : Int)) ∧ Ext [bx] w w' ∧ w'.heap[bx]? = some (.cells #[.int .u64 (xsN r : Int)] 185 (0,0)) := by
 obtain ⟨r1,hr1⟩ : ∃ r1,r1 = r ^^^ (r * 2 ^ 13 % 18446744073709551616) := ⟨_,rfl⟩
 obtain ⟨r2,hr2⟩ : ∃ r2,r2 = r1 ^^^ (r1 / 2 ^ 7) := ⟨_,rfl⟩
 obtain ⟨r3,hr3⟩ : ∃ r3,r3 = r2 ^^^ (r2 * 2 ^ 17 % 18446744073709551616) := ⟨_,rfl⟩
 have l1 : r1 < 2 ^ 64 := by rw [hr1]; exact Nat.xor_lt_two_pow hr (Nat.mod_lt _ (by decide))
 have l2 : r2 < 2 ^ 64 := by rw [hr2]; exact Nat.xor_lt_two_pow l1 (Nat.lt_of_le_of_lt (Nat.div_le_self _ _) l1)
 have l3 : r3 < 2 ^ 64 := by rw [hr3]; exact Nat.xor_lt_two_pow l2 (Nat.mod_lt _ (by decide))
 have hx : xsN r = r3 := by rw [hr3,hr2,hr1]; rfl
 rw [hx]
 refine enter [bx] [] [(bx,.cells #[.int .u64 (r : Int)] 185 (0,0))] Tryz.func137 rfl kr (HP.startM (R := []) (fun _ h => by cases h) hB (by simp)) ?_
 refine Rq [0] ?_
 refine Cfg.begA rfl kr [] ?_
 refine CfgA.join (ι := Unit) (fun (_ : Unit) => [(bx,.cells (#[.int .u64 (r : Int)].setIfInBounds 0 (.int .u64 ((r ^^^ ((((r : Int) * 8192) % 18446744073709551616)).toNat : Nat) : Int))) 185 (0,0))]) (fun (_ : Unit) => [(0,[],pT bx)]) ?_ ?_
 ·rintro ⟨⟩
  refine oB 0 rfl (show _ = #[.int .u64 (r1 : Int)] from by rw [hr1]; kernel_rfl) ?_
  refine Cfg.begA rfl kr [] ?_
  refine CfgA.join (ι := Unit) (fun (_ : Unit) => [(bx,.cells (#[.int .u64 (r1 : Int)].setIfInBounds 0 (.int .u64 ((r1 ^^^ (r1 / 128) : Nat) : Int))) 185 (0,0))]) (fun (_ : Unit) => [(0,[],pT bx)]) ?_ ?_
  ·rintro ⟨⟩
   refine oB 0 rfl (show _ = #[.int .u64 (r2 : Int)] from by rw [hr2]; kernel_rfl) ?_
   refine Cfg.begA rfl kr [] ?_
   refine CfgA.join (ι := Unit) (fun (_ : Unit) => [(bx,.cells (#[.int .u64 (r2 : Int)].setIfInBounds 0 (.int .u64 ((r2 ^^^ ((((r2 : Int) * 131072) % 18446744073709551616)).toNat : Nat) : Int))) 185 (0,0))]) (fun (_ : Unit) => [(0,[],pT bx)]) ?_ ?_
   ·rintro ⟨⟩
    refine oB 0 rfl (show _ = #[.int .u64 (r3 : Int)] from by rw [hr3]; kernel_rfl) ?_
    refine Rg [2] [dZ,dZ,(dS (.int .u64 (r3 : Int)))] (fun S => [(cE S bx 0 (.int .u64 (r3 : Int)))]) ⟨(oC 0 rfl rfl),trivial⟩ ?_
    refine Cfg.ret rfl (rs := [.tmp 2]) rfl [.int .u64 (r3 : Int)] ⟨kr,trivial⟩ (fun w1 hp => ?_)
    exact ⟨rfl,hp.ext,hp.own (bx,_) mH⟩
   ·intro hj
    refine CfgA.pure [0,1,3,4] [] (some [0,21,22,25]) (l' := (bF 27 10)) kr kr (.cons _ .slnil) 6 rfl (Γ' := [(25,[],pT bx),(22,[],pT bx),(21,[],pT bx),(0,[],pT bx)]) (nd := (fun _ => [])) (fun _ => kr) trivial ?_
    refine CfgA.two 2 5 kr (fuel' := 5) rfl ?_ ?_
    ·
     refine Iu rfl  (Eff.quiet (raw := false) (orc := some (.int .u64 (r2 : Int))) (v := .int .u64 (r2 : Int)) (nd := (fun S => [(cE S bx 0 (.int .u64 (r2 : Int)))])) (fun _ => kr) ⟨(oC 0 rfl rfl),trivial⟩ kr) (fun _ _ => List.nil_sublist _) ?_
     refine Au 5 rfl 4  (Eff.quiet (raw := false) (orc := some (.int .u64 (r2 : Int))) (v := .int .u64 (r2 : Int)) (nd := (fun S => [(cE S bx 0 (.int .u64 (r2 : Int)))])) (fun _ => kr) ⟨(oC 0 rfl rfl),trivial⟩ kr) (fun _ _ => List.nil_sublist _) ?_
     refine Ap [6,7,8] [] (some [0,28,29]) (tF 9 1) (.cons _ .slnil) 1 (fun _ => [(0 ≤ (17 : Int) ∧ 17 ≤ 64),((0 ≤ (r2 : Int) ∧ (r2 : Int) ≤ 18446744073709551615) ∧ 0 ≤ (((r2 : Int) * 131072) % 18446744073709551616) ∧ (((r2 : Int) * 131072) % 18446744073709551616) ≤ 18446744073709551615)]) ⟨om,om,trivial⟩ ?_
     refine Au 9 rfl 0  (Eff.store1 (b := bx) (off := 0) (v := .int .u64 ((r2 ^^^ ((((r2 : Int) * 131072) % 18446744073709551616)).toNat : Nat) : Int)) rfl kr kr rfl kr 0 (cs := #[.int .u64 (r2 : Int)]) (e := 185) kr (by show 0 < 1; decide)) (fun _ _ => List.nil_sublist _) ?_
     refine CfgA.done kr ?_
     refine Cg (Γ' := [(0,[],pT bx)]) ?_
     refine Cg (Γ' := [(0,[],pT bx)]) ?_
     exact hj ()
    ·
     refine Iu rfl  (Eff.quiet (raw := false) (orc := some (.int .u64 (r2 : Int))) (v := .int .u64 (r2 : Int)) (nd := (fun S => [(cE S bx 0 (.int .u64 (r2 : Int)))])) (fun _ => kr) ⟨(oC 0 rfl rfl),trivial⟩ kr) (fun _ _ => List.nil_sublist _) ?_
     refine Ap [6] [] (some [0,21,22,27]) (bF 123 10) (.cons _ .slnil) 4 (fun _ => [(0 ≤ (17 : Int) ∧ 17 ≤ 64)]) ⟨om,trivial⟩ ?_
     refine Au 2 rfl 3  (Eff.quiet (raw := false) (orc := some (.int .u64 (r2 : Int))) (v := .int .u64 (r2 : Int)) (nd := (fun S => [(cE S bx 0 (.int .u64 (r2 : Int)))])) (fun _ => kr) ⟨(oC 0 rfl rfl),trivial⟩ kr) (fun _ _ => List.nil_sublist _) ?_
     refine Ap [7,8] [] (some [0,28,29]) (tF 9 1) (.cons _ .slnil) 1 (fun _ => [((0 ≤ (r2 : Int) ∧ (r2 : Int) ≤ 18446744073709551615) ∧ 0 ≤ (((r2 : Int) * 131072) % 18446744073709551616) ∧ (((r2 : Int) * 131072) % 18446744073709551616) ≤ 18446744073709551615)]) ⟨om,trivial⟩ ?_
     refine Au 9 rfl 0  (Eff.store1 (b := bx) (off := 0) (v := .int .u64 ((r2 ^^^ ((((r2 : Int) * 131072) % 18446744073709551616)).toNat : Nat) : Int)) rfl kr kr rfl kr 0 (cs := #[.int .u64 (r2 : Int)]) (e := 185) kr (by show 0 < 1; decide)) (fun _ _ => List.nil_sublist _) ?_
     refine CfgA.done kr ?_
     refine Cg (Γ' := [(0,[],pT bx)]) ?_
     refine Cg (Γ' := [(0,[],pT bx)]) ?_
     exact hj ()
  ·intro hj
   refine CfgA.pure [0,1,3,4] [] (some [0,12,13,16]) (l' := (bF 27 10)) kr kr (.cons _ .slnil) 6 rfl (Γ' := [(16,[],pT bx),(13,[],pT bx),(12,[],pT bx),(0,[],pT bx)]) (nd := (fun _ => [])) (fun _ => kr) trivial ?_
   refine CfgA.two 2 5 kr (fuel' := 5) rfl ?_ ?_
   ·
    refine Iu rfl  (Eff.quiet (raw := false) (orc := some (.int .u64 (r1 : Int))) (v := .int .u64 (r1 : Int)) (nd := (fun S => [(cE S bx 0 (.int .u64 (r1 : Int)))])) (fun _ => kr) ⟨(oC 0 rfl rfl),trivial⟩ kr) (fun _ _ => List.nil_sublist _) ?_
    refine Au 5 rfl 4  (Eff.quiet (raw := false) (orc := some (.int .u64 (r1 : Int))) (v := .int .u64 (r1 : Int)) (nd := (fun S => [(cE S bx 0 (.int .u64 (r1 : Int)))])) (fun _ => kr) ⟨(oC 0 rfl rfl),trivial⟩ kr) (fun _ _ => List.nil_sublist _) ?_
    refine Ap [6,7,8] [] (some [0,19,20]) (tF 9 1) (.cons _ .slnil) 1 (fun _ => [(0 ≤ (7 : Int) ∧ 7 ≤ 64),((0 ≤ (r1 : Int) ∧ (r1 : Int) ≤ 18446744073709551615) ∧ 0 ≤ ((r1 : Int) / 128) ∧ ((r1 : Int) / 128) ≤ 18446744073709551615)]) ⟨om,om,trivial⟩ ?_
    refine Au 9 rfl 0  (Eff.store1 (b := bx) (off := 0) (v := .int .u64 ((r1 ^^^ (r1 / 128) : Nat) : Int)) rfl kr kr rfl kr 0 (cs := #[.int .u64 (r1 : Int)]) (e := 185) kr (by show 0 < 1; decide)) (fun _ _ => List.nil_sublist _) ?_
    refine CfgA.done kr ?_
    refine Cg (Γ' := [(0,[],pT bx)]) ?_
    refine Cg (Γ' := [(0,[],pT bx)]) ?_
    exact hj ()
   ·
    refine Iu rfl  (Eff.quiet (raw := false) (orc := some (.int .u64 (r1 : Int))) (v := .int .u64 (r1 : Int)) (nd := (fun S => [(cE S bx 0 (.int .u64 (r1 : Int)))])) (fun _ => kr) ⟨(oC 0 rfl rfl),trivial⟩ kr) (fun _ _ => List.nil_sublist _) ?_
    refine Ap [6] [] (some [0,12,13,18]) (bF 123 10) (.cons _ .slnil) 4 (fun _ => [(0 ≤ (7 : Int) ∧ 7 ≤ 64)]) ⟨om,trivial⟩ ?_
    refine Au 2 rfl 3  (Eff.quiet (raw := false) (orc := some (.int .u64 (r1 : Int))) (v := .int .u64 (r1 : Int)) (nd := (fun S => [(cE S bx 0 (.int .u64 (r1 : Int)))])) (fun _ => kr) ⟨(oC 0 rfl rfl),trivial⟩ kr) (fun _ _ => List.nil_sublist _) ?_
    refine Ap [7,8] [] (some [0,19,20]) (tF 9 1) (.cons _ .slnil) 1 (fun _ => [((0 ≤ (r1 : Int) ∧ (r1 : Int) ≤ 18446744073709551615) ∧ 0 ≤ ((r1 : Int) / 128) ∧ ((r1 : Int) / 128) ≤ 18446744073709551615)]) ⟨om,trivial⟩ ?_
    refine Au 9 rfl 0  (Eff.store1 (b := bx) (off := 0) (v := .int .u64 ((r1 ^^^ (r1 / 128) : Nat) : Int)) rfl kr kr rfl kr 0 (cs := #[.int .u64 (r1 : Int)]) (e := 185) kr (by show 0 < 1; decide)) (fun _ _ => List.nil_sublist _) ?_
    refine CfgA.done kr ?_
    refine Cg (Γ' := [(0,[],pT bx)]) ?_
    refine Cg (Γ' := [(0,[],pT bx)]) ?_
    exact hj ()
 ·intro hj
  refine CfgA.pure [0,1,3,4] [] (some [0,3,4,7]) (l' := (bF 27 10)) kr kr (.cons _ .slnil) 6 rfl (Γ' := [(7,[],pT bx),(4,[],pT bx),(3,[],pT bx),(0,[],pT bx)]) (nd := (fun _ => [])) (fun _ => kr) trivial ?_
  refine CfgA.two 2 5 kr (fuel' := 5) rfl ?_ ?_
  ·
   refine Iu rfl  (Eff.quiet (raw := false) (orc := some (.int .u64 (r : Int))) (v := .int .u64 (r : Int)) (nd := (fun S => [(cE S bx 0 (.int .u64 (r : Int)))])) (fun _ => kr) ⟨(oC 0 rfl rfl),trivial⟩ kr) (fun _ _ => List.nil_sublist _) ?_
   refine Au 5 rfl 4  (Eff.quiet (raw := false) (orc := some (.int .u64 (r : Int))) (v := .int .u64 (r : Int)) (nd := (fun S => [(cE S bx 0 (.int .u64 (r : Int)))])) (fun _ => kr) ⟨(oC 0 rfl rfl),trivial⟩ kr) (fun _ _ => List.nil_sublist _) ?_
   refine Ap [6,7,8] [] (some [0,10,11]) (tF 9 1) (.cons _ .slnil) 1 (fun _ => [(0 ≤ (13 : Int) ∧ 13 ≤ 64),((0 ≤ (r : Int) ∧ (r : Int) ≤ 18446744073709551615) ∧ 0 ≤ (((r : Int) * 8192) % 18446744073709551616) ∧ (((r : Int) * 8192) % 18446744073709551616) ≤ 18446744073709551615)]) ⟨om,om,trivial⟩ ?_
   refine Au 9 rfl 0  (Eff.store1 (b := bx) (off := 0) (v := .int .u64 ((r ^^^ ((((r : Int) * 8192) % 18446744073709551616)).toNat : Nat) : Int)) rfl kr kr rfl kr 0 (cs := #[.int .u64 (r : Int)]) (e := 185) kr (by show 0 < 1; decide)) (fun _ _ => List.nil_sublist _) ?_
   refine CfgA.done kr ?_
   refine Cg (Γ' := [(0,[],pT bx)]) ?_
   refine Cg (Γ' := [(0,[],pT bx)]) ?_
   exact hj ()
  ·
   refine Iu rfl  (Eff.quiet (raw := false) (orc := some (.int .u64 (r : Int))) (v := .int .u64 (r : Int)) (nd := (fun S => [(cE S bx 0 (.int .u64 (r : Int)))])) (fun _ => kr) ⟨(oC 0 rfl rfl),trivial⟩ kr) (fun _ _ => List.nil_sublist _) ?_
   refine Ap [6] [] (some [0,3,4,9]) (bF 123 10) (.cons _ .slnil) 4 (fun _ => [(0 ≤ (13 : Int) ∧ 13 ≤ 64)]) ⟨om,trivial⟩ ?_
   refine Au 2 rfl 3  (Eff.quiet (raw := false) (orc := some (.int .u64 (r : Int))) (v := .int .u64 (r : Int)) (nd := (fun S => [(cE S bx 0 (.int .u64 (r : Int)))])) (fun _ => kr) ⟨(oC 0 rfl rfl),trivial⟩ kr) (fun _ _ => List.nil_sublist _) ?_
   refine Ap [7,8] [] (some [0,10,11]) (tF 9 1) (.cons _ .slnil) 1 (fun _ => [((0 ≤ (r : Int) ∧ (r : Int) ≤ 18446744073709551615) ∧ 0 ≤ (((r : Int) * 8192) % 18446744073709551616) ∧ (((r : Int) * 8192) % 18446744073709551616) ≤ 18446744073709551615)]) ⟨om,trivial⟩ ?_
   refine Au 9 rfl 0  (Eff.store1 (b := bx) (off := 0) (v := .int .u64 ((r ^^^ ((((r : Int) * 8192) % 18446744073709551616)).toNat : Nat) : Int)) rfl kr kr rfl kr 0 (cs := #[.int .u64 (r : Int)]) (e := 185) kr (by show 0 < 1; decide)) (fun _ _ => List.nil_sublist _) ?_
   refine CfgA.done kr ?_
   refine Cg (Γ' := [(0,[],pT bx)]) ?_
   refine Cg (Γ' := [(0,[],pT bx)]) ?_
   exact hj ()
set_option maxRecDepth 100000 in
set_option maxHeartbeats 2000000 in
theorem sBrk (bk cp : Nat) (jk : List Value) (L : List Nat) (a b : Nat) (w : World) (hB : w.heap[bk]? = some (.cells (nv L ++ jk).toArray 73 (0,0))) (hL : L.length ≤ 50000) (hb : b ≤ L.length) (hab : 12 < b - a) :
  Calls Tryz.prog 115 #[.slice (some ⟨bk,0,none⟩) L.length cp,.int .i64 (a : Int),.int .i64 (b : Int)] w fun e w' => e = .returned (.tuple #[]) ∧ Ext [bk] w w' ∧ w'.heap[bk]? = some (.cells (nv (brkF L a b) ++ jk).toArray 73 (0,0)) := by
 obtain ⟨l,hl⟩ : ∃ l,l = b - a := ⟨_,rfl⟩
 have hle := lenN_le (n := l) om
 obtain ⟨P2,hP⟩ : ∃ P2,P2 = 2 ^ lenN l := ⟨_,rfl⟩
 have hpw : P2 ≤ 65536 := by rw [hP]; exact Nat.pow_le_pow_right (n := 2) (j := 16) (by decide) hle
 have hp0 : 0 < P2 := by rw [hP]; exact Nat.pow_pos (by decide)
 refine enter [bk] [] [(bk,.cells ((nv L ++ jk).toArray) 73 (0,0))] Tryz.func115 rfl kr (HP.startM (R := []) (fun _ h => by cases h) hB (by simp)) ?_
 refine Rg [0,1,6] [] (fun _ => [(i6 ((b : Int) - (a : Int)))]) ⟨om,trivial⟩ ?_
 refine sI 6 (show ((b : Int) - (a : Int)) = (l : Int) from by omega) ?_
 refine Rq [0,1,6,15] ?_
 refine Cfg.condT rfl (b := (decide ((l : Int) ≥ (8 : Int)))) kr (decide_eq_true om) ?_
 refine Cfg.begL rfl ?_
 refine Lq 2 [0,1,6,17] ?_
 refine Le (Eff.alloc (z := (.int .u64 0)) rfl kr) ?_
 rintro rn ⟨hrn,nrn⟩
 refine Lu (Eff.store1 (b := rn) (off := 0) (v := .int .u64 ((l : Int) % 18446744073709551616)) rfl kr kr rfl kr 0 (cs := #[.int .u64 0]) (e := 185) kr (by show 0 < 1; decide)) ?_
 refine CfgL.done rfl ?_
 refine Cg (Γ' := [(7,[],pT rn),(6,[],iN l),(0,[],.slice (some ⟨bk,0,none⟩) L.length cp),(1,[],iN a)]) ?_
 refine Cfg.begL rfl ?_
 refine Lp 1 [] none n0 trivial ?_
 refine Lu (Eff.callA (vs := [iN l]) (.int .u64 (P2 : Int)) rfl Tryz.func136 rfl rfl kr (fun w1 _ => by have h9 := sNpt l w1 om; rw [← hP] at h9; exact h9)) ?_
 refine Ld 1 [0,1,6,7,8] ?_
 refine Rg [0,1,6,7,8,9] [] (fun _ => [(0 ≤ (l : Int) ∧ (l : Int) ≤ 9223372036854775807 ∧ 0 < (4 : Int)),(i6 (((l : Int) / 4) * 2)),(i6 ((a : Int) + (((l : Int) / 4) * 2))),(i6 (((a : Int) + (((l : Int) / 4) * 2)) - 1))]) ⟨om,om,om,om,trivial⟩ ?_
 refine Cfg.setO (congrArg (fun (xq : Array Value) => ([(rn,.cells xq 185 (0,0)),(bk,.cells ((nv L ++ jk).toArray) 73 (0,0))] : LO)) (show _ = #[.int .u64 (l : Int)] from by rw [show (l : Int) % 18446744073709551616 = (l : Int) by omega]; rfl)) ?_
 refine sI 9 (show (((a : Int) + (((l : Int) / 4) * 2)) - 1) = (((a + l / 4 * 2 - 1) : Nat) : Int) from by omega) ?_
 refine Cfg.loop rfl (ι := Nat × Nat × List Nat × Nat) (fun (xz : Nat × Nat × List Nat × Nat) => match xz with | (i,r,L1,n9) => [(9,[],iN i),(8,[],.int .u64 (P2 : Int)),(7,[],pT rn),(6,[],iN l),(0,[],.slice (some ⟨bk,0,none⟩) L.length cp),(1,[],iN a)]) (fun (xz : Nat × Nat × List Nat × Nat) => match xz with | (i,r,L1,n9) => [(rn,.cells #[.int .u64 (r : Int)] 185 (0,0)),(bk,.cells ((nv L1 ++ jk).toArray) 73 (0,0))]) (fun (xz : Nat × Nat × List Nat × Nat) => match xz with | (i,r,L1,n9) => (i + n9 = a + l / 4 * 2 + 2) ∧ (L1.length = L.length) ∧ (r < 18446744073709551616) ∧ (brkL a l n9 i r L1 = brkF L a b)) (fun (xz : Nat × Nat × List Nat × Nat) => match xz with | (i,r,L1,n9) => n9) (a + l / 4 * 2 - 1,l,L,3) ?_ (Conv.mk kr) (.cons_cons _ (.cons_cons _ .slnil)) ?_
 ·exact ⟨by omega,rfl,by omega,by rw [hl]; rfl⟩
 ·rintro ⟨i,r,L1,n9⟩ ⟨hi,hl1,hr,hra⟩
  refine Rg [0,1,6,7,8,9,33] [] (fun _ => [(0 ≤ (l : Int) ∧ (l : Int) ≤ 9223372036854775807 ∧ 0 < (4 : Int)),(i6 (((l : Int) / 4) * 2)),(i6 ((a : Int) + (((l : Int) / 4) * 2))),(i6 (((a : Int) + (((l : Int) / 4) * 2)) + 1))]) ⟨om,om,om,om,trivial⟩ ?_
  refine Cfg.cond rfl (b := (decide ((i : Int) ≤ (((a : Int) + (((l : Int) / 4) * 2)) + 1)))) kr (fun c2r => ?_) (fun c2r => ?_)
  ·have c2 := (dT c2r)
   have hxr := xsN_lt hr
   have hq2 : (xsN r &&& (((P2 : Int) - 1) % 18446744073709551616).toNat) ≤ 65536 := Nat.le_trans Nat.and_le_right om
   refine Cfg.begL rfl ?_
   refine Lu (Eff.callM (.int .u64 (xsN r : Int)) 0 (b := rn) (ob := .cells #[.int .u64 (r : Int)] 185 (0,0)) (.cells #[.int .u64 (xsN r : Int)] 185 (0,0)) rfl Tryz.func137 rfl rfl kr kr (fun w1 h => xNext rn r w1 (h.own (rn,_) (mG 0 rfl)) hr)) ?_
   refine Lp 5 [] (some [0,1,6,7,8,9,10]) (fun _ => [((0 ≤ ((xsN r) : Int) ∧ ((xsN r) : Int) ≤ 18446744073709551615) ∧ 0 ≤ (((P2 : Int) - 1) % 18446744073709551616) ∧ (((P2 : Int) - 1) % 18446744073709551616) ≤ 18446744073709551615),(i6 ((((xsN r)) &&& ((((P2 : Int) - 1) % 18446744073709551616)).toNat : Nat) : Int))]) ⟨om,om,trivial⟩ ?_
   refine CfgL.done rfl ?_
   obtain ⟨x0,hx0⟩ : ∃ x0,x0 = xsN r &&& (P2 - 1) := ⟨_,rfl⟩
   obtain ⟨q,hq⟩ : ∃ q,q = othN l (xsN r) := ⟨_,rfl⟩
   have hql : q < l := by rw [hq]; exact othN_lt om
   have hqe : q = if l ≤ x0 then x0 - l else x0 := by rw [hq,hx0,hP]; rfl
   have hq3 : (xsN r &&& (((P2 : Int) - 1) % 18446744073709551616).toNat) = x0 := by rw [hx0,show (((P2 : Int) - 1) % 18446744073709551616).toNat = P2 - 1 by omega]
   refine sI 10 (show ((((xsN r)) &&& ((((P2 : Int) - 1) % 18446744073709551616)).toNat : Nat) : Int) = (x0 : Int) from by rw [← hq3]) ?_
   refine Rq [0,1,6,7,8,9,10,43] ?_
   refine Cfg.share rfl (ι := Unit) (fun _ => [(10,[],iN q),(9,[],iN i),(8,[],.int .u64 (P2 : Int)),(7,[],pT rn),(6,[],iN l),(0,[],.slice (some ⟨bk,0,none⟩) L.length cp),(1,[],iN a)]) (fun _ => [(rn,.cells #[.int .u64 ((xsN r) : Int)] 185 (0,0)),(bk,.cells ((nv L1 ++ jk).toArray) 73 (0,0))]) (fun _ => True) ?_ ?_
   ·rintro ⟨⟩ -
    refine Cfg.begA rfl kr [(rn,.cells #[.int .u64 ((xsN r) : Int)] 185 (0,0))] ?_
    refine CfgA.join (ι := Unit) (fun (_ : Unit) => [(rn,.cells #[.int .u64 ((xsN r) : Int)] 185 (0,0)),(bk,.cells (((nv L1 ++ jk).toArray.setIfInBounds i (uN ((L1.getD ((a + q)) 0)))).setIfInBounds ((a + q)) (uN (L1.getD i 0))) 73 (0,0))]) (fun (_ : Unit) => [(9,[],iN i),(8,[],.int .u64 (P2 : Int)),(7,[],pT rn),(6,[],iN l),(0,[],.slice (some ⟨bk,0,none⟩) L.length cp),(1,[],iN a)]) ?_ ?_
    ·rintro ⟨⟩
     refine oB 1 rfl (show _ = ((nv (swpN L1 i ((a + q))) ++ jk).toArray) from nv_swp jk om om om om) ?_
     refine Rg [0,1,6,7,8,9] [] (fun _ => [(i6 ((i : Int) + 1))]) ⟨om,trivial⟩ ?_
     refine Cfg.again rfl (i + 1,xsN r,swpN L1 i (a + q),n9 - 1) ⟨by omega,by rw [swpN_len]; exact hl1,xsN_lt hr,by rw [hq]; exact (brkL_go om).symm.trans hra⟩ (by show n9 - 1 < n9; omega) (Conv.mk kr) (.cons_cons _ (.cons_cons _ .slnil))
    ·intro hj
     refine CfgA.pure [0,1,2,3,4,5,6,7,8,9,10,12,13,14] [] (some [0,1,6,7,8,9,47,48,49,52,57,61]) (l' := (bF 30719 20)) kr kr (.cons_cons _ (.cons _ .slnil)) 6 rfl (Γ' := [(61,[],.pointer (some ⟨bk,i,none⟩)),(57,[],.pointer (some ⟨bk,(a + q),none⟩)),(52,[],.int .i64 ((a : Int) + (q : Int))),(49,[],.slice (some ⟨bk,0,none⟩) L.length cp),(48,[],iN i),(47,[],.slice (some ⟨bk,0,none⟩) L.length cp),(9,[],iN i),(8,[],.int .u64 (P2 : Int)),(7,[],pT rn),(6,[],iN l),(0,[],.slice (some ⟨bk,0,none⟩) L.length cp),(1,[],iN a)]) (nd := (fun _ => [(i6 ((a : Int) + (q : Int))),(i6 ((a : Int) + (q : Int))),(0 ≤ ((a : Int) + (q : Int)) ∧ ((a : Int) + (q : Int)) < (L.length : Int)),(0 ≤ (i : Int) ∧ (i : Int) < (L.length : Int))])) (fun _ => kr) ⟨om,om,om,om,trivial⟩ ?_
     refine CfgA.two 11 15 kr (fuel' := 5) rfl ?_ ?_
     ·
      refine Iu rfl  (Eff.quiet (raw := false) (orc := some (uN ((L1.getD ((a + q)) 0)))) (v := uN ((L1.getD ((a + q)) 0))) (nd := (fun S => [(cE S bk (a + q) (uN ((L1.getD ((a + q)) 0))))])) (fun _ => kr) ⟨(fun w1 h => h.ocell 1 rfl (nv_at jk om om)),trivial⟩ kr) (fun _ _ => (.cons_cons _ (.cons _ .slnil))) ?_
      refine Au 15 rfl 4  (Eff.quiet (raw := false) (orc := some (uN (L1.getD i 0))) (v := uN (L1.getD i 0)) (nd := (fun S => [(cE S bk i (uN (L1.getD i 0)))])) (fun _ => kr) ⟨(fun w1 h => h.ocell 1 rfl (nv_at jk om om)),trivial⟩ kr) (fun _ _ => (.cons_cons _ (.cons _ .slnil))) ?_
      refine Ap [16] [] (some [0,1,6,7,8,9,49,52,58,62,63]) (tF 17 3) (.cons_cons _ (.cons _ .slnil)) 3 (fun _ => [(0 ≤ (i : Int) ∧ (i : Int) < (L.length : Int))]) ⟨om,trivial⟩ ?_
      refine Au 17 rfl 2  (Eff.store1 (b := bk) (off := i) (v := uN ((L1.getD ((a + q)) 0))) rfl kr kr rfl kr 1 (cs := (nv L1 ++ jk).toArray) (e := 73) kr (by rw [nv_size]; omega)) (fun _ _ => (.cons_cons _ (.cons _ .slnil))) ?_
      refine Ap [18] [] (some [0,1,6,7,8,9,62,64]) (tF 19 1) (.cons_cons _ (.cons _ .slnil)) 1 (fun _ => [(0 ≤ ((a : Int) + (q : Int)) ∧ ((a : Int) + (q : Int)) < (L.length : Int))]) ⟨om,trivial⟩ ?_
      refine Au 19 rfl 0  (Eff.store1 (b := bk) (off := (a + q)) (v := uN (L1.getD i 0)) rfl kr kr rfl kr 1 (cs := ((nv L1 ++ jk).toArray.setIfInBounds i (uN ((L1.getD ((a + q)) 0))))) (e := 73) kr (by rw [Array.size_setIfInBounds,nv_size]; omega)) (fun _ _ => (.cons_cons _ (.cons _ .slnil))) ?_
      refine CfgA.done kr ?_
      refine Cg (Γ' := [(9,[],iN i),(8,[],.int .u64 (P2 : Int)),(7,[],pT rn),(6,[],iN l),(0,[],.slice (some ⟨bk,0,none⟩) L.length cp),(1,[],iN a)]) ?_
      refine Cg (Γ' := [(9,[],iN i),(8,[],.int .u64 (P2 : Int)),(7,[],pT rn),(6,[],iN l),(0,[],.slice (some ⟨bk,0,none⟩) L.length cp),(1,[],iN a)]) ?_
      exact hj ()
     ·
      refine Iu rfl  (Eff.quiet (raw := false) (orc := some (uN (L1.getD i 0))) (v := uN (L1.getD i 0)) (nd := (fun S => [(cE S bk i (uN (L1.getD i 0)))])) (fun _ => kr) ⟨(fun w1 h => h.ocell 1 rfl (nv_at jk om om)),trivial⟩ kr) (fun _ _ => (.cons_cons _ (.cons _ .slnil))) ?_
      refine Au 11 rfl 4  (Eff.quiet (raw := false) (orc := some (uN ((L1.getD ((a + q)) 0)))) (v := uN ((L1.getD ((a + q)) 0))) (nd := (fun S => [(cE S bk (a + q) (uN ((L1.getD ((a + q)) 0))))])) (fun _ => kr) ⟨(fun w1 h => h.ocell 1 rfl (nv_at jk om om)),trivial⟩ kr) (fun _ _ => (.cons_cons _ (.cons _ .slnil))) ?_
      refine Ap [16] [] (some [0,1,6,7,8,9,49,52,58,62,63]) (tF 17 3) (.cons_cons _ (.cons _ .slnil)) 3 (fun _ => [(0 ≤ (i : Int) ∧ (i : Int) < (L.length : Int))]) ⟨om,trivial⟩ ?_
      refine Au 17 rfl 2  (Eff.store1 (b := bk) (off := i) (v := uN ((L1.getD ((a + q)) 0))) rfl kr kr rfl kr 1 (cs := (nv L1 ++ jk).toArray) (e := 73) kr (by rw [nv_size]; omega)) (fun _ _ => (.cons_cons _ (.cons _ .slnil))) ?_
      refine Ap [18] [] (some [0,1,6,7,8,9,62,64]) (tF 19 1) (.cons_cons _ (.cons _ .slnil)) 1 (fun _ => [(0 ≤ ((a : Int) + (q : Int)) ∧ ((a : Int) + (q : Int)) < (L.length : Int))]) ⟨om,trivial⟩ ?_
      refine Au 19 rfl 0  (Eff.store1 (b := bk) (off := (a + q)) (v := uN (L1.getD i 0)) rfl kr kr rfl kr 1 (cs := ((nv L1 ++ jk).toArray.setIfInBounds i (uN ((L1.getD ((a + q)) 0))))) (e := 73) kr (by rw [Array.size_setIfInBounds,nv_size]; omega)) (fun _ _ => (.cons_cons _ (.cons _ .slnil))) ?_
      refine CfgA.done kr ?_
      refine Cg (Γ' := [(9,[],iN i),(8,[],.int .u64 (P2 : Int)),(7,[],pT rn),(6,[],iN l),(0,[],.slice (some ⟨bk,0,none⟩) L.length cp),(1,[],iN a)]) ?_
      refine Cg (Γ' := [(9,[],iN i),(8,[],.int .u64 (P2 : Int)),(7,[],pT rn),(6,[],iN l),(0,[],.slice (some ⟨bk,0,none⟩) L.length cp),(1,[],iN a)]) ?_
      exact hj ()
   ·intro hj1
    refine Cfg.cond rfl (b := (decide ((x0 : Int) ≥ (l : Int)))) kr (fun c3r => ?_) (fun c3r => ?_)
    ·have c3 := (dT c3r)
     rw [if_pos om] at hqe
     refine Rg [0,1,6,7,8,9,10] [] (fun _ => [(i6 ((x0 : Int) - (l : Int)))]) ⟨om,trivial⟩ ?_
     refine sI 10 (show ((x0 : Int) - (l : Int)) = (q : Int) from by omega) ?_
     exact Cfg.joinS hj1 () trivial rfl (Conv.mk kr) (.cons_cons _ (.cons_cons _ .slnil))
    ·have c3 := (dF c3r)
     rw [if_neg om] at hqe
     refine sI 10 (show (x0 : Int) = (q : Int) from by omega) ?_
     exact Cfg.joinS hj1 () trivial rfl (Conv.mk kr) (.cons_cons _ (.cons_cons _ .slnil))
  ·have c2 := (dF c2r)
   refine Cfg.fin rfl (rs := []) rfl [] trivial (fun w1 hp => ?_)
   have hfin : L1 = brkF L a b := by rw [← hra,show n9 = 0 by omega]; rfl
   rw [← hfin]
   exact ⟨rfl,hp.ext,hp.own (bk,_) (mG 1 rfl)⟩
end Go.Proofs.YtbeeelgfhfmgbaaGreatDoor
