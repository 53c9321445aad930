/- Texts on which the proof of this claim stands: So5, K37, So6, Rt2, K40, Rt3, K33, Rt4, K41, Rt5. -/
import Derived.Test.YtbeeelgfhfmgbaaGreatDoorP4
import Derived.Test.YtbeeelgfhfmgbaaGreatDoorP1
import Derived.Test.YtbeeelgfhfmgbaaGreatDoorP2
import Derived.Test.YtbeeelgfhfmgbaaGreatDoorP3
namespace Go.Proofs.YtbeeelgfhfmgbaaGreatDoor
open K
set_option linter.unusedVariables false
def PdqC (n : Nat) : Prop := ∀ (bk cp : Nat) (jk : List Value) (L : List Nat) (a b lim : Nat) (w : World),w.heap[bk]? = some (.cells (nv L ++ jk).toArray 73 (0,0)) → L.length ≤ 50000 → b ≤ L.length → a ≤ b → lim ≤ 1000 → b - a < n →
 Calls Tryz.prog 104 #[.slice (some ⟨bk,0,none⟩) L.length cp,.int .i64 (a : Int),.int .i64 (b : Int),.int .i64 (lim : Int)] w fun e w' => e = .returned (.tuple #[]) ∧ Ext [bk] w w' ∧ w'.heap[bk]? = some (.cells (nv (pdqF n L a b lim true true) ++ jk).toArray 73 (0,0))
theorem preF_q {L : List Nat} {a b : Nat} {wb wp : Bool} {C : Nat × Nat} {L2 L3 : List Nat} {p3 : Nat} (h2 : L2 = bif wb then L else brkF L a b) (hC : C = chpN L2 a (b - a)) (h3 : L3 = if C.2 = 12 then revF (b - a) a (b - 1) L2 else L2) (hp : p3 = if C.2 = 12 then b - 1 - (C.1 - a) else C.1) :
  preF L a b wb wp = if wb = true ∧ wp = true ∧ (C.2 = 0 ∨ C.2 = 12) then ((pisF a b 5 (a + 1) L3).1,(pisF a b 5 (a + 1) L3).2,p3) else (false,L3,p3) := by
 subst h2; subst hC; subst h3; subst hp; rfl
theorem hint2 {s : Nat} (h : hintF s = 2) : s = 12 := by
 unfold hintF at h
 split at h
 ·cases h
 ·split at h
  ·assumption
  ·cases h
theorem hint1 {s : Nat} : (if s = 12 then 1 else hintF s) = 1 ↔ (s = 0 ∨ s = 12) := by
 unfold hintF
 split
 ·exact ⟨fun _ => .inr (by assumption),fun _ => rfl⟩
 ·split
  ·exact ⟨fun _ => .inl (by assumption),fun _ => rfl⟩
  ·exact ⟨fun h => (by cases h),fun h => om⟩
theorem pdqF_ins {n a b lim : Nat} {wb wp : Bool} {L : List Nat} (h : b - a ≤ 12) : pdqF (n + 1) L a b lim wb wp = insF L a b := by rw [pdqF,if_pos h]
theorem pdqF_heap {n a b lim : Nat} {wb wp : Bool} {L : List Nat} (h : ¬ b - a ≤ 12) (h2 : lim = 0) : pdqF (n + 1) L a b lim wb wp = heapF L a b := by rw [pdqF,if_neg h,if_pos h2]
theorem pdqF_done {n a b lim : Nat} {wb wp : Bool} {L : List Nat} {X : Bool × List Nat × Nat} (h : ¬ b - a ≤ 12) (h2 : ¬ lim = 0) (hX : preF L a b wb wp = X) (h3 : X.1 = true) : pdqF (n + 1) L a b lim wb wp = X.2.1 := by
 subst hX; rw [pdqF,if_neg h,if_neg h2,if_pos h3]
theorem pdqF_eq {n a b lim l2 : Nat} {wb wp : Bool} {L L4 : List Nat} {p : Nat} (h : ¬ b - a ≤ 12) (h2 : ¬ lim = 0) (hX : preF L a b wb wp = (false,L4,p)) (hl : l2 = bif wb then lim else lim - 1) (h3 : 0 < a ∧ ¬ L4.getD (a - 1) 0 < L4.getD p 0) :
  pdqF (n + 1) L a b lim wb wp = pdqF n (peqF L4 a b p).1 (peqF L4 a b p).2 b l2 wb wp := by
 subst hl; rw [pdqF,if_neg h,if_neg h2,hX]
 simp only
 rw [if_neg (by decide),if_pos h3]
theorem pdqF_lt {n a b lim l2 : Nat} {wb wp : Bool} {L L4 : List Nat} {p : Nat} (h : ¬ b - a ≤ 12) (h2 : ¬ lim = 0) (hX : preF L a b wb wp = (false,L4,p)) (hl : l2 = bif wb then lim else lim - 1) (h3 : ¬ (0 < a ∧ ¬ L4.getD (a - 1) 0 < L4.getD p 0)) {Y : List Nat × Nat × Bool} (hY : Y = partF L4 a b p) (h4 : Y.2.1 - a < b - Y.2.1) :
  pdqF (n + 1) L a b lim wb wp = pdqF n (pdqF n Y.1 a Y.2.1 l2 true true) (Y.2.1 + 1) b l2 (decide ((b - a) / 8 ≤ Y.2.1 - a)) Y.2.2 := by
 subst hl; subst hY; rw [pdqF,if_neg h,if_neg h2,hX]
 simp only
 rw [if_neg (by decide),if_neg h3,if_pos h4]
theorem pdqF_ge {n a b lim l2 : Nat} {wb wp : Bool} {L L4 : List Nat} {p : Nat} (h : ¬ b - a ≤ 12) (h2 : ¬ lim = 0) (hX : preF L a b wb wp = (false,L4,p)) (hl : l2 = bif wb then lim else lim - 1) (h3 : ¬ (0 < a ∧ ¬ L4.getD (a - 1) 0 < L4.getD p 0)) {Y : List Nat × Nat × Bool} (hY : Y = partF L4 a b p) (h4 : ¬ Y.2.1 - a < b - Y.2.1) :
  pdqF (n + 1) L a b lim wb wp = pdqF n (pdqF n Y.1 (Y.2.1 + 1) b l2 true true) a Y.2.1 l2 (decide ((b - a) / 8 ≤ b - Y.2.1)) Y.2.2 := by
 subst hl; subst hY; rw [pdqF,if_neg h,if_neg h2,hX]
 simp only
 rw [if_neg (by decide),if_neg h3,if_neg h4]
set_option maxRecDepth 100000 in
set_option maxHeartbeats 4000000 in
theorem sPdqS (n : Nat) (IH : ∀ k,k ≤ n → PdqC k) (bk cp : Nat) (jk : List Value) (L : List Nat) (a b lim : Nat) (w : World) (hB : w.heap[bk]? = some (.cells (nv L ++ jk).toArray 73 (0,0))) (hL : L.length ≤ 50000) (hb : b ≤ L.length) (hab : a ≤ b) (hlim : lim ≤ 1000) (hn : b - a < n + 1) :
  Calls Tryz.prog 104 #[.slice (some ⟨bk,0,none⟩) L.length cp,.int .i64 (a : Int),.int .i64 (b : Int),.int .i64 (lim : Int)] w fun e w' => e = .returned (.tuple #[]) ∧ Ext [bk] w w' ∧ w'.heap[bk]? = some (.cells (nv (pdqF (n + 1) L a b lim true true) ++ jk).toArray 73 (0,0)) := by
 refine enter [bk] [] [(bk,.cells ((nv L ++ jk).toArray) 73 (0,0))] Tryz.func104 rfl kr (HP.startM (R := []) (fun _ h => by cases h) hB (by simp)) ?_
 refine Rq [0,1,2,3,8] ?_
 refine Rq [0,1,2,3,8,9] ?_
 refine Cfg.loop rfl (ι := Nat × Nat × Nat × Bool × Bool × List Nat × Nat) (fun (xz : Nat × Nat × Nat × Bool × Bool × List Nat × Nat) => match xz with | (i,j,l1,wb,wp,L1,m) => [(9,[],.bool wp),(8,[],.bool wb),(0,[],.slice (some ⟨bk,0,none⟩) L.length cp),(1,[],iN i),(2,[],iN j),(3,[],iN l1)]) (fun (xz : Nat × Nat × Nat × Bool × Bool × List Nat × Nat) => match xz with | (i,j,l1,wb,wp,L1,m) => [(bk,.cells ((nv L1 ++ jk).toArray) 73 (0,0))]) (fun (xz : Nat × Nat × Nat × Bool × Bool × List Nat × Nat) => match xz with | (i,j,l1,wb,wp,L1,m) => (i ≤ j) ∧ (j ≤ L.length) ∧ (L1.length = L.length) ∧ (l1 ≤ 1000) ∧ (j - i < m) ∧ (m ≤ n + 1) ∧ (pdqF m L1 i j l1 wb wp = pdqF (n + 1) L a b lim true true)) (fun (xz : Nat × Nat × Nat × Bool × Bool × List Nat × Nat) => match xz with | (i,j,l1,wb,wp,L1,m) => m) (a,b,lim,true,true,L,n + 1) ?_ (Conv.mk kr) (.cons_cons _ .slnil) ?_
 ·exact ⟨hab,hb,rfl,hlim,hn,Nat.le_refl _,rfl⟩
 ·rintro ⟨i,j,l1,wb,wp,L1,m⟩ ⟨hij,hj,hl1,hl,hm,hmn,hra⟩
  obtain ⟨m,rfl⟩ : ∃ k,m = k + 1 := ⟨m - 1,by omega⟩
  refine Rg [0,1,2,3,8,9,10] [] (fun _ => [(i6 ((j : Int) - (i : Int)))]) ⟨om,trivial⟩ ?_
  refine sI 10 (show ((j : Int) - (i : Int)) = (((j - i) : Nat) : Int) from by omega) ?_
  refine Rq [0,1,2,3,8,9,10,23] ?_
  refine Cfg.cond rfl (b := (decide ((((j - i) : Nat) : Int) ≤ (12 : Int)))) kr (fun c1r => ?_) (fun c1r => ?_)
  ·have c1 := (dT c1r)
   refine Cfg.begL rfl ?_
   refine Lq 3 [24,25,26] ?_
   refine Lu (Eff.callM (vs := [.slice (some ⟨bk,0,none⟩) L.length cp,iN i,iN j]) (.tuple #[]) 0 (b := bk) (ob := .cells (nv L1 ++ jk).toArray 73 (0,0)) (.cells (nv (insF L1 i j) ++ jk).toArray 73 (0,0)) rfl Tryz.func113 rfl rfl kr kr (fun w1 h => by have h9 := sIns bk cp jk L1 i j w1 (h.own (bk,_) (mG 0 rfl)) om om om; rw [hl1] at h9; exact h9)) ?_
   refine CfgL.done rfl ?_
   refine Cg (Γ' := []) ?_
   refine Cfg.ret rfl (rs := []) rfl [] trivial (fun w1 hp => ?_)
   have hfin := (pdqF_ins om).symm.trans hra
   rw [← hfin]
   exact ⟨rfl,hp.ext,hp.own (bk,_) mH⟩
  ·have c1 := (dF c1r)
   refine Rq [0,1,2,3,8,9,10,29] ?_
   refine Cfg.cond rfl (b := ((l1 : Int) == (0 : Int))) kr (fun c2r => ?_) (fun c2r => ?_)
   ·have c2 := (beq_iff_eq.1 c2r)
    refine Cfg.begL rfl ?_
    refine Lq 3 [30,31,32] ?_
    refine Lu (Eff.callM (vs := [.slice (some ⟨bk,0,none⟩) L.length cp,iN i,iN j]) (.tuple #[]) 0 (b := bk) (ob := .cells (nv L1 ++ jk).toArray 73 (0,0)) (.cells (nv (heapF L1 i j) ++ jk).toArray 73 (0,0)) rfl Tryz.func114 rfl rfl kr kr (fun w1 h => by have h9 := sHeap bk cp jk L1 i j w1 (h.own (bk,_) (mG 0 rfl)) om om om; rw [hl1] at h9; exact h9)) ?_
    refine CfgL.done rfl ?_
    refine Cg (Γ' := []) ?_
    refine Cfg.ret rfl (rs := []) rfl [] trivial (fun w1 hp => ?_)
    have hfin := (pdqF_heap om om).symm.trans hra
    rw [← hfin]
    exact ⟨rfl,hp.ext,hp.own (bk,_) mH⟩
   ·have c2 := (beq_eq_false_iff_ne.1 c2r)
    refine Rq [0,1,2,3,8,9,10,35] ?_
    obtain ⟨L2,hL2⟩ : ∃ L2,L2 = bif wb then L1 else brkF L1 i j := ⟨_,rfl⟩
    obtain ⟨l2,hl2⟩ : ∃ l2,l2 = bif wb then l1 else l1 - 1 := ⟨_,rfl⟩
    have hl2l : L2.length = L.length := by rw [hL2]; cases wb <;> simp [brkF_len,hl1]
    have hl2b : l2 ≤ 1000 := by rw [hl2]; cases wb <;> simp <;> omega
    obtain ⟨C,hC⟩ : ∃ C,C = chpN L2 i (j - i) := ⟨_,rfl⟩
    have hCi := chpN_in (L := L2) (a := i) (l := j - i) om
    rw [← hC] at hCi
    refine Cfg.share rfl (ι := Unit) (fun _ => [(10,[],iN ((j - i))),(9,[],.bool wp),(8,[],.bool wb),(0,[],.slice (some ⟨bk,0,none⟩) L.length cp),(1,[],iN i),(2,[],iN j),(3,[],iN l2)]) (fun _ => [(bk,.cells ((nv L2 ++ jk).toArray) 73 (0,0))]) (fun _ => True) ?_ ?_
    ·rintro ⟨⟩ -
     refine Cfg.begL rfl ?_
     refine Lp 3 [] none n0 trivial ?_
     refine Lu (Eff.callA (vs := [.slice (some ⟨bk,0,none⟩) L.length cp,iN i,iN j]) (.tuple #[iN C.1,iN (hintF C.2)]) rfl Tryz.func116 rfl rfl kr (fun w1 h => by have h9 := sChp bk cp jk L2 i j w1 (h.own (bk,_) (mG 0 rfl)) om om om; rw [hl2l,← hC] at h9; exact h9)) ?_
     refine Ld 5 [0,1,2,3,8,9,10,11,12] ?_
     refine Rq [0,1,2,3,8,9,10,11,12,50] ?_
     obtain ⟨L3,hL3⟩ : ∃ L3,L3 = if C.2 = 12 then revF (j - i) i (j - 1) L2 else L2 := ⟨_,rfl⟩
     obtain ⟨p3,hp3⟩ : ∃ p3,p3 = if C.2 = 12 then j - 1 - (C.1 - i) else C.1 := ⟨_,rfl⟩
     obtain ⟨h3,hh3⟩ : ∃ h3,h3 = if C.2 = 12 then 1 else hintF C.2 := ⟨_,rfl⟩
     have hl3 : L3.length = L.length := by rw [hL3]; split <;> simp only [revF_len,hl2l]
     have hp3i : i ≤ p3 ∧ p3 < j := by rw [hp3]; split <;> omega
     have hq := preF_q (wp := wp) hL2 hC hL3 hp3
     refine Cfg.share rfl (ι := Unit) (fun _ => [(12,[],iN h3),(11,[],iN p3),(10,[],iN ((j - i))),(9,[],.bool wp),(8,[],.bool wb),(0,[],.slice (some ⟨bk,0,none⟩) L.length cp),(1,[],iN i),(2,[],iN j),(3,[],iN l2)]) (fun _ => [(bk,.cells ((nv L3 ++ jk).toArray) 73 (0,0))]) (fun _ => True) ?_ ?_
     ·rintro ⟨⟩ -
      refine Rq [0,1,2,3,8,9,10,11,68] ?_
      refine Cfg.share rfl (ι := List Nat) (fun (L4 : List Nat) => [(11,[],iN p3),(10,[],iN ((j - i))),(9,[],.bool wp),(8,[],.bool wb),(0,[],.slice (some ⟨bk,0,none⟩) L.length cp),(1,[],iN i),(2,[],iN j),(3,[],iN l2)]) (fun (L4 : List Nat) => [(bk,.cells ((nv L4 ++ jk).toArray) 73 (0,0))]) (fun (L4 : List Nat) => (L4.length = L.length) ∧ (preF L1 i j wb wp = (false,L4,p3))) ?_ ?_
      ·rintro L4 ⟨hl4,hX⟩
       refine Cfg.begA rfl kr [(bk,.cells ((nv L4 ++ jk).toArray) 73 (0,0))] ?_
       refine Ap [0,1,2] [] (some [0,1,2,3,8,9,10,11,75]) (tF 3 12) (.cons_cons _ .slnil) 12 n0 trivial ?_
       by_cases c6 : (decide ((i : Int) > (0 : Int))) = true
       ·have c6k : (decide ((i : Int) > (0 : Int))) = true := c6
        have c6q := (dT c6k)
        refine CfgA.known 75 (b := (decide ((i : Int) > (0 : Int)))) kr true c6k ?_
        refine Ap [3,4,5,6,7,8,9,10,11] [(1,false,none),(1,false,none),(1,false,none),(1,false,none),(1,false,some (uN ((L4.getD ((i - 1)) 0)))),(1,false,none),(1,false,none),(1,false,none),(1,false,some (uN (L4.getD p3 0)))] (some [0,1,2,3,8,9,10,11,75,80,84]) (tF 12 3) (.cons_cons _ .slnil) 3 (fun S => [((.bool true : Value) = .bool true),((.bool true : Value) = .bool true),((.bool true : Value) = .bool true),(i6 ((i : Int) - 1)),((.bool true : Value) = .bool true),(0 ≤ ((i : Int) - 1) ∧ ((i : Int) - 1) < (L.length : Int)),((.bool true : Value) = .bool true),(cE S bk ((((i : Int) - 1)).toNat) (uN ((L4.getD ((i - 1)) 0)))),((.bool true : Value) = .bool true),((.bool true : Value) = .bool true),((.bool true : Value) = .bool true),(0 ≤ (p3 : Int) ∧ (p3 : Int) < (L.length : Int)),((.bool true : Value) = .bool true),(cE S bk p3 (uN (L4.getD p3 0)))]) ⟨rfl,rfl,rfl,om,rfl,om,rfl,(fun w1 h => h.ocell 0 rfl (nv_at jk om om)),rfl,rfl,rfl,om,rfl,(fun w1 h => h.ocell 0 rfl (nv_at jk om om)),trivial⟩ ?_
        refine Au 12 rfl 2  (Eff.callA (.bool (decide ((((L4.getD ((i - 1)) 0) : Nat) : Int) < ((L4.getD p3 0) : Int)))) rfl Tryz.func119 rfl rfl kr (fun w1 _ => cLess ((L4.getD ((i - 1)) 0)) ((L4.getD p3 0)) w1)) (fun _ _ => (.cons_cons _ .slnil)) ?_
        refine CfgA.pure [13,14] [(1,false,none)] (some [0,1,2,3,8,9,10,11,87]) (l' := tF 15 0) kr kr (.cons_cons _ .slnil) 0 rfl (Γ' := [(87,[],.bool (!(decide ((((L4.getD ((i - 1)) 0) : Nat) : Int) < ((L4.getD p3 0) : Int))))),(11,[],iN p3),(10,[],iN ((j - i))),(9,[],.bool wp),(8,[],.bool wb),(0,[],.slice (some ⟨bk,0,none⟩) L.length cp),(1,[],iN i),(2,[],iN j),(3,[],iN l2)]) (nd := (fun _ => [((.bool true : Value) = .bool true)])) (fun _ => kr) ⟨rfl,trivial⟩ ?_
        refine CfgA.done kr ?_
        refine Cfg.cond rfl (b := (!(decide ((((L4.getD ((i - 1)) 0) : Nat) : Int) < ((L4.getD p3 0) : Int))))) kr (fun c7r => ?_) (fun c7r => ?_)
        ·have c7 := (dF (notT c7r))
         refine Cfg.begL rfl ?_
         refine Lq 4 [0,2,3,8,9,88,89,90,91] ?_
         obtain ⟨E,hE⟩ : ∃ E,E = peqF L4 i j p3 := ⟨_,rfl⟩
         have hEi := peqF_in (L := L4) (a := i) (b := j) (p := p3) om
         rw [← hE,hl4] at hEi
         have hEl := hEi.1
         refine Lu (Eff.callM (vs := [.slice (some ⟨bk,0,none⟩) L.length cp,iN i,iN j,iN p3]) (iN E.2) 0 (b := bk) (ob := .cells (nv L4 ++ jk).toArray 73 (0,0)) (.cells (nv E.1 ++ jk).toArray 73 (0,0)) rfl Tryz.func120 rfl rfl kr kr (fun w1 h => by have h9 := sPeq bk cp jk L4 i j p3 w1 (h.own (bk,_) (mG 0 rfl)) om om om om om; rw [hl4,← hE] at h9; exact h9)) ?_
         refine Ld 1 [0,2,3,8,9,13] ?_
         refine Rq [0,1,2,3,8,9] ?_
         refine Cfg.again rfl (E.2,j,l2,wb,wp,E.1,m) ⟨by omega,by omega,by omega,by omega,by omega,by omega,by rw [hE]; exact (pdqF_eq om om hX hl2 om).symm.trans hra⟩ (by show m < m + 1; omega) (Conv.mk kr) (.cons_cons _ .slnil)
        ·have c7 := (dT (notF c7r))
         refine Cfg.begL rfl ?_
         refine Lq 4 [0,1,2,3,10,95,96,97,98] ?_
         obtain ⟨Y,hY⟩ : ∃ Y,Y = partF L4 i j p3 := ⟨_,rfl⟩
         have hYi := partF_in (L := L4) (a := i) (b := j) (p := p3) om
         rw [← hY,hl4] at hYi
         have hYl := hYi.1
         refine Lu (Eff.callM (vs := [.slice (some ⟨bk,0,none⟩) L.length cp,iN i,iN j,iN p3]) (.tuple #[iN Y.2.1,.bool Y.2.2]) 0 (b := bk) (ob := .cells (nv L4 ++ jk).toArray 73 (0,0)) (.cells (nv Y.1 ++ jk).toArray 73 (0,0)) rfl Tryz.func121 rfl rfl kr kr (fun w1 h => by have h9 := sPart bk cp jk L4 i j p3 w1 (h.own (bk,_) (mG 0 rfl)) om om om om om; rw [hl4,← hY] at h9; exact h9)) ?_
         refine Ld 5 [0,1,2,3,10,14,15] ?_
         refine Rq [0,1,2,3,9,10,14] ?_
         refine Rg [0,1,2,3,9,10,14,16,17] [] (fun _ => [(i6 ((Y.2.1 : Int) - (i : Int))),(i6 ((j : Int) - (Y.2.1 : Int)))]) ⟨om,om,trivial⟩ ?_
         refine Cfg.reg rfl [0,1,2,3,9,14,16,17,18] [] (Γ' := [(18,[],.int .i64 ((((j - i) : Nat) : Int) / 8)),(17,[],.int .i64 ((j : Int) - (Y.2.1 : Int))),(16,[],.int .i64 ((Y.2.1 : Int) - (i : Int))),(9,[],.bool Y.2.2),(14,[],iN Y.2.1),(0,[],.slice (some ⟨bk,0,none⟩) L.length cp),(1,[],iN i),(2,[],iN j),(3,[],iN l2)]) (nd := (fun _ => [(0 ≤ (((j - i) : Nat) : Int) ∧ (((j - i) : Nat) : Int) ≤ 9223372036854775807 ∧ 0 < (8 : Int))])) (fun _ => kr) ⟨om,trivial⟩ ?_
         refine Rq [0,1,2,3,9,14,16,17,18,113] ?_
         refine Cfg.cond rfl (b := (decide (((Y.2.1 : Int) - (i : Int)) < ((j : Int) - (Y.2.1 : Int))))) kr (fun c8r => ?_) (fun c8r => ?_)
         ·have c8 := (dT c8r)
          refine Rq [0,1,2,3,8,9,14] ?_
          refine Cfg.begL rfl ?_
          refine Lq 4 [0,2,3,8,9,14,117,118,119,120] ?_
          refine Lu (Eff.callM (vs := [.slice (some ⟨bk,0,none⟩) L.length cp,iN i,iN Y.2.1,iN l2]) (.tuple #[]) 0 (b := bk) (ob := .cells (nv Y.1 ++ jk).toArray 73 (0,0)) (.cells (nv (pdqF m Y.1 i Y.2.1 l2 true true) ++ jk).toArray 73 (0,0)) rfl Tryz.func104 rfl rfl kr kr (fun w1 h => by have h9 := IH m om bk cp jk Y.1 i Y.2.1 l2 w1 (h.own (bk,_) (mG 0 rfl)) om om om om om; rw [hYl] at h9; exact h9)) ?_
          refine CfgL.done rfl ?_
          refine Cg (Γ' := [(8,[],.bool (decide (((Y.2.1 : Int) - (i : Int)) ≥ ((((j - i) : Nat) : Int) / 8)))),(9,[],.bool Y.2.2),(14,[],iN Y.2.1),(0,[],.slice (some ⟨bk,0,none⟩) L.length cp),(2,[],iN j),(3,[],iN l2)]) ?_
          refine Rg [0,1,2,3,8,9] [] (fun _ => [(i6 ((Y.2.1 : Int) + 1))]) ⟨om,trivial⟩ ?_
          refine Cfg.setS 8 (congrArg (fun (xq : Bool) => (.bool xq : Value)) (show (decide (((Y.2.1 : Int) - (i : Int)) ≥ ((((j - i) : Nat) : Int) / 8))) = (decide ((j - i) / 8 ≤ Y.2.1 - i)) from decide_eq_decide.2 om)) ?_
          refine Cfg.again rfl (Y.2.1 + 1,j,l2,decide ((j - i) / 8 ≤ Y.2.1 - i),Y.2.2,pdqF m Y.1 i Y.2.1 l2 true true,m) ⟨by omega,by omega,by rw [pdqF_len]; omega,by omega,by omega,by omega,(pdqF_lt om om hX hl2 (fun h9 => by have := h9.1; have := h9.2; omega) hY om).symm.trans hra⟩ (by show m < m + 1; omega) (Conv.mk kr) (.cons_cons _ .slnil)
         ·have c8 := (dF c8r)
          refine Rq [0,1,2,3,8,9,14] ?_
          refine Cfg.begL rfl ?_
          refine Lp 5 [] (some [0,1,3,8,9,14,127,129,130,131]) (fun _ => [(i6 ((Y.2.1 : Int) + 1))]) ⟨om,trivial⟩ ?_
          refine Lu (Eff.callM (vs := [.slice (some ⟨bk,0,none⟩) L.length cp,.int .i64 ((Y.2.1 : Int) + 1),iN j,iN l2]) (.tuple #[]) 0 (b := bk) (ob := .cells (nv Y.1 ++ jk).toArray 73 (0,0)) (.cells (nv (pdqF m Y.1 (Y.2.1 + 1) j l2 true true) ++ jk).toArray 73 (0,0)) rfl Tryz.func104 rfl rfl kr kr (fun w1 h => by have h9 := IH m om bk cp jk Y.1 (Y.2.1 + 1) j l2 w1 (h.own (bk,_) (mG 0 rfl)) om om om om om; rw [hYl] at h9; exact h9)) ?_
          refine CfgL.done rfl ?_
          refine Cg (Γ' := [(8,[],.bool (decide (((j : Int) - (Y.2.1 : Int)) ≥ ((((j - i) : Nat) : Int) / 8)))),(9,[],.bool Y.2.2),(14,[],iN Y.2.1),(0,[],.slice (some ⟨bk,0,none⟩) L.length cp),(1,[],iN i),(3,[],iN l2)]) ?_
          refine Rq [0,1,2,3,8,9] ?_
          refine Cfg.setS 8 (congrArg (fun (xq : Bool) => (.bool xq : Value)) (show (decide (((j : Int) - (Y.2.1 : Int)) ≥ ((((j - i) : Nat) : Int) / 8))) = (decide ((j - i) / 8 ≤ j - Y.2.1)) from decide_eq_decide.2 om)) ?_
          refine Cfg.again rfl (i,Y.2.1,l2,decide ((j - i) / 8 ≤ j - Y.2.1),Y.2.2,pdqF m Y.1 (Y.2.1 + 1) j l2 true true,m) ⟨by omega,by omega,by rw [pdqF_len]; omega,by omega,by omega,by omega,(pdqF_ge om om hX hl2 (fun h9 => by have := h9.1; have := h9.2; omega) hY om).symm.trans hra⟩ (by show m < m + 1; omega) (Conv.mk kr) (.cons_cons _ .slnil)
       ·have c6k : (decide ((i : Int) > (0 : Int))) = false := (by simpa using c6)
        have c6q := (dF c6k)
        refine CfgA.known 75 (b := (decide ((i : Int) > (0 : Int)))) kr false c6k ?_
        refine Ap [3,4,5,6,7,8,9,10,11,12,13,14] [(2,false,none),(2,false,none),(2,false,none),(2,false,none),(2,false,none),(2,false,none),(2,false,none),(2,false,none),(2,false,none),(2,false,none),(2,false,none)] (some [0,1,2,3,8,9,10,11,87]) (tF 15 0) (.cons_cons _ .slnil) 0 (fun _ => [((.bool false : Value) ≠ .bool true),((.bool false : Value) ≠ .bool true),((.bool false : Value) ≠ .bool true),((.bool false : Value) ≠ .bool true),((.bool false : Value) ≠ .bool true),((.bool false : Value) ≠ .bool true),((.bool false : Value) ≠ .bool true),((.bool false : Value) ≠ .bool true),((.bool false : Value) ≠ .bool true),((.bool false : Value) ≠ .bool true),((.bool false : Value) ≠ .bool true)]) ⟨(by simp),(by simp),(by simp),(by simp),(by simp),(by simp),(by simp),(by simp),(by simp),(by simp),(by simp),trivial⟩ ?_
        refine CfgA.done kr ?_
        refine Cfg.condF rfl (b := false) kr rfl ?_
        refine Cfg.begL rfl ?_
        refine Lq 4 [0,1,2,3,10,95,96,97,98] ?_
        obtain ⟨Y,hY⟩ : ∃ Y,Y = partF L4 i j p3 := ⟨_,rfl⟩
        have hYi := partF_in (L := L4) (a := i) (b := j) (p := p3) om
        rw [← hY,hl4] at hYi
        have hYl := hYi.1
        refine Lu (Eff.callM (vs := [.slice (some ⟨bk,0,none⟩) L.length cp,iN i,iN j,iN p3]) (.tuple #[iN Y.2.1,.bool Y.2.2]) 0 (b := bk) (ob := .cells (nv L4 ++ jk).toArray 73 (0,0)) (.cells (nv Y.1 ++ jk).toArray 73 (0,0)) rfl Tryz.func121 rfl rfl kr kr (fun w1 h => by have h9 := sPart bk cp jk L4 i j p3 w1 (h.own (bk,_) (mG 0 rfl)) om om om om om; rw [hl4,← hY] at h9; exact h9)) ?_
        refine Ld 5 [0,1,2,3,10,14,15] ?_
        refine Rq [0,1,2,3,9,10,14] ?_
        refine Rg [0,1,2,3,9,10,14,16,17] [] (fun _ => [(i6 ((Y.2.1 : Int) - (i : Int))),(i6 ((j : Int) - (Y.2.1 : Int)))]) ⟨om,om,trivial⟩ ?_
        refine Rg [0,1,2,3,9,14,16,17,18] [] (fun _ => [(0 ≤ (((j - i) : Nat) : Int) ∧ (((j - i) : Nat) : Int) ≤ 9223372036854775807 ∧ 0 < (8 : Int))]) ⟨om,trivial⟩ ?_
        refine Rq [0,1,2,3,9,14,16,17,18,113] ?_
        refine Cfg.cond rfl (b := (decide (((Y.2.1 : Int) - (i : Int)) < ((j : Int) - (Y.2.1 : Int))))) kr (fun c10r => ?_) (fun c10r => ?_)
        ·have c10 := (dT c10r)
         refine Cfg.reg rfl [0,1,2,3,8,9,14] [] (Γ' := [(8,[],.bool (decide (((Y.2.1 : Int) - (i : Int)) ≥ ((((j - i) : Nat) : Int) / 8)))),(9,[],.bool Y.2.2),(14,[],iN Y.2.1),(0,[],.slice (some ⟨bk,0,none⟩) L.length cp),(1,[],iN i),(2,[],iN j),(3,[],iN l2)]) (nd := (fun _ => [])) (fun _ => kr) trivial ?_
         refine Cfg.begL rfl ?_
         refine Lq 4 [0,2,3,8,9,14,117,118,119,120] ?_
         refine Lu (Eff.callM (vs := [.slice (some ⟨bk,0,none⟩) L.length cp,iN i,iN Y.2.1,iN l2]) (.tuple #[]) 0 (b := bk) (ob := .cells (nv Y.1 ++ jk).toArray 73 (0,0)) (.cells (nv (pdqF m Y.1 i Y.2.1 l2 true true) ++ jk).toArray 73 (0,0)) rfl Tryz.func104 rfl rfl kr kr (fun w1 h => by have h9 := IH m om bk cp jk Y.1 i Y.2.1 l2 w1 (h.own (bk,_) (mG 0 rfl)) om om om om om; rw [hYl] at h9; exact h9)) ?_
         refine CfgL.done rfl ?_
         refine Cg (Γ' := [(8,[],.bool (decide (((Y.2.1 : Int) - (i : Int)) ≥ ((((j - i) : Nat) : Int) / 8)))),(9,[],.bool Y.2.2),(14,[],iN Y.2.1),(0,[],.slice (some ⟨bk,0,none⟩) L.length cp),(2,[],iN j),(3,[],iN l2)]) ?_
         refine Rg [0,1,2,3,8,9] [] (fun _ => [(i6 ((Y.2.1 : Int) + 1))]) ⟨om,trivial⟩ ?_
         refine Cfg.setS 8 (congrArg (fun (xq : Bool) => (.bool xq : Value)) (show (decide (((Y.2.1 : Int) - (i : Int)) ≥ ((((j - i) : Nat) : Int) / 8))) = (decide ((j - i) / 8 ≤ Y.2.1 - i)) from decide_eq_decide.2 om)) ?_
         refine Cfg.again rfl (Y.2.1 + 1,j,l2,decide ((j - i) / 8 ≤ Y.2.1 - i),Y.2.2,pdqF m Y.1 i Y.2.1 l2 true true,m) ⟨by omega,by omega,by rw [pdqF_len]; omega,by omega,by omega,by omega,(pdqF_lt om om hX hl2 (fun h9 => by have := h9.1; have := h9.2; omega) hY om).symm.trans hra⟩ (by show m < m + 1; omega) (Conv.mk kr) (.cons_cons _ .slnil)
        ·have c10 := (dF c10r)
         refine Rq [0,1,2,3,8,9,14] ?_
         refine Cfg.begL rfl ?_
         refine Lp 5 [] (some [0,1,3,8,9,14,127,129,130,131]) (fun _ => [(i6 ((Y.2.1 : Int) + 1))]) ⟨om,trivial⟩ ?_
         refine Lu (Eff.callM (vs := [.slice (some ⟨bk,0,none⟩) L.length cp,.int .i64 ((Y.2.1 : Int) + 1),iN j,iN l2]) (.tuple #[]) 0 (b := bk) (ob := .cells (nv Y.1 ++ jk).toArray 73 (0,0)) (.cells (nv (pdqF m Y.1 (Y.2.1 + 1) j l2 true true) ++ jk).toArray 73 (0,0)) rfl Tryz.func104 rfl rfl kr kr (fun w1 h => by have h9 := IH m om bk cp jk Y.1 (Y.2.1 + 1) j l2 w1 (h.own (bk,_) (mG 0 rfl)) om om om om om; rw [hYl] at h9; exact h9)) ?_
         refine CfgL.done rfl ?_
         refine Cg (Γ' := [(8,[],.bool (decide (((j : Int) - (Y.2.1 : Int)) ≥ ((((j - i) : Nat) : Int) / 8)))),(9,[],.bool Y.2.2),(14,[],iN Y.2.1),(0,[],.slice (some ⟨bk,0,none⟩) L.length cp),(1,[],iN i),(3,[],iN l2)]) ?_
         refine Rq [0,1,2,3,8,9] ?_
         refine Cfg.setS 8 (congrArg (fun (xq : Bool) => (.bool xq : Value)) (show (decide (((j : Int) - (Y.2.1 : Int)) ≥ ((((j - i) : Nat) : Int) / 8))) = (decide ((j - i) / 8 ≤ j - Y.2.1)) from decide_eq_decide.2 om)) ?_
         refine Cfg.again rfl (i,Y.2.1,l2,decide ((j - i) / 8 ≤ j - Y.2.1),Y.2.2,pdqF m Y.1 (Y.2.1 + 1) j l2 true true,m) ⟨by omega,by omega,by rw [pdqF_len]; omega,by omega,by omega,by omega,(pdqF_ge om om hX hl2 (fun h9 => by have := h9.1; have := h9.2; omega) hY om).symm.trans hra⟩ (by show m < m + 1; omega) (Conv.mk kr) (.cons_cons _ .slnil)
      ·intro hj1
       refine Cfg.cond rfl (b := ((wb && wp) && ((h3 : Int) == (1 : Int)))) kr (fun c5r => ?_) (fun c5r => ?_)
       ·have c5 : (((wb = true) ∧ (wp = true)) ∧ ((h3 : Int) = (1 : Int))) := ⟨⟨(andT1 (andT1 c5r)),(andT2 (andT1 c5r))⟩,(beq_iff_eq.1 (andT2 c5r))⟩
        have hcq : wb = true ∧ wp = true ∧ (C.2 = 0 ∨ C.2 = 12) := ⟨c5.1.1,c5.1.2,hint1.1 (hh3.symm.trans om)⟩
        refine Cfg.begL rfl ?_
        refine Lq 3 [0,1,2,3,8,9,10,11,69,70,71] ?_
        refine Lu (Eff.callM (vs := [.slice (some ⟨bk,0,none⟩) L.length cp,iN i,iN j]) (.bool (pisF i j 5 (i + 1) L3).1) 0 (b := bk) (ob := .cells (nv L3 ++ jk).toArray 73 (0,0)) (.cells (nv ((pisF i j 5 (i + 1) L3).2) ++ jk).toArray 73 (0,0)) rfl Tryz.func118 rfl rfl kr kr (fun w1 h => by have h9 := sPis bk cp jk L3 i j w1 (h.own (bk,_) (mG 0 rfl)) om om om; rw [hl3] at h9; exact h9)) ?_
        refine CfgL.done rfl ?_
        refine Cg (Γ' := [(72,[],.bool (pisF i j 5 (i + 1) L3).1),(11,[],iN p3),(10,[],iN ((j - i))),(9,[],.bool wp),(8,[],.bool wb),(0,[],.slice (some ⟨bk,0,none⟩) L.length cp),(1,[],iN i),(2,[],iN j),(3,[],iN l2)]) ?_
        refine Cfg.cond rfl (b := (pisF i j 5 (i + 1) L3).1) kr (fun c11r => ?_) (fun c11r => ?_)
        ·have c11 : ((pisF i j 5 (i + 1) L3).1 = true) := c11r
         have hpb := c11
         refine Cfg.ret rfl (rs := []) rfl [] trivial (fun w1 hp => ?_)
         have hfin := (pdqF_done (X := ((pisF i j 5 (i + 1) L3).1,(pisF i j 5 (i + 1) L3).2,p3)) om om (by rw [hq,if_pos hcq]) hpb).symm.trans hra
         rw [← hfin]
         exact ⟨rfl,hp.ext,hp.own (bk,_) mH⟩
        ·have c11 : ((pisF i j 5 (i + 1) L3).1 = false) := c11r
         have hpb := c11
         exact Cfg.joinS hj1 (pisF i j 5 (i + 1) L3).2 ⟨by rw [pisF_len]; exact hl3,by rw [hq,if_pos hcq,hpb]⟩ rfl (Conv.mk kr) (.cons_cons _ .slnil)
       ·have c5 : (((wb = false) ∨ (wp = false)) ∨ ((h3 : Int) ≠ (1 : Int))) := ((andF c5r).elim (fun h => Or.inl ((andF h).elim (fun h => Or.inl h) (fun h => Or.inr h))) (fun h => Or.inr (beq_eq_false_iff_ne.1 h)))
        have hcq : ¬ (wb = true ∧ wp = true ∧ (C.2 = 0 ∨ C.2 = 12)) := by
         intro h9
         rcases c5 with (h | h) | h
         ·rw [h9.1] at h; cases h
         ·rw [h9.2.1] at h; cases h
         ·exact h (by have := hh3.trans (hint1.2 h9.2.2); omega)
        exact Cfg.joinS hj1 L3 ⟨hl3,by rw [hq,if_neg hcq]⟩ rfl (Conv.mk kr) (.cons_cons _ .slnil)
     ·intro hj2
      refine Cfg.cond rfl (b := (((hintF C.2) : Int) == (2 : Int))) kr (fun c4r => ?_) (fun c4r => ?_)
      ·have c4 := (beq_iff_eq.1 c4r)
       refine Cfg.begL rfl ?_
       refine Lq 3 [0,1,2,3,8,9,10,11,51,52,53] ?_
       refine Lu (Eff.callM (vs := [.slice (some ⟨bk,0,none⟩) L.length cp,iN i,iN j]) (.tuple #[]) 0 (b := bk) (ob := .cells (nv L2 ++ jk).toArray 73 (0,0)) (.cells (nv (revF (j - i) i (j - 1) L2) ++ jk).toArray 73 (0,0)) rfl Tryz.func117 rfl rfl kr kr (fun w1 h => by have h9 := sRev bk cp jk L2 i j w1 (h.own (bk,_) (mG 0 rfl)) om om om; rw [hl2l] at h9; exact h9)) ?_
       refine CfgL.done rfl ?_
       refine Cg (Γ' := [(11,[],iN C.1),(10,[],iN ((j - i))),(9,[],.bool wp),(8,[],.bool wb),(0,[],.slice (some ⟨bk,0,none⟩) L.length cp),(1,[],iN i),(2,[],iN j),(3,[],iN l2)]) ?_
       refine Rg [0,1,2,3,8,9,10,11] [] (fun _ => [(i6 ((j : Int) - 1)),(i6 ((C.1 : Int) - (i : Int))),(i6 (((j : Int) - 1) - ((C.1 : Int) - (i : Int))))]) ⟨om,om,om,trivial⟩ ?_
       refine Rq [0,1,2,3,8,9,10,11,12] ?_
       have hc12 : C.2 = 12 := hint2 om
       refine oB 0 rfl (show _ = ((nv L3 ++ jk).toArray) from by rw [hL3,if_pos hc12]) ?_
       refine sI 11 (show (((j : Int) - 1) - ((C.1 : Int) - (i : Int))) = (p3 : Int) from by rw [hp3,if_pos hc12]; omega) ?_
       refine sI 12 (show 1 = (h3 : Int) from by rw [hh3,if_pos hc12]; rfl) ?_
       exact Cfg.joinS hj2 () trivial rfl (Conv.mk kr) (.cons_cons _ .slnil)
      ·have c4 := (beq_eq_false_iff_ne.1 c4r)
       have hc12 : ¬ C.2 = 12 := fun h9 => by have h8 : hintF C.2 = 2 := (by rw [h9]; rfl); omega
       refine oB 0 rfl (show _ = ((nv L3 ++ jk).toArray) from by rw [hL3,if_neg hc12]) ?_
       refine sI 11 (show (C.1 : Int) = (p3 : Int) from by rw [hp3,if_neg hc12]) ?_
       refine sI 12 (show ((hintF C.2) : Int) = (h3 : Int) from by rw [hh3,if_neg hc12]) ?_
       exact Cfg.joinS hj2 () trivial rfl (Conv.mk kr) (.cons_cons _ .slnil)
    ·intro hj3
     refine Cfg.cond rfl (b := (!wb)) kr (fun c3r => ?_) (fun c3r => ?_)
     ·have c3 : (wb = false) := (notT c3r)
      refine Cfg.begL rfl ?_
      refine Lq 3 [0,1,2,3,8,9,10,36,37,38] ?_
      refine Lu (Eff.callM (vs := [.slice (some ⟨bk,0,none⟩) L.length cp,iN i,iN j]) (.tuple #[]) 0 (b := bk) (ob := .cells (nv L1 ++ jk).toArray 73 (0,0)) (.cells (nv (brkF L1 i j) ++ jk).toArray 73 (0,0)) rfl Tryz.func115 rfl rfl kr kr (fun w1 h => by have h9 := sBrk bk cp jk L1 i j w1 (h.own (bk,_) (mG 0 rfl)) om om om; rw [hl1] at h9; exact h9)) ?_
      refine CfgL.done rfl ?_
      refine Cg (Γ' := [(10,[],iN ((j - i))),(9,[],.bool wp),(8,[],.bool wb),(0,[],.slice (some ⟨bk,0,none⟩) L.length cp),(1,[],iN i),(2,[],iN j),(3,[],iN l1)]) ?_
      refine Rg [0,1,2,3,8,9,10] [] (fun _ => [(i6 ((l1 : Int) - 1))]) ⟨om,trivial⟩ ?_
      have hwb : wb = false := by simpa using c3
      refine oB 0 rfl (show _ = ((nv L2 ++ jk).toArray) from by rw [hL2,hwb]; rfl) ?_
      refine sI 3 (show ((l1 : Int) - 1) = (l2 : Int) from by rw [hl2,hwb]; simp only [cond_false]; omega) ?_
      exact Cfg.joinS hj3 () trivial rfl (Conv.mk kr) (.cons_cons _ .slnil)
     ·have c3 : (wb = true) := (notF c3r)
      have hwb : wb = true := by simpa using c3
      refine oB 0 rfl (show _ = ((nv L2 ++ jk).toArray) from by rw [hL2,hwb]; rfl) ?_
      refine sI 3 (show (l1 : Int) = (l2 : Int) from by rw [hl2,hwb]; rfl) ?_
      exact Cfg.joinS hj3 () trivial rfl (Conv.mk kr) (.cons_cons _ .slnil)
end Go.Proofs.YtbeeelgfhfmgbaaGreatDoor
namespace Go.Proofs.YtbeeelgfhfmgbaaGreatDoor
open K
set_option linter.unusedVariables false
theorem sPdq : ∀ n,PdqC n := by
 intro n
 induction n using Nat.strongRecOn with
 | ind n ih =>
  cases n with
  | zero => intro bk cp jk L a b lim w h1 h2 h3 h4 h5 h6; exact absurd h6 (Nat.not_lt_zero _)
  | succ n => intro bk cp jk L a b lim w h1 h2 h3 h4 h5 h6; exact sPdqS n (fun k hk => ih k om) bk cp jk L a b lim w h1 h2 h3 h4 h5 h6
theorem nv_flat (L : List Nat) : L.flatMap u32c = nv L := by
 unfold nv u32c
 induction L with
 | nil => rfl
 | cons x l ih => rw [List.flatMap_cons,ih]; rfl
theorem nums_len (L : List Nat) : (L.flatMap u32c).length = L.length := by rw [nv_flat,nv_len]
theorem split_atN {α : Type} {l : List α} {k : Nat} (d : α) (h : k < l.length) : l = l.take k ++ l.getD k d :: l.drop (k + 1) := by
 have h2 := (List.take_append_drop k l).symm
 rw [List.drop_eq_getElem_cons h] at h2
 rw [List.getD_eq_getElem?_getD,List.getElem?_eq_getElem h]
 exact h2
theorem take_oneN {α : Type} {l : List α} {k : Nat} (d : α) (h : k < l.length) : l.take (k + 1) = l.take k ++ [l.getD k d] := by
 rw [List.take_add_one,List.getD_eq_getElem?_getD,List.getElem?_eq_getElem h]; rfl
theorem all_nextN {α : Type} {l : List α} {k : Nat} {p : α → Bool} (d : α) (h : k < l.length) (ha : ∀ y ∈ l.take k,p y = true) (hk : p (l.getD k d) = true) : ∀ y ∈ l.take (k + 1),p y = true := fun y hy => by
 rw [take_oneN d h] at hy
 rcases List.mem_append.1 hy with hy | hy
 ·exact ha y hy
 ·rw [List.mem_singleton.1 hy]; exact hk
theorem inA {A : List (Nat × Obj)} {x : Nat × Obj} (h : x ∈ A) : x ∈ ([] : List (Nat × Obj)) ++ (A ++ []) := by simpa using h
theorem sorted_ok {o : K.Own} {xs : List Nat} (h : OwnOk o 1 xs.length (xs.flatMap u32c)) : OwnOk o 1 xs.length ((sortN xs).flatMap u32c) := ⟨by rw [nums_len,sortN_len,Nat.mul_one],h.nil,fun p hp => by have h1 := h.some p hp; rw [nums_len] at h1; rw [nums_len,sortN_len]; exact h1⟩
theorem InF.one {Rl : List (Nat × Obj)} {la : Option Addr} {xs : List Nat} (h : InF u32c 1 Rl la xs) : ∃ Dl,InF u32c 1 Dl la xs ∧ (∀ e ∈ Dl,e ∈ Rl) ∧ (Dl.map (·.1)).Nodup := by
 by_cases h0 : 0 < xs.length * 1
 ·obtain ⟨b,off,cs,t,fr,h1,h2,h3⟩ := h h0
  exact ⟨[(b,.cells cs t fr)],fun _ => ⟨b,off,cs,t,fr,h1,mH,h3⟩,(fun e he => by rw [List.mem_singleton.1 he]; exact h2),List.nodup_cons.2 ⟨(fun h => by cases h),List.nodup_nil⟩⟩
 ·exact ⟨[],fun hh => absurd hh h0,(fun e he => by cases he),List.nodup_nil⟩
set_option maxRecDepth 100000 in
theorem sIns0 (w : World) :
  Calls Tryz.prog 113 #[.slice none 0 0,.int .i64 0,.int .i64 0] w fun e w' => e = .returned (.tuple #[]) ∧ Ext [] w w' := by
 refine enter [] [] [] Tryz.func113 rfl kr (HP.start w) ?_
 refine Rg [0,1,2,6] [] (fun _ => [(i6 (1 : Int))]) ⟨om,trivial⟩ ?_
 refine Cfg.loop rfl (ι := Unit) (fun (xz : Unit) => match xz with | () => [(6,[],.int .i64 1),(0,[],.slice none 0 0),(1,[],.int .i64 0),(2,[],.int .i64 0)]) (fun (xz : Unit) => match xz with | () => []) (fun (xz : Unit) => match xz with | () => True) (fun (xz : Unit) => match xz with | () => 0) () ?_ (Conv.mk kr) .slnil ?_
 ·exact trivial
 ·rintro ⟨⟩ -
  refine Rq [0,1,2,6,12] ?_
  refine Cfg.condF rfl (b := false) kr rfl ?_
  refine Cfg.fin rfl (rs := []) rfl [] trivial (fun w1 hp => ?_)
  exact ⟨rfl,hp.ext⟩
set_option maxRecDepth 100000 in
theorem sPdq0 (w : World) :
  Calls Tryz.prog 104 #[.slice none 0 0,.int .i64 0,.int .i64 0,.int .i64 0] w fun e w' => e = .returned (.tuple #[]) ∧ Ext [] w w' := by
 refine enter [] [] [] Tryz.func104 rfl kr (HP.start w) ?_
 refine Rq [0,1,2,3,8] ?_
 refine Rq [0,1,2,3,8,9] ?_
 refine Cfg.loop rfl (ι := Unit) (fun (xz : Unit) => match xz with | () => [(9,[],.bool true),(8,[],.bool true),(0,[],.slice none 0 0),(1,[],.int .i64 0),(2,[],.int .i64 0),(3,[],.int .i64 0)]) (fun (xz : Unit) => match xz with | () => []) (fun (xz : Unit) => match xz with | () => True) (fun (xz : Unit) => match xz with | () => 0) () ?_ (Conv.mk kr) .slnil ?_
 ·exact trivial
 ·rintro ⟨⟩ -
  refine Rg [0,1,2,3,8,9,10] [] (fun _ => [(i6 (0 : Int))]) ⟨om,trivial⟩ ?_
  refine Rq [0,1,2,3,8,9,10,23] ?_
  refine Cfg.condT rfl (b := true) kr rfl ?_
  refine Cfg.begL rfl ?_
  refine Lq 3 [24,25,26] ?_
  refine Lu (Eff.callA (.tuple #[]) rfl Tryz.func113 rfl rfl kr (fun w1 _ => sIns0 w1)) ?_
  refine CfgL.done rfl ?_
  refine Cg (Γ' := []) ?_
  refine Cfg.ret rfl (rs := []) rfl [] trivial (fun w1 hp => ?_)
  exact ⟨rfl,hp.ext⟩
set_option maxRecDepth 100000 in
theorem sSort0 (w : World) :
  Calls Tryz.prog 94 #[.slice none 0 0] w fun e w' => e = .returned (.tuple #[]) ∧ Ext [] w w' := by
 refine enter [] [] [] Tryz.func94 rfl kr (HP.start w) ?_
 refine Rq [0,2] ?_
 refine Cfg.begL rfl ?_
 refine Lq 4 [5,6,8] ?_
 refine Lu (Eff.callA (.int .i64 0) rfl Tryz.func105 rfl rfl kr (fun w1 _ => bLen 0 w1 om)) ?_
 refine Lu (Eff.callA (.tuple #[]) rfl Tryz.func104 rfl rfl kr (fun w1 _ => sPdq0 w1)) ?_
 refine CfgL.done rfl ?_
 refine Cg (Γ' := []) ?_
 refine Cfg.fin rfl (rs := []) rfl [] trivial (fun w1 hp => ?_)
 exact ⟨rfl,hp.ext⟩
set_option maxRecDepth 100000 in
set_option maxHeartbeats 1000000 in
theorem sSort (bk cp : Nat) (jk : List Value) (L : List Nat) (w : World) (hB : w.heap[bk]? = some (.cells (nv L ++ jk).toArray 73 (0,0))) (hL : L.length ≤ 50000)  :
  Calls Tryz.prog 94 #[.slice (some ⟨bk,0,none⟩) L.length cp] w fun e w' => e = .returned (.tuple #[]) ∧ Ext [bk] w w' ∧ w'.heap[bk]? = some (.cells (nv (sortN L) ++ jk).toArray 73 (0,0)) := by
 refine enter [bk] [] [(bk,.cells ((nv L ++ jk).toArray) 73 (0,0))] Tryz.func94 rfl kr (HP.startM (R := []) (fun _ h => by cases h) hB (by simp)) ?_
 refine Rq [0,2] ?_
 refine Cfg.begL rfl ?_
 refine Lq 4 [5,6,8] ?_
 refine Lu (Eff.callA (vs := [.int .u64 ((L.length : Int) % 18446744073709551616)]) (.int .i64 (lenN L.length : Int)) rfl Tryz.func105 rfl rfl kr (fun w1 _ => by have h9 := bLen L.length w1 om; rw [show (L.length : Int) = (L.length : Int) % 18446744073709551616 by omega] at h9; exact h9)) ?_
 refine Lu (Eff.callM (.tuple #[]) 0 (b := bk) (ob := .cells (nv L ++ jk).toArray 73 (0,0)) (.cells (nv (sortN L) ++ jk).toArray 73 (0,0)) rfl Tryz.func104 rfl rfl kr kr (fun w1 h => sPdq (L.length + 1) bk cp jk L 0 L.length (lenN L.length) w1 (h.own (bk,_) (mG 0 rfl)) hL (Nat.le_refl _) (Nat.zero_le _) (Nat.le_trans (lenN_le om) (by decide)) om)) ?_
 refine CfgL.done rfl ?_
 refine Cg (Γ' := []) ?_
 refine Cfg.fin rfl (rs := []) rfl [] trivial (fun w1 hp => ?_)
 exact ⟨rfl,hp.ext,hp.own (bk,_) mH⟩
theorem sSortO (o : K.Own) (L : List Nat) (w : World) (hok : OwnOk o 1 L.length (L.flatMap u32c)) (hA : Has w (Own.o 73 (L.flatMap u32c) o)) (hL : L.length ≤ 50000) :
  Calls Tryz.prog 94 #[.slice (Own.a o) L.length (Own.c o)] w fun e w' => ∃ _ : Unit,True ∧ e = .returned (.tuple #[]) ∧ ∃ R1,HP w ((Own.o 73 (L.flatMap u32c) o).map (·.1)) R1 (Own.o 73 ((sortN L).flatMap u32c) o) w' := by
 cases o with
 | none =>
  have h0 : L = [] := List.eq_nil_of_length_eq_zero (hok.nil rfl)
  subst h0
  refine (sSort0 w).mono ?_
  rintro e w' ⟨rfl,hx⟩
  exact ⟨(),trivial,rfl,[],⟨hx,(fun e he => by cases he),(fun e he => by cases he),(fun e he => by cases he),List.nodup_nil,(fun e he => by cases he)⟩⟩
 | some p =>
  obtain ⟨b,c,j⟩ := p
  have h1 := hA (b,_) mH
  rw [nv_flat] at h1
  refine (sSort b c j L w h1 hL).mono ?_
  rintro e w' ⟨rfl,hx,h2⟩
  refine ⟨(),trivial,rfl,[],⟨hx,(fun e he => by cases he),(fun e he => by cases he),(fun e he => ?_),List.nodup_cons.2 ⟨(fun h => by cases h),List.nodup_nil⟩,(fun e he => .inr ?_)⟩⟩
  ·rw [List.mem_singleton.1 he,nv_flat]; exact h2
  ·rw [List.mem_singleton.1 he]; exact mH
set_option maxRecDepth 100000 in
theorem sVals (la : Option Addr) (n c : Nat) (w : World) :
  Calls Tryz.prog 87 #[.slice la n c] w fun e w' => ∃ q : Nat,True ∧ e = .returned (.func (.func 100) #[] #[.pointer (some ⟨q,0,none⟩)]) ∧ ∃ R1,HP w [] R1 [(q,.cells #[.slice la n c] 22 (0,0))] w' := by
 refine enter [] [] [] Tryz.func87 rfl kr (HP.start w) ?_
 refine Cfg.begL rfl ?_
 refine Le (Eff.box (v := .slice la n c) rfl kr) ?_
 rintro k1 ⟨hk1,nk1⟩
 refine Ld 1 [1] ?_
 refine Rq [2] ?_
 refine Cfg.ret rfl (rs := [.tmp 2]) rfl [.func (.func 100) #[] #[pT k1]] ⟨kr,trivial⟩ (fun w1 hp => ?_)
 exact ⟨k1,trivial,rfl,_,hp⟩
set_option maxRecDepth 100000 in
set_option maxHeartbeats 2000000 in
theorem valsIt0 (l dr k1 : Nat) (la : Option Addr) (c : Nat) (xs : List Nat) (Dl : List (Nat × Obj)) (fi : FuncId) (T : Array Value) (ps : Array Tmp) (assign body : Code) (σ : Type) (A : σ → List (Nat × Obj)) (J : List Nat → σ → Prop) (s0 : σ) (p : Nat → Bool) (w : World) (hn : xs.length ≤ 1000000) (hI : InF u32c 1 Dl la xs) (hps : ps.size = 1) (hJ : J [] s0) (hA : Has w (A s0)) (hd : ((A s0).map (·.1)).Nodup) (hmem : ∀ pre x,(∀ y ∈ pre,p y = true) → J pre x → (∀ e ∈ ((k1,Obj.cells #[.slice la xs.length c] 22 (0,0)) :: Dl),e ∈ A x) ∧ (l,Obj.loop (rec0 fi T ps assign body dr .ready none)) ∈ A x) (hy : ∀ pre x (a : Nat) rest,(∀ y ∈ pre,p y = true) → J pre x → xs = pre ++ a :: rest → ∀ w,Has w (A x) → ((A x).map (·.1)).Nodup → RoundIn Fence.wide 0 Tryz.prog l fi ((ps.zip #[(fun (n : Nat) => Value.int .u32 (n : Int)) a]).foldl (fun tmps (t,a) => tmps.setIfInBounds t a) T) assign body w fun e w' => ∃ y,J (pre ++ [a]) y ∧ e = .returned (.bool (p a)) ∧ ∃ R1,HP w ((A x).map (·.1)) R1 (A y) w') :
  Calls Tryz.prog 100 #[.func (.yield l) #[] #[],.pointer (some ⟨k1,0,none⟩)] w fun e w' => ∃ y,J (vis p xs) y ∧ e = .returned (.tuple #[]) ∧ ∃ R1,HP w ((A s0).map (·.1)) R1 (A y) w' := by
 refine enter ((A s0).map (·.1)) [] ([] ++ (A s0 ++ [])) Tryz.func100 rfl kr (by have h0 := HP.ofL hA hd (R := []) (fun e he => by cases he) (fun e he => by cases he); simpa using h0) ?_
 refine Rg [0,5,6,7] [(dS (.slice la xs.length c))] (fun S => [(cE S k1 0 (.slice la xs.length c))]) ⟨(fun w1 h => cell_cells (h.own _ (inA ((hmem [] s0 (fun y hy => by cases hy) hJ).1 _ mH)))),trivial⟩ ?_
 refine Cfg.loop rfl (ι := Nat × σ) (fun (xz : Nat × σ) => match xz with | (k,x) => [(7,[],iN k),(6,[],iN xs.length),(5,[],.slice la xs.length c),(0,[],.func (.yield l) #[] #[])]) (fun (xz : Nat × σ) => match xz with | (k,x) => ([] ++ (A x ++ []))) (fun (xz : Nat × σ) => match xz with | (k,x) => (k ≤ xs.length) ∧ (∀ x ∈ xs.take k,p x = true) ∧ (J (xs.take k) x)) (fun (xz : Nat × σ) => match xz with | (k,x) => xs.length - k) (0,s0) ?_ (Conv.mk kr) slr ?_
 ·exact ⟨Nat.zero_le _,(fun x hx => by cases hx),hJ⟩
 ·rintro ⟨k,x⟩ ⟨hk,hal,hJx⟩
  refine Rq [0,5,6,7,8] ?_
  refine Cfg.cond rfl (b := (decide ((k : Int) < (xs.length : Int)))) kr (fun c1r => ?_) (fun c1r => ?_)
  ·have c1 := (dT c1r)
   have hk2 : k < xs.length := by omega
   have hR2 := split_atN 0 hk2
   obtain ⟨sa,offa,csa,tea,frea,rfl,hma,hca⟩ := hI om
   refine Conv.cfg (Γ' := [(8,[],.bool (decide ((k : Int) < (xs.length : Int)))),(7,[],iN k),(6,[],iN xs.length),(5,[],.slice (some ⟨sa,offa,none⟩) xs.length c),(0,[],.func (.yield l) #[] #[])]) (Conv.mk kr) ?_
   refine Rg [0,4,5,6,7] [dZ,(dS (uN (xs.getD k 0)))] (fun S => [(0 ≤ (k : Int) ∧ (k : Int) < (xs.length : Int)),(cE S sa (addO offa k) (uN (xs.getD k 0)))]) ⟨om,(fun w1 h => by rw [addO_eq]; exact (cell_cells (h.own _ (inA ((hmem _ x hal hJx).1 _ (List.mem_cons_of_mem _ hma))))).trans (fl_one (g := fun n : Nat => uN n) 0 hca om)),trivial⟩ ?_
   refine Cfg.begL rfl ?_
   refine Lq 2 [0,5,6,7,11,12] ?_
   refine CfgL.effI (o := _) rfl kr kr (EffI.yield (ι := σ) (vs := [.int .u32 (xs.getD k 0 : Int)]) (fun _ => .bool (p (xs.getD k 0))) (A x) (fun y => A y) (fun y => J (xs.take k ++ [xs.getD k 0]) y) [] [] rfl rfl kr kr hps.symm (hmem _ x hal hJx).2 (fun w1 hh hdn => hy _ x _ _ hal hJx hR2 w1 hh hdn)) ?_
   rintro y hJy
   refine Ld 1 [0,5,6,7,14] ?_
   refine Cfg.cond rfl (b := (!(p (xs.getD k 0)))) kr (fun c2r => ?_) (fun c2r => ?_)
   ·have c2 : ((p (xs.getD k 0)) = false) := (notT c2r)
    refine Cfg.ret rfl (rs := []) rfl [] trivial (fun w1 hp => ?_)
    have hv : vis p xs = xs.take k ++ [xs.getD k 0] := (congrArg (vis p) hR2).trans (vis_stop hal (by simpa using c2r))
    rw [hv]
    have h3 : HP w ((A s0).map (·.1)) [] ([] ++ (A y ++ [])) w1 := hp
    rw [List.nil_append,List.append_nil] at h3
    exact ⟨y,hJy,rfl,_,h3⟩
   ·have c2 : ((p (xs.getD k 0)) = true) := (notF c2r)
    refine Rg [0,5,6,7] [] (fun _ => [(i6 ((k : Int) + 1))]) ⟨om,trivial⟩ ?_
    refine Cfg.again rfl (k + 1,y) ⟨by omega,all_nextN 0 hk2 hal (by simpa using c2r),by rw [take_oneN 0 hk2]; exact hJy⟩ (by show xs.length - (k + 1) < xs.length - k; omega) (Conv.mk kr) slr
  ·have c1 := (dF c1r)
   refine Cfg.fin rfl (rs := []) rfl [] trivial (fun w1 hp => ?_)
   have hke : k = xs.length := by omega
   rw [hke,List.take_length] at hal hJx
   rw [vis_all hal]
   have h3 : HP w ((A s0).map (·.1)) [] ([] ++ (A x ++ [])) w1 := hp
   rw [List.nil_append,List.append_nil] at h3
   exact ⟨x,hJx,rfl,_,h3⟩
theorem valsIt (k1 : Nat) (la : Option Addr) (c : Nat) (xs : List Nat) (Dl : List (Nat × Obj)) (hn : xs.length ≤ 1000000) (hI : InF u32c 1 Dl la xs) :
  IterSpec Tryz.prog 100 #[.pointer (some ⟨k1,0,none⟩)] ((k1,Obj.cells #[.slice la xs.length c] 22 (0,0)) :: Dl) xs (fun (n : Nat) => Value.int .u32 (n : Int)) :=
 fun l dr fi T ps assign body σ A J s0 p w hps hJ hA hd hmem hy => valsIt0 l dr k1 la c xs Dl fi T ps assign body σ A J s0 p w hn hI hps hJ hA hd hmem hy
set_option maxRecDepth 100000 in
set_option maxHeartbeats 4000000 in
theorem sApp (k1 : Nat) (la : Option Addr) (c : Nat) (xs : List Nat) (Dl : List (Nat × Obj)) (w : World) (hR : Has w ((k1,Obj.cells #[.slice la xs.length c] 22 (0,0)) :: Dl)) (hn : xs.length ≤ 50000) (hI : InF u32c 1 Dl la xs) (hDd : (((k1,Obj.cells #[.slice la xs.length c] 22 (0,0)) :: Dl).map (·.1)).Nodup) :
  Calls Tryz.prog 111 #[.slice none 0 0,.func (.func 100) #[] #[.pointer (some ⟨k1,0,none⟩)]] w fun e w' => ∃ o : K.Own,OwnOk o 1 xs.length (xs.flatMap u32c) ∧ e = .returned (.slice o.a xs.length o.c) ∧ Has w' (o.o 73 (xs.flatMap u32c)) ∧ (∀ x ∈ o.o 73 (xs.flatMap u32c),w.heap.size ≤ x.1) ∧ Ext [] w w' := by
 refine enterM [] ((k1,Obj.cells #[.slice la xs.length c] 22 (0,0)) :: Dl) [] Tryz.func111 rfl kr (HP.ofHas hR) ?_
 refine Cfg.begL rfl ?_
 refine Le (Eff.box (v := .slice none 0 0) rfl kr) ?_
 rintro sb ⟨hsb,nsb⟩
 refine Ld 1 [1,2] ?_
 refine Rq [2,6] ?_
 refine oB 0 rfl (show _ = #[.slice (Own.a none) (([] : List Nat).length) (Own.c none)] from rfl) ?_
 refine Cfg.rangeJ rfl (caps := #[pT k1]) kr Tryz.func100 kr rfl kr (valsIt k1 la c xs Dl om hI) (σ := K.Own × List Nat) (fun (x : K.Own × List Nat) => ([(sb,.cells #[.slice (Own.a x.1) x.2.length (Own.c x.1)] 22 (0,0))] ++ (Own.o 73 (x.2.flatMap u32c) x.1 ++ []))) (fun (pre : List Nat) (x : K.Own × List Nat) => x.2 = pre ∧ OwnOk x.1 1 x.2.length (x.2.flatMap u32c)) (none,[]) ⟨rfl,OwnOk.none _⟩ ([] ++ (((k1,Obj.cells #[.slice la xs.length c] 22 (0,0)) :: Dl) ++ [])) (by rfl) (fun e he => (by simpa using he)) (fun w1 h => by simpa using hDd) (fun (x : K.Own × List Nat) => ([(sb,.cells #[.slice (Own.a x.1) x.2.length (Own.c x.1)] 22 (0,0))] ++ (Own.o 73 (x.2.flatMap u32c) x.1 ++ (((k1,Obj.cells #[.slice la xs.length c] 22 (0,0)) :: Dl) ++ [])))) (fun _ => by simp only [List.nil_append,List.append_nil,List.cons_append]) (fun _ => true) (fun pre x _ _ e he => mR (mR (by rw [List.append_nil]; exact he))) (.ret) rfl ?_ ?_ ?_
 ·intro l ob1 ob2 w2 M2 pre ⟨o,L⟩ z rest hal hJx hit
  obtain ⟨hx1,hx2⟩ := hJx
  simp only at hx1 hx2
  have hzl : L.length < xs.length := by rw [hit,hx1,List.length_append,List.length_cons]; omega
  refine ⟨Unit,fun _ => True,fun (_ : Unit) => [(5,[],uN z),(2,[],pT sb)],fun (_ : Unit) => ([(sb,.cells #[.slice (Own.a o) L.length (Own.c o)] 22 (0,0))] ++ (Own.o 73 (L.flatMap u32c) o ++ (((k1,Obj.cells #[.slice la xs.length c] 22 (0,0)) :: Dl) ++ []))),?_,?_⟩
  ·
   refine Rq [2,5] ?_
   refine Cfg.mid rfl () trivial (Conv.mk kr) slr
  ·rintro ⟨⟩ -
   refine Cfg.begL rfl ?_
   refine Lp 2 [(dS (.slice (Own.a o) L.length (Own.c o)))] (some [2,8,9]) (fun S => [(cE S sb 0 (.slice (Own.a o) L.length (Own.c o)))]) ⟨(oC 1 rfl rfl),trivial⟩ ?_
   refine Le (Eff.buildSlice (e := 73) (cells := #[uN z]) (parts := #[(0,uN z)]) rfl kr (fun _ => kr)) ?_
   rintro rb ⟨hrb,nrb⟩
   refine Le (Eff.appendF rfl 1 4 Tryz.underlying22 kr (z := (.int .u32 0)) kr kr o (xs := (L.flatMap u32c)) hx2 kr (b2 := rb) (off2 := 0) (m := 1) (c2 := 1) kr ([uN z]) rfl (by intro q hq; rw [List.mem_singleton.1 hq]; rfl) [(rb,.cells #[uN z] 73 (0,0)),(l,ob2),(sb,.cells #[.slice (Own.a o) L.length (Own.c o)] 22 (0,0))] ([] ++ (((k1,Obj.cells #[.slice la xs.length c] 22 (0,0)) :: Dl) ++ [])) (by rfl) (fun w1 h j v hj => by rw [Nat.zero_add]; exact h.ocell 0 rfl (by rw [List.getElem?_toArray]; exact hj)) om om) ?_
   rintro o1 ko1
   refine Lu (Eff.store1 (b := sb) (off := 0) (v := .slice (Own.a o1) ((L.length + 1)) (Own.c o1)) rfl kr kr rfl kr 2 (cs := #[.slice (Own.a o) L.length (Own.c o)]) (e := 22) kr (by show 0 < 1; decide)) ?_
   refine CfgL.done rfl ?_
   refine Cg (Γ' := []) ?_
   refine Cfg.finR rfl (fun w1 hp => ?_)
   have hfl : (L.flatMap u32c ++ [.int .u32 (z : Int)]) = (L ++ [z]).flatMap u32c := by rw [List.flatMap_append]; rfl
   rw [hfl] at ko1 hp
   have hll : (L ++ [z]).length = L.length + 1 := by rw [List.length_append]; rfl
   rw [← hll] at hp
   exact ⟨(o1,L ++ [z]),⟨by rw [hx1],by rw [hll]; exact ko1⟩,rfl,hp.sub (.cons _ slr)⟩
 ·intro dr1 ⟨o2,l2⟩ hal hJy
  obtain ⟨hy1,hy2⟩ := hJy
  simp only at hy1 hy2
  obtain rfl := hy1.symm
  refine Rg [4] [(dS (.slice (Own.a o2) xs.length (Own.c o2)))] (fun S => [(cE S sb 0 (.slice (Own.a o2) xs.length (Own.c o2)))]) ⟨(oC 1 rfl rfl),trivial⟩ ?_
  refine Cfg.retM (O' := ([(sb,.cells #[.slice (Own.a o2) xs.length (Own.c o2)] 22 (0,0))] ++ (Own.o 73 (xs.flatMap u32c) o2 ++ []))) rfl (rs := [.tmp 4]) rfl [.slice (Own.a o2) xs.length (Own.c o2)] slr ⟨kr,trivial⟩ (fun w1 hp => ?_)
  exact ⟨o2,hy2,rfl,fun x hx => hp.own x (by simp [hx]),fun x hx => (hp.mine x (by simp [hx])).resolve_right (fun h => by cases h),hp.ext⟩
 ·intro dr1 ⟨o2,l2⟩ pre z rest hit hal hpa hJy
  cases hpa
set_option maxRecDepth 100000 in
set_option maxHeartbeats 4000000 in
theorem sCol (k1 : Nat) (la : Option Addr) (c : Nat) (xs : List Nat) (Dl : List (Nat × Obj)) (w : World) (hR : Has w ((k1,Obj.cells #[.slice la xs.length c] 22 (0,0)) :: Dl)) (hn : xs.length ≤ 50000) (hI : InF u32c 1 Dl la xs) (hDd : (((k1,Obj.cells #[.slice la xs.length c] 22 (0,0)) :: Dl).map (·.1)).Nodup) :
  Calls Tryz.prog 99 #[.func (.func 100) #[] #[.pointer (some ⟨k1,0,none⟩)]] w fun e w' => ∃ o : K.Own,OwnOk o 1 xs.length (xs.flatMap u32c) ∧ e = .returned (.slice o.a xs.length o.c) ∧ Has w' (o.o 73 (xs.flatMap u32c)) ∧ (∀ x ∈ o.o 73 (xs.flatMap u32c),w.heap.size ≤ x.1) ∧ Ext [] w w' := by
 refine enter [] ((k1,Obj.cells #[.slice la xs.length c] 22 (0,0)) :: Dl) [] Tryz.func99 rfl kr (HP.ofHas hR) ?_
 refine Rq [0] ?_
 refine Cfg.begL rfl ?_
 refine Lq 1 [3] ?_
 refine Le (Eff.callOF 73 1 xs.length (xs.flatMap u32c) [] [] rfl rfl Tryz.func111 rfl rfl kr (fun w1 h => sApp k1 la c xs Dl w1 (h.hasR (fun e he => he)) hn hI hDd)) ?_
 rintro o ko
 refine Ld 1 [2] ?_
 refine Cfg.ret rfl (rs := [.tmp 2]) rfl [.slice (Own.a o) xs.length (Own.c o)] ⟨kr,trivial⟩ (fun w1 hp => ?_)
 exact ⟨o,ko,rfl,fun x hx => hp.own x (by simpa using hx),fun x hx => (hp.mine x (by simpa using hx)).resolve_right (fun h => by cases h),hp.ext⟩
set_option maxRecDepth 100000 in
set_option maxHeartbeats 4000000 in
theorem sSorted (k1 : Nat) (la : Option Addr) (c : Nat) (xs : List Nat) (Dl : List (Nat × Obj)) (w : World) (hR : Has w ((k1,Obj.cells #[.slice la xs.length c] 22 (0,0)) :: Dl)) (hn : xs.length ≤ 50000) (hI : InF u32c 1 Dl la xs) (hDd : (((k1,Obj.cells #[.slice la xs.length c] 22 (0,0)) :: Dl).map (·.1)).Nodup) :
  Calls Tryz.prog 86 #[.func (.func 100) #[] #[.pointer (some ⟨k1,0,none⟩)]] w fun e w' => ∃ o : K.Own,OwnOk o 1 xs.length ((sortN xs).flatMap u32c) ∧ e = .returned (.slice o.a xs.length o.c) ∧ Has w' (o.o 73 ((sortN xs).flatMap u32c)) ∧ (∀ x ∈ o.o 73 ((sortN xs).flatMap u32c),w.heap.size ≤ x.1) ∧ Ext [] w w' := by
 refine enter [] ((k1,Obj.cells #[.slice la xs.length c] 22 (0,0)) :: Dl) [] Tryz.func86 rfl kr (HP.ofHas hR) ?_
 refine Rq [0] ?_
 refine Cfg.begL rfl ?_
 refine Lq 1 [4] ?_
 refine Le (Eff.callOF 73 1 xs.length (xs.flatMap u32c) [] [] rfl rfl Tryz.func99 rfl rfl kr (fun w1 h => sCol k1 la c xs Dl w1 (h.hasR (fun e he => he)) hn hI hDd)) ?_
 rintro o ko
 refine Ld 1 [3] ?_
 refine Cfg.begL rfl ?_
 refine Lp 1 [] none n0 trivial ?_
 refine Lu (Eff.callH (fun _ : Unit => .tuple #[]) (Own.o 73 (xs.flatMap u32c) o) (fun _ => Own.o 73 ((sortN xs).flatMap u32c) o) (fun _ => True) [] [] (by rfl) rfl Tryz.func94 rfl rfl kr (fun w1 h hA1 hd1 => sSortO o xs w1 ko hA1 hn)) ?_
 refine CfgL.done rfl ?_
 refine Cg (Γ' := [(3,[],.slice (Own.a o) xs.length (Own.c o))]) ?_
 refine Rq [2] ?_
 refine Cfg.ret rfl (rs := [.tmp 2]) rfl [.slice (Own.a o) xs.length (Own.c o)] ⟨kr,trivial⟩ (fun w1 hp => ?_)
 exact ⟨o,(sorted_ok ko),rfl,fun x hx => hp.own x (by simpa using hx),fun x hx => (hp.mine x (by simpa using hx)).resolve_right (fun h => by cases h),hp.ext⟩
end Go.Proofs.YtbeeelgfhfmgbaaGreatDoor
namespace Go.Proofs.YtbeeelgfhfmgbaaGreatDoor
open K
set_option linter.unusedVariables false
theorem rotL_bad {es : List Ed} {vs : List Nat} {rs : List RowU} {i : Nat} (h : i < vs.length) (h2 : i < rs.length) (h3 : turnF es (vs.getD i 0) (rs.getD i rwz).xs = false) : rotL es (vs.drop i) ((rs.drop i).map RowU.xs) = 22 := by
 rw [drop_at 0 h,drop_at rwz h2,List.map_cons,rotL,if_neg (by rw [h3]; decide)]
theorem rotL_go {es : List Ed} {vs : List Nat} {rs : List RowU} {i : Nat} (h : i < vs.length) (h2 : i < rs.length) (h3 : turnF es (vs.getD i 0) (rs.getD i rwz).xs = true) : rotL es (vs.drop i) ((rs.drop i).map RowU.xs) = rotL es (vs.drop (i + 1)) ((rs.drop (i + 1)).map RowU.xs) := by
 rw [drop_at 0 h,drop_at rwz h2,List.map_cons,rotL,if_pos h3]
theorem turnF_len {es : List Ed} {v : Nat} {t : List Nat} (h : t.length ≠ (endsF es v).length) : turnF es v t = false := by
 unfold turnF; rw [decide_eq_false h,Bool.false_and,Bool.false_and]
theorem turnF_fst {es : List Ed} {v : Nat} {t : List Nat} (h0 : 0 < t.length) (h : t.getD 0 0 ≠ (endsF es v).getD 0 0) : turnF es v t = false := by
 unfold turnF
 have h1 : t.isEmpty = false := by cases t with | nil => exact absurd h0 (Nat.lt_irrefl 0) | cons => rfl
 rw [h1,decide_eq_false h,Bool.false_or,Bool.and_false,Bool.false_and]
theorem turnF_end {es : List Ed} {v : Nat} {t : List Nat} (h1 : t.length = (endsF es v).length) (h2 : 0 < t.length → t.getD 0 0 = (endsF es v).getD 0 0) : turnF es v t = decide (sortN t = endsF es v) := by
 unfold turnF
 rw [decide_eq_true h1,Bool.true_and]
 have h3 : (t.isEmpty || decide (t.getD 0 0 = (endsF es v).getD 0 0)) = true := by
  cases t with
  | nil => rfl
  | cons x l => rw [decide_eq_true (h2 (Nat.succ_pos _))]; rfl
 rw [h3,Bool.true_and]
theorem num_at0 {L : List Nat} (jk : List Value) {e : Nat} (he : e = 0) (h : 0 < L.length) : ((L.flatMap u32c) ++ jk).toArray[e]? = some (.int .u32 (L.getD 0 0 : Int)) := by
 rw [nv_flat]; exact nv_at jk he h
set_option maxRecDepth 100000 in
set_option maxHeartbeats 8000000 in
theorem rCheck (m : MM) (Rl : List (Nat × Obj)) (w : World) (hM : InM Rl m) (hR : Has w Rl) :
  Calls Tryz.prog 67 #[.agg (mc m).toArray] w fun e w' => e = .returned (.int .i64 (checkR m.vs m.es (m.rs.map RowU.xs))) ∧ Ext [] w w' := by
 have hmn := hM.n
 refine enter [] Rl [] Tryz.func67 rfl kr (HP.ofHas hR) ?_
 refine Cfg.begL rfl ?_
 refine Le (Eff.box (v := .agg (mc m).toArray) rfl kr) ?_
 rintro mb ⟨hmb,nmb⟩
 refine Ld 1 [1] ?_
 refine Cfg.begL rfl ?_
 refine Lp 2 [dZ,(dS (.agg (gc m).toArray))] (some [1,9]) (fun S => [(∀ w1,S w1 → (loadVar 25 ⟨mb,0,none⟩).run Tryz.prog w1 = .ok (.agg (gc m).toArray) w1)]) ⟨(fun w1 h => load_list Tryz.underlying25 rfl kr rfl (fun j v hj => h.ocell 0 rfl (by rw [List.getElem?_toArray]; exact (fun j v hj => gc_mc hj) j v hj))),trivial⟩ ?_
 refine Lu (Eff.callA (.int .i64 (graphF m.vs m.es)) rfl Tryz.func84 rfl rfl kr (fun w1 h => gCheck m Rl w1 hM (h.hasR (fun e he => he)))) ?_
 refine Ld 1 [1,3] ?_
 refine Rq [1,3,12] ?_
 refine Cfg.cond rfl (b := ((graphF m.vs m.es) != (0 : Int))) kr (fun c1r => ?_) (fun c1r => ?_)
 ·have c1 := (bne_iff_ne.1 c1r)
  refine Rq [2] ?_
  refine Cfg.ret rfl (rs := [.tmp 2]) rfl [.int .i64 (graphF m.vs m.es)] ⟨kr,trivial⟩ (fun w1 hp => ?_)
  have hfin : checkR m.vs m.es (m.rs.map RowU.xs) = graphF m.vs m.es := if_pos om
  rw [hfin]
  exact ⟨rfl,hp.ext⟩
 ·have c1 := (bne_eq_false_iff_eq.1 c1r)
  refine Rg [1,21] [dZ,(dS (.slice m.ra m.rs.length m.rc)),dZ,dZ,dZ,(dS (.slice m.va m.vs.length m.vc))] (fun S => [(cE S mb 2 (.slice m.ra m.rs.length m.rc)),(cE S mb 0 (.slice m.va m.vs.length m.vc))]) ⟨(fun w1 h => h.ocell 0 rfl (by rw [List.getElem?_toArray]; exact rfl)),(fun w1 h => h.ocell 0 rfl (by rw [List.getElem?_toArray]; exact rfl)),trivial⟩ ?_
  refine Cfg.cond rfl (b := ((m.rs.length : Int) != (m.vs.length : Int))) kr (fun c2r => ?_) (fun c2r => ?_)
  ·have c2 := (bne_iff_ne.1 c2r)
   refine Rq [2] ?_
   refine Cfg.ret rfl (rs := [.tmp 2]) rfl [.int .i64 22] ⟨kr,trivial⟩ (fun w1 hp => ?_)
   have hfin : checkR m.vs m.es (m.rs.map RowU.xs) = 22 := (if_neg om).trans (if_pos (by rw [List.length_map]; omega))
   rw [hfin]
   exact ⟨rfl,hp.ext⟩
  ·have c2 := (bne_eq_false_iff_eq.1 c2r)
   have hg0 : graphF m.vs m.es = 0 := by omega
   have hok := graphF_ok hg0
   have hchk : checkR m.vs m.es (m.rs.map RowU.xs) = rotL m.es m.vs (m.rs.map RowU.xs) := (if_neg (fun h9 => h9 hg0)).trans (if_neg (by rw [List.length_map]; omega))
   refine Cfg.reg rfl [1,24,25,26] [dZ,dZ,(dS (.slice m.va m.vs.length m.vc))] (Γ' := [(26,[],.int .i64 0),(25,[],iN m.vs.length),(24,[],.slice m.va m.vs.length m.vc),(1,[],pT mb)]) (nd := (fun S => [(cE S mb 0 (.slice m.va m.vs.length m.vc))])) (fun _ => kr) ⟨(fun w1 h => h.ocell 0 rfl (by rw [List.getElem?_toArray]; exact rfl)),trivial⟩ ?_
   refine Cfg.loop rfl (ι := Nat) (fun (i : Nat) => [(26,[],iN i),(25,[],iN m.vs.length),(24,[],.slice m.va m.vs.length m.vc),(1,[],pT mb)]) (fun (i : Nat) => [(mb,.cells ((mc m).toArray) 28 (0,0))]) (fun (i : Nat) => (i ≤ m.vs.length) ∧ (rotL m.es (m.vs.drop i) ((m.rs.drop i).map RowU.xs) = rotL m.es m.vs (m.rs.map RowU.xs))) (fun (i : Nat) => m.vs.length - i) 0 ?_ (Conv.mk kr) (.cons_cons _ .slnil) ?_
   ·exact ⟨Nat.zero_le _,rfl⟩
   ·rintro i ⟨hi,hra⟩
    refine Rq [1,24,25,26,27] ?_
    refine Cfg.cond rfl (b := (decide ((i : Int) < (m.vs.length : Int)))) kr (fun c3r => ?_) (fun c3r => ?_)
    ·have c3 := (dT c3r)
     obtain ⟨sa1,offa1,csa1,tea1,frea1,hva1,hma1,hca1⟩ := hM.v om
     refine Cg (Γ' := [(27,[],.bool (decide ((i : Int) < (m.vs.length : Int)))),(26,[],iN i),(25,[],iN m.vs.length),(24,[],.slice m.va m.vs.length m.vc),(1,[],pT mb)]) ?_
     refine Cfg.setG (Γ' := [(27,[],.bool (decide ((i : Int) < (m.vs.length : Int)))),(26,[],iN i),(25,[],iN m.vs.length),(24,[],.slice (some ⟨sa1,offa1,none⟩) m.vs.length m.vc),(1,[],pT mb)]) (congrArg (fun (xq : Option Addr) => ([(27,[],.bool (decide ((i : Int) < (m.vs.length : Int)))),(26,[],iN i),(25,[],iN m.vs.length),(24,[],.slice xq m.vs.length m.vc),(1,[],pT mb)] : Env)) hva1) ?_
     refine Rg [1,4,5,24,25,26] [dZ,dZ,(dS (uN (m.vs.getD i 0)))] (fun S => [(0 ≤ (i : Int) ∧ (i : Int) < (m.vs.length : Int)),(cE S sa1 (addO offa1 i) (uN (m.vs.getD i 0)))]) ⟨om,(fun w1 h => by rw [addO_eq]; exact (cell_cells (h.ro _ hma1)).trans (fl_one (g := fun n : Nat => uN n) 0 hca1 om)),trivial⟩ ?_
     have hir : i < m.rs.length := by omega
     have hXi := hM.i _ (getD_mem (z := rwz) hir)
     obtain ⟨sc2,offc2,csc2,tec2,frec2,hvc2,hmc2,hcc2⟩ := hM.r om
     refine Cfg.begA rfl kr [(mb,.cells ((mc m).toArray) 28 (0,0))] ?_
     refine Ap (List.range 8) [dZ,(dS (.slice (some ⟨sc2,offc2,none⟩) m.rs.length m.rc)),dZ,dZ,(dS (.slice (m.rs.getD i rwz).a ((m.rs.getD i rwz).xs.length) ((m.rs.getD i rwz).c))),dZ,(dS (.agg (gc m).toArray))] (some [1,24,25,26,35,37,38]) (tF 8 3) (.cons_cons _ .slnil) 3 (fun S => [(cE S mb 2 (.slice (some ⟨sc2,offc2,none⟩) m.rs.length m.rc)),(0 ≤ (i : Int) ∧ (i : Int) < (m.rs.length : Int)),(cE S sc2 (addO offc2 i) (.slice (m.rs.getD i rwz).a ((m.rs.getD i rwz).xs.length) ((m.rs.getD i rwz).c))),(∀ w1,S w1 → (loadVar 25 ⟨mb,0,none⟩).run Tryz.prog w1 = .ok (.agg (gc m).toArray) w1)]) ⟨(fun w1 h => h.ocell 0 rfl (by rw [List.getElem?_toArray]; rw [← hvc2]; exact rfl)),om,(fun w1 h => by rw [addO_eq]; exact (cell_cells (h.ro _ hmc2)).trans (fl_one (g := fun r : RowU => .slice r.a r.xs.length r.c) rwz hcc2 om)),(fun w1 h => load_list Tryz.underlying25 rfl kr rfl (fun j v hj => h.ocell 0 rfl (by rw [List.getElem?_toArray]; exact (fun j v hj => gc_mc hj) j v hj))),trivial⟩ ?_
     refine Ae 8 rfl 2  (Eff.callOF 73 1 (endsF m.es (m.vs.getD i 0)).length ((endsF m.es (m.vs.getD i 0)).flatMap u32c) [(mb,.cells ((mc m).toArray) 28 (0,0))] [] (by rfl) rfl Tryz.func85 rfl rfl kr (fun w1 h => gEnds m (m.vs.getD i 0) Rl w1 hM (h.hasR (fun e he => he)) hok.e (fun x hx => (hok.en x hx).1.2))) (fun _ _ => (.cons_cons _ (List.nil_sublist _))) ?_
     rintro ow kow
     refine Ap [9,10] [] (some [1,6,7,24,25,26]) (tF 11 0) (.cons_cons _ (List.nil_sublist _)) 0 n0 trivial ?_
     refine CfgA.done kr ?_
     refine Rq [1,6,7,24,25,26,44] ?_
     refine Cfg.cond rfl (b := (((m.rs.getD i rwz).xs.length : Int) != ((endsF m.es (m.vs.getD i 0)).length : Int))) kr (fun c4r => ?_) (fun c4r => ?_)
     ·have c4 := (bne_iff_ne.1 c4r)
      refine Rq [2] ?_
      refine Cfg.ret rfl (rs := [.tmp 2]) rfl [.int .i64 22] ⟨kr,trivial⟩ (fun w1 hp => ?_)
      have hfin : checkR m.vs m.es (m.rs.map RowU.xs) = 22 := hchk.trans (hra.symm.trans (rotL_bad om hir (turnF_len om)))
      rw [hfin]
      exact ⟨rfl,hp.ext⟩
     ·have c4 := (bne_eq_false_iff_eq.1 c4r)
      refine Cfg.begA rfl kr ([(mb,.cells ((mc m).toArray) 28 (0,0))] ++ (Own.o 73 ((endsF m.es (m.vs.getD i 0)).flatMap u32c) ow ++ [])) ?_
      refine CfgA.pure [0,1,2,3] [] (some [1,6,7,24,25,26,48]) (l' := (tF 4 8)) kr kr slr 8 rfl (Γ' := [(48,[],.bool (decide (((m.rs.getD i rwz).xs.length : Int) > (0 : Int)))),(7,[],.slice (Own.a ow) ((endsF m.es (m.vs.getD i 0)).length) (Own.c ow)),(6,[],.slice (m.rs.getD i rwz).a ((m.rs.getD i rwz).xs.length) ((m.rs.getD i rwz).c)),(26,[],iN i),(25,[],iN m.vs.length),(24,[],.slice (some ⟨sa1,offa1,none⟩) m.vs.length m.vc),(1,[],pT mb)]) (nd := (fun _ => [])) (fun _ => kr) trivial ?_
      by_cases c5 : (decide (((m.rs.getD i rwz).xs.length : Int) > (0 : Int))) = true
      ·have c5k : (decide (((m.rs.getD i rwz).xs.length : Int) > (0 : Int))) = true := c5
       have c5q := (dT c5k)
       refine CfgA.known 48 (b := (decide (((m.rs.getD i rwz).xs.length : Int) > (0 : Int)))) kr true c5k ?_
       obtain ⟨sr,offr,csr,ter,frer,hvr,hmr,hcr⟩ := hXi.1 om
       obtain ⟨⟨ob,oc,oj⟩,rfl⟩ := own_some kow om
       refine CfgA.setG (congrArg (fun (xq : Value) => ([(48,[],.bool true),(7,[],.slice (Own.a ((some (ob,oc,oj)))) ((endsF m.es (m.vs.getD i 0)).length) (Own.c ((some (ob,oc,oj))))),(6,[],xq),(26,[],iN i),(25,[],iN m.vs.length),(24,[],.slice (some ⟨sa1,offa1,none⟩) m.vs.length m.vc),(1,[],pT mb)] : Env)) (show _ = .slice (some ⟨sr,offr,none⟩) (m.rs.getD i rwz).xs.length (m.rs.getD i rwz).c from congrArg (fun z => Value.slice z (m.rs.getD i rwz).xs.length (m.rs.getD i rwz).c) hvr)) ?_
       refine CfgA.setG (congrArg (fun (xq : Value) => ([(48,[],.bool true),(7,[],xq),(6,[],.slice (some ⟨sr,offr,none⟩) (m.rs.getD i rwz).xs.length (m.rs.getD i rwz).c),(26,[],iN i),(25,[],iN m.vs.length),(24,[],.slice (some ⟨sa1,offa1,none⟩) m.vs.length m.vc),(1,[],pT mb)] : Env)) (show _ = .slice (some ⟨ob,0,none⟩) (endsF m.es (m.vs.getD i 0)).length oc from rfl)) ?_
       refine Ap [4,5,6,7,8,9,10,11] [(1,false,none),(1,false,none),(1,false,some (uN (((m.rs.getD i rwz).xs).getD 0 0))),(1,false,none),(1,false,none),(1,false,some (uN ((endsF m.es (m.vs.getD i 0)).getD 0 0))),(1,false,none)] (some [1,6,7,24,25,26,56]) (tF 12 0) slr 0 (fun S => [((.bool true : Value) = .bool true),((.bool true : Value) = .bool true),(0 ≤ (0 : Int) ∧ (0 : Int) < ((m.rs.getD i rwz).xs.length : Int)),((.bool true : Value) = .bool true),(cE S sr (addO offr 0) (uN (((m.rs.getD i rwz).xs).getD 0 0))),((.bool true : Value) = .bool true),((.bool true : Value) = .bool true),(0 ≤ (0 : Int) ∧ (0 : Int) < ((endsF m.es (m.vs.getD i 0)).length : Int)),((.bool true : Value) = .bool true),(cE S ob 0 (uN ((endsF m.es (m.vs.getD i 0)).getD 0 0))),((.bool true : Value) = .bool true)]) ⟨rfl,rfl,om,rfl,(fun w1 h => by rw [addO_eq]; exact (cell_cells (h.ro _ hmr)).trans (fl_one (g := fun n : Nat => uN n) 0 hcr om)),rfl,rfl,om,rfl,(fun w1 h => (cell_cells (h.own (ob,Obj.cells (((endsF m.es (m.vs.getD i 0)).flatMap u32c) ++ oj).toArray 73 (0,0)) (by simp [Own.o]))).trans (num_at0 oj rfl om)),rfl,trivial⟩ ?_
       refine CfgA.done kr ?_
       refine Cfg.cond rfl (b := (((((m.rs.getD i rwz).xs).getD 0 0) : Int) != (((endsF m.es (m.vs.getD i 0)).getD 0 0) : Int))) kr (fun c6r => ?_) (fun c6r => ?_)
       ·have c6 := (bne_iff_ne.1 c6r)
        refine Rq [2] ?_
        refine Cfg.ret rfl (rs := [.tmp 2]) rfl [.int .i64 22] ⟨kr,trivial⟩ (fun w1 hp => ?_)
        have hfin : checkR m.vs m.es (m.rs.map RowU.xs) = 22 := hchk.trans (hra.symm.trans (rotL_bad om hir (turnF_fst om om)))
        rw [hfin]
        exact ⟨rfl,hp.ext⟩
       ·have c6 := (bne_eq_false_iff_eq.1 c6r)
        obtain ⟨Dl,hD1,hD2,hD3⟩ := InF.one hXi.1
        have htl : (m.rs.getD i rwz).xs.length ≤ 320 := by have := endsF_len m.es (m.vs.getD i 0); have := hok.e; omega
        refine Cg (Γ' := [(56,[],.bool (((((m.rs.getD i rwz).xs).getD 0 0) : Int) != (((endsF m.es (m.vs.getD i 0)).getD 0 0) : Int))),(7,[],.slice (some ⟨ob,0,none⟩) (endsF m.es (m.vs.getD i 0)).length oc),(6,[],.slice (some ⟨sr,offr,none⟩) (m.rs.getD i rwz).xs.length (m.rs.getD i rwz).c),(26,[],iN i),(25,[],iN m.vs.length),(24,[],.slice (some ⟨sa1,offa1,none⟩) m.vs.length m.vc),(1,[],pT mb)]) ?_
        refine Cfg.setS 6 (show .slice (some ⟨sr,offr,none⟩) (m.rs.getD i rwz).xs.length (m.rs.getD i rwz).c = .slice (m.rs.getD i rwz).a ((m.rs.getD i rwz).xs.length) ((m.rs.getD i rwz).c) from congrArg (fun z => Value.slice z ((m.rs.getD i rwz).xs.length) ((m.rs.getD i rwz).c)) hvr.symm) ?_
        refine Cfg.begL rfl ?_
        refine Lq 1 [1,7,24,25,26,57] ?_
        refine Le (Eff.callH (fun q : Nat => .func (.func 100) #[] #[pT q]) [] (fun q => [(q,.cells #[.slice (m.rs.getD i rwz).a (m.rs.getD i rwz).xs.length (m.rs.getD i rwz).c] 22 (0,0))]) (fun _ => True) [] (([(mb,.cells ((mc m).toArray) 28 (0,0))] ++ (Own.o 73 ((endsF m.es (m.vs.getD i 0)).flatMap u32c) ((some (ob,oc,oj))) ++ []))) rfl rfl Tryz.func87 rfl rfl kr (fun w1 h _ _ => sVals (m.rs.getD i rwz).a (m.rs.getD i rwz).xs.length (m.rs.getD i rwz).c w1)) ?_
        rintro k1 -
        refine Le (Eff.callOF 73 1 (m.rs.getD i rwz).xs.length ((sortN (m.rs.getD i rwz).xs).flatMap u32c) [(k1,.cells #[.slice (m.rs.getD i rwz).a (m.rs.getD i rwz).xs.length (m.rs.getD i rwz).c] 22 (0,0)),(mb,.cells ((mc m).toArray) 28 (0,0))] (Own.o 73 ((endsF m.es (m.vs.getD i 0)).flatMap u32c) ((some (ob,oc,oj))) ++ []) (by rfl) rfl Tryz.func86 rfl rfl kr (fun w1 h => sSorted k1 (m.rs.getD i rwz).a (m.rs.getD i rwz).c (m.rs.getD i rwz).xs Dl w1 (fun e he => by rcases List.mem_cons.1 he with rfl | he; exact h.own _ mH; exact h.ro _ (hD2 e he)) om hD1 (List.nodup_cons.2 ⟨fun hm => by obtain ⟨e,he,h9⟩ := List.mem_map.1 hm; exact h.away mH (hD2 e he) h9.symm,hD3⟩))) ?_
        rintro os kos
        refine Lq 1 [1,24,25,26,59,60] ?_
        refine Lu (Eff.callA (vs := [.slice (Own.a os) ((m.rs.getD i rwz).xs.length) (Own.c os),.slice (some ⟨ob,0,none⟩) (endsF m.es (m.vs.getD i 0)).length oc]) (.bool (decide (sortN (m.rs.getD i rwz).xs = (endsF m.es (m.vs.getD i 0))))) rfl Tryz.func32 rfl rfl kr (fun w1 h => by have h9 := eqU (Own.a os) (Own.a (some (ob,oc,oj))) (Own.c os) (Own.c (some (ob,oc,oj))) (sortN (m.rs.getD i rwz).xs) (endsF m.es (m.vs.getD i 0)) (Own.o 73 ((sortN (m.rs.getD i rwz).xs).flatMap u32c) os ++ Own.o 73 ((endsF m.es (m.vs.getD i 0)).flatMap u32c) (some (ob,oc,oj))) w1 ((own_inf (by rw [sortN_len]; exact kos)).mono (fun e he => mL he)) ((own_inf kow).mono (fun e he => mR he)) (fun e he => h.own e ((List.mem_append.1 he).elim (fun he => mR (mL he)) (fun he => mR (mR (mL he))))) (by rw [sortN_len]; unfold maxLen; omega) (by unfold maxLen; omega); rw [sortN_len] at h9; exact h9)) ?_
        refine Ld 1 [1,24,25,26,62] ?_
        refine Cfg.cond rfl (b := (!(decide (sortN (m.rs.getD i rwz).xs = (endsF m.es (m.vs.getD i 0)))))) kr (fun c7r => ?_) (fun c7r => ?_)
        ·have c7 : ((decide (sortN (m.rs.getD i rwz).xs = (endsF m.es (m.vs.getD i 0)))) = false) := (notT c7r)
         refine Rq [2] ?_
         refine Cfg.ret rfl (rs := [.tmp 2]) rfl [.int .i64 22] ⟨kr,trivial⟩ (fun w1 hp => ?_)
         have hfin : checkR m.vs m.es (m.rs.map RowU.xs) = 22 := hchk.trans (hra.symm.trans (rotL_bad om hir (by rw [turnF_end om om]; simpa using c7)))
         rw [hfin]
         exact ⟨rfl,hp.ext⟩
        ·have c7 : ((decide (sortN (m.rs.getD i rwz).xs = (endsF m.es (m.vs.getD i 0)))) = true) := (notF c7r)
         refine Rg [1,24,25,26] [] (fun _ => [(i6 ((i : Int) + 1))]) ⟨om,trivial⟩ ?_
         have hgo := rotL_go (es := m.es) (vs := m.vs) (rs := m.rs) (i := i) om hir (by rw [turnF_end om om]; first | exact c7 | simpa using c7)
         refine Cfg.setS 24 (show .slice (some ⟨sa1,offa1,none⟩) m.vs.length m.vc = .slice m.va m.vs.length m.vc from congrArg (fun z => Value.slice z m.vs.length m.vc) hva1.symm) ?_
         refine Cfg.again rfl (i + 1) ⟨by omega,hgo.symm.trans hra⟩ (by show m.vs.length - (i + 1) < m.vs.length - i; omega) (Conv.mk kr) (.cons _ (.cons_cons _ (List.nil_sublist _)))
      ·have c5k : (decide (((m.rs.getD i rwz).xs.length : Int) > (0 : Int))) = false := (by simpa using c5)
       have c5q := (dF c5k)
       refine CfgA.known 48 (b := (decide (((m.rs.getD i rwz).xs.length : Int) > (0 : Int)))) kr false c5k ?_
       refine Ap [4,5,6,7,8,9,10,11] [(2,false,none),(2,false,none),(2,false,none),(2,false,none),(2,false,none),(2,false,none),(2,false,none)] (some [1,6,7,24,25,26,56]) (tF 12 0) slr 0 (fun _ => [((.bool false : Value) ≠ .bool true),((.bool false : Value) ≠ .bool true),((.bool false : Value) ≠ .bool true),((.bool false : Value) ≠ .bool true),((.bool false : Value) ≠ .bool true),((.bool false : Value) ≠ .bool true),((.bool false : Value) ≠ .bool true)]) ⟨(by simp),(by simp),(by simp),(by simp),(by simp),(by simp),(by simp),trivial⟩ ?_
       refine CfgA.done kr ?_
       refine Cfg.condF rfl (b := false) kr rfl ?_
       obtain ⟨Dl,hD1,hD2,hD3⟩ := InF.one hXi.1
       have htl : (m.rs.getD i rwz).xs.length ≤ 320 := by have := endsF_len m.es (m.vs.getD i 0); have := hok.e; omega
       refine Cfg.begL rfl ?_
       refine Lq 1 [1,7,24,25,26,57] ?_
       refine Le (Eff.callH (fun q : Nat => .func (.func 100) #[] #[pT q]) [] (fun q => [(q,.cells #[.slice (m.rs.getD i rwz).a (m.rs.getD i rwz).xs.length (m.rs.getD i rwz).c] 22 (0,0))]) (fun _ => True) [] (([(mb,.cells ((mc m).toArray) 28 (0,0))] ++ (Own.o 73 ((endsF m.es (m.vs.getD i 0)).flatMap u32c) ow ++ []))) rfl rfl Tryz.func87 rfl rfl kr (fun w1 h _ _ => sVals (m.rs.getD i rwz).a (m.rs.getD i rwz).xs.length (m.rs.getD i rwz).c w1)) ?_
       rintro k1 -
       refine Le (Eff.callOF 73 1 (m.rs.getD i rwz).xs.length ((sortN (m.rs.getD i rwz).xs).flatMap u32c) [(k1,.cells #[.slice (m.rs.getD i rwz).a (m.rs.getD i rwz).xs.length (m.rs.getD i rwz).c] 22 (0,0)),(mb,.cells ((mc m).toArray) 28 (0,0))] (Own.o 73 ((endsF m.es (m.vs.getD i 0)).flatMap u32c) ow ++ []) (by rfl) rfl Tryz.func86 rfl rfl kr (fun w1 h => sSorted k1 (m.rs.getD i rwz).a (m.rs.getD i rwz).c (m.rs.getD i rwz).xs Dl w1 (fun e he => by rcases List.mem_cons.1 he with rfl | he; exact h.own _ mH; exact h.ro _ (hD2 e he)) om hD1 (List.nodup_cons.2 ⟨fun hm => by obtain ⟨e,he,h9⟩ := List.mem_map.1 hm; exact h.away mH (hD2 e he) h9.symm,hD3⟩))) ?_
       rintro os kos
       refine Lq 1 [1,24,25,26,59,60] ?_
       refine Lu (Eff.callA (vs := [.slice (Own.a os) ((m.rs.getD i rwz).xs.length) (Own.c os),.slice (Own.a ow) ((endsF m.es (m.vs.getD i 0)).length) (Own.c ow)]) (.bool (decide (sortN (m.rs.getD i rwz).xs = (endsF m.es (m.vs.getD i 0))))) rfl Tryz.func32 rfl rfl kr (fun w1 h => by have h9 := eqU (Own.a os) (Own.a ow) (Own.c os) (Own.c ow) (sortN (m.rs.getD i rwz).xs) (endsF m.es (m.vs.getD i 0)) (Own.o 73 ((sortN (m.rs.getD i rwz).xs).flatMap u32c) os ++ Own.o 73 ((endsF m.es (m.vs.getD i 0)).flatMap u32c) ow) w1 ((own_inf (by rw [sortN_len]; exact kos)).mono (fun e he => mL he)) ((own_inf kow).mono (fun e he => mR he)) (fun e he => h.own e ((List.mem_append.1 he).elim (fun he => mR (mL he)) (fun he => mR (mR (mL he))))) (by rw [sortN_len]; unfold maxLen; omega) (by unfold maxLen; omega); rw [sortN_len] at h9; exact h9)) ?_
       refine Ld 1 [1,24,25,26,62] ?_
       refine Cfg.cond rfl (b := (!(decide (sortN (m.rs.getD i rwz).xs = (endsF m.es (m.vs.getD i 0)))))) kr (fun c9r => ?_) (fun c9r => ?_)
       ·have c9 : ((decide (sortN (m.rs.getD i rwz).xs = (endsF m.es (m.vs.getD i 0)))) = false) := (notT c9r)
        refine Rq [2] ?_
        refine Cfg.ret rfl (rs := [.tmp 2]) rfl [.int .i64 22] ⟨kr,trivial⟩ (fun w1 hp => ?_)
        have hfin : checkR m.vs m.es (m.rs.map RowU.xs) = 22 := hchk.trans (hra.symm.trans (rotL_bad om hir (by rw [turnF_end om om]; simpa using c9)))
        rw [hfin]
        exact ⟨rfl,hp.ext⟩
       ·have c9 : ((decide (sortN (m.rs.getD i rwz).xs = (endsF m.es (m.vs.getD i 0)))) = true) := (notF c9r)
        refine Rg [1,24,25,26] [] (fun _ => [(i6 ((i : Int) + 1))]) ⟨om,trivial⟩ ?_
        have hgo := rotL_go (es := m.es) (vs := m.vs) (rs := m.rs) (i := i) om hir (by rw [turnF_end om om]; first | exact c9 | simpa using c9)
        refine Cfg.setS 24 (show .slice (some ⟨sa1,offa1,none⟩) m.vs.length m.vc = .slice m.va m.vs.length m.vc from congrArg (fun z => Value.slice z m.vs.length m.vc) hva1.symm) ?_
        refine Cfg.again rfl (i + 1) ⟨by omega,hgo.symm.trans hra⟩ (by show m.vs.length - (i + 1) < m.vs.length - i; omega) (Conv.mk kr) (.cons _ (.cons_cons _ (List.nil_sublist _)))
    ·have c3 := (dF c3r)
     refine Rq [2] ?_
     refine Cfg.ret rfl (rs := [.tmp 2]) rfl [.int .i64 0] ⟨kr,trivial⟩ (fun w1 hp => ?_)
     have hfin : checkR m.vs m.es (m.rs.map RowU.xs) = 0 := by rw [hchk,← hra,List.drop_eq_nil_of_le om]; rfl
     rw [hfin]
     exact ⟨rfl,hp.ext⟩
end Go.Proofs.YtbeeelgfhfmgbaaGreatDoor
namespace Go.Proofs.YtbeeelgfhfmgbaaGreatDoor
namespace K
open Go.MapKept
structure WMapOk (es : Array MapEntry) (ck : Nat) (W : List (Int × Value)) : Prop where
 rel : es.toList.map (fun e => (e.key,e.val)) = W.map fun p => (Value.int .u32 p.1,p.2)
 st : Stamped es ck
theorem wfindNow_of (q : IntKind) (k : Int) : ∀ (es : List MapEntry) (W : List (Int × Value)) (i : Nat),es.map (fun e => (e.key,e.val)) = W.map (fun p => (Value.int .u32 p.1,p.2)) → Instr.findNow (.int q) (.int .u32 k) es i = some (mfind k W i)
 | [],[],_,_ => rfl
 | [],_ :: _,_,h => by simp at h
 | _ :: _,[],_,h => by simp at h
 | e :: es,p :: W,i,h => by
  simp only [List.map_cons,List.cons.injEq,Prod.mk.injEq] at h
  obtain ⟨⟨h1,h2⟩,h3⟩ := h
  unfold Instr.findNow mfind
  rw [h1]
  simp only [Instr.sameNow,if_true]
  by_cases hk : k = p.1
  ·subst hk; simp [h2]
  ·rw [if_neg hk,show (k == p.1) = false from beq_eq_false_iff_ne.2 hk]
   exact wfindNow_of q k es W (i + 1) h3
section
variable {P : Program} {w : World}
theorem wint_key {q : IntKind} {k : Int} {kt : TypeId} (hd : P.underlying kt = some (.int q)) (e : Bool) : (Instr.checkKey e 10000 kt (.int .u32 k)).run P w = .ok () w := by
 show (Instr.checkKey e (9999 + 1) kt (.int .u32 k)).run P w = _
 unfold Instr.checkKey
 simp only [Sem.run_bind,run_underlying' hd,Result.andThen_ok]; rfl
theorem wint_find {q : IntKind} {k : Int} {kt : TypeId} (hd : P.underlying kt = some (.int q)) {es : Array MapEntry} {ck : Nat} {W : List (Int × Value)} (h : WMapOk es ck W) : (Instr.findKey kt (.int .u32 k) es.toList).run P w = .ok (mfind k W 0) w := by
 unfold Instr.findKey
 simp only [Sem.run_bind,run_underlying' hd,Result.andThen_ok,wfindNow_of q k _ _ 0 h.rel]; rfl
theorem wrun_lookup {t kt e : TypeId} {q : IntKind} {k : Int} {r : Nat} {es : Array MapEntry} {ck : Nat} {W : List (Int × Value)} {z : Value} (hm : P.underlying t = some (.map kt e)) (hd : P.underlying kt = some (.int q)) (hz0 : (P.info? e).bind (·.zero) = some z) (hb : w.heap[r]? = some (.map es ck)) (h : WMapOk es ck W) (ok : Bool) :
  (Instr.lookup t (.map (some r)) (.int .u32 k) ok).run P w = .ok (if ok then .tuple #[(mget W k).getD z,.bool (mget W k).isSome] else (mget W k).getD z) w := by
 obtain ⟨inf,hi,hz⟩ := Option.bind_eq_some_iff.1 hz0
 have hzv : (zeroValue e).run P w = .ok z w := by simp [zeroValue,typeInfo,program,Sem.run,hi,hz]
 unfold Instr.lookup
 simp only [Sem.run_bind,run_underlying' hm,Result.andThen_ok,Go.MapKept.run_getObj_map hb,Sem.run_pure,wint_key hd,wint_find hd h]
 rw [← mfind_get k W 0]
 cases mfind k W 0 with
 | none => simp only [Sem.run_bind,hzv,Result.andThen_ok,Sem.run_pure]; cases ok <;> rfl
 | some p => cases ok <;> rfl
theorem wrun_mapUpdate {t kt e : TypeId} {q : IntKind} {k : Int} {v : Value} {r : Nat} {es : Array MapEntry} {ck : Nat} {W : List (Int × Value)} (hm : P.underlying t = some (.map kt e)) (hd : P.underlying kt = some (.int q)) (hb : w.heap[r]? = some (.map es ck)) (h : WMapOk es ck W) :
  ∃ es' ck',WMapOk es' ck' (mset W k v) ∧ (Instr.mapUpdate t (.map (some r)) (.int .u32 k) v).run P w = .ok () { w with heap := w.heap.setIfInBounds r (.map es' ck') } := by
 cases hf : mfind k W 0 with
 | none =>
  obtain ⟨h1,h2⟩ := mfind_none v hf
  refine ⟨es.push { key := .int .u32 k,val := v,born := ck },ck + 1,⟨?_,stamped_push h.st ?_⟩,?_⟩
  ·rw [Array.toList_push,List.map_append,h.rel,h1,List.map_append]; rfl
  ·intro x hx hk
   have hx2 : (x.key,x.val) ∈ W.map fun p => (Value.int .u32 p.1,p.2) := by rw [← h.rel]; exact List.mem_map.2 ⟨x,hx,rfl⟩
   obtain ⟨p,hp,he⟩ := List.mem_map.1 hx2
   simp only [Prod.mk.injEq] at he
   rw [hk] at he
   have := he.1
   simp only [Value.int.injEq,true_and] at this
   exact h2 p hp this
  ·simp only [Instr.mapUpdate,Sem.run_bind,run_underlying' hm,Result.andThen_ok,Go.MapKept.run_getObj_map hb,wint_key hd,wint_find hd h,hf,Go.MapKept.run_setObj_map _ hb]
 | some jp =>
  obtain ⟨j,u⟩ := jp
  obtain ⟨_,hW⟩ := mfind_some hf
  rw [Nat.sub_zero] at hW
  have hlen : es.toList.length = W.length := by have := congrArg List.length h.rel; simpa using this
  have hjW : j < W.length := (List.getElem?_eq_some_iff.1 hW).1
  have hj : j < es.size := by rw [← Array.length_toList]; omega
  have hej : (es[j].key,es[j].val) = (Value.int .u32 k,u) := by
   have h3 : (es.toList.map (fun e => (e.key,e.val)))[j]? = (W.map fun p => (Value.int .u32 p.1,p.2))[j]? := by rw [h.rel]
   rw [List.getElem?_map,List.getElem?_map,hW,Array.getElem?_toList,Array.getElem?_eq_getElem hj] at h3
   simpa using h3
  simp only [Prod.mk.injEq] at hej
  have hkt : (Instr.keyThatStays (((es[j]?).map (·.key)).getD (.int .u32 k)) (.int .u32 k)).run P w = .ok (.int .u32 k) w := by
   rw [Array.getElem?_eq_getElem hj,Option.map_some,Option.getD_some,hej.1]
   exact run_keyThatStays (d := .int .u32) (by first | trivial | rfl | exact ⟨_,rfl⟩)
  refine ⟨es.modify j (fun e => { e with key := .int .u32 k,val := v }),ck,⟨?_,stamped_modify h.st j _ (fun _ _ => rfl) (fun e _ hge => by rw [Array.getElem?_eq_getElem hj] at hge; cases hge; exact hej.1.symm)⟩,?_⟩
  ·rw [mfind_set v hf,Nat.sub_zero,List.map_set,← h.rel]
   apply List.ext_getElem?
   intro q
   simp only [List.getElem?_map,Array.getElem?_toList,Array.getElem?_modify,List.getElem?_set,List.length_map,Array.length_toList]
   by_cases hq : j = q
   ·subst hq; simp [hj]
   ·simp [hq]
  ·simp only [Instr.mapUpdate,Sem.run_bind,run_underlying' hm,Result.andThen_ok,Go.MapKept.run_getObj_map hb,wint_key hd,wint_find hd h,hf,hkt,Go.MapKept.run_setObj_map _ hb]
end
section
variable {C : Cx} {R O : List (Nat × Obj)} {Γ : Env} {op : Oper}
theorem Eff.wGet {t kt e : TypeId} {q : IntKind} {x y : Operand} {ok : Bool} (ho : op.op = .lookup t x y ok) (hm : C.P.underlying t = some (.map kt e)) (hd : C.P.underlying kt = some (.int q)) {z : Value} (hz0 : (C.P.info? e).bind (·.zero) = some z) {r : Nat} {k : Int} (hx : opd Γ [] x = some (.map (some r))) (hy : opd Γ [] y = some (.int .u32 k))
  {es : Array MapEntry} {ck : Nat} {W : List (Int × Value)} (h : WMapOk es ck W) (hb : ∀ w,HP C.w0 C.M R O w → w.heap[r]? = some (.map es ck)) :
  Eff C R O Γ op Unit (fun _ => if ok then .tuple #[(mget W k).getD z,.bool (mget W k).isSome] else (mget W k).getD z) (fun _ => O) (fun _ => True) :=
 Eff.of_run fun a w hs hp => ⟨(),w,trivial,by
  simp only [execOp,ho]
  refine run_v ?_
  rw [opd_ok hs (holds_nil _) hx,opd_ok hs (holds_nil _) hy]
  exact wrun_lookup hm hd hz0 (hb w hp) h ok,hp⟩
theorem Eff.wSet {t kt e : TypeId} {q : IntKind} {x y v : Operand} (ho : op.op = .mapUpdate t x y v) (hm : C.P.underlying t = some (.map kt e)) (hd : C.P.underlying kt = some (.int q)) {r : Nat} {k : Int} {u : Value} (hx : opd Γ [] x = some (.map (some r))) (hy : opd Γ [] y = some (.int .u32 k)) (hv : opd Γ [] v = some u)
  {es : Array MapEntry} {ck : Nat} {W : List (Int × Value)} (h : WMapOk es ck W) (i : Nat) (hO : O[i]? = some (r,.map es ck)) :
  Eff C R O Γ op (Array MapEntry × Nat) (fun _ => undef) (fun x => O.set i (r,.map x.1 x.2)) (fun x => WMapOk x.1 x.2 (mset W k u)) := by
 refine Eff.of_skip fun a w hs hp => ?_
 obtain ⟨es',ck',h1,h2⟩ := wrun_mapUpdate (v := u) (k := k) hm hd (hp.own _ (List.mem_of_getElem? hO)) h
 refine ⟨(es',ck'),_,h1,?_,hp.set i (.map es' ck') hO (w' := { w with heap := w.heap.setIfInBounds r (.map es' ck') }) rfl rfl rfl rfl⟩
 have e1 := opd_ok hs (holds_nil _) hx
 have e2 := opd_ok hs (holds_nil _) hy
 have e3 := opd_ok hs (holds_nil _) hv
 simp [execOp,ho,e1,e2,e3,h2]
theorem WMapOk.empty (ck : Nat) : WMapOk #[] ck [] := ⟨rfl,stamped_empty ck⟩
end
end K
end Go.Proofs.YtbeeelgfhfmgbaaGreatDoor
namespace Go.Proofs.YtbeeelgfhfmgbaaGreatDoor
open K
set_option linter.unusedVariables false
set_option linter.unusedSimpArgs false
def updF {α : Type} (f : Nat → α) (u : Nat) (x : α) : Nat → α := fun v => if v = u then x else f v
theorem updF_at {α : Type} (f : Nat → α) (u : Nat) (x : α) : updF f u x u = x := if_pos rfl
theorem updF_ne {α : Type} {f : Nat → α} {u v : Nat} {x : α} (h : v ≠ u) : updF f u x v = f v := if_neg h
def memN (U : List Nat) (o : Nat → K.Own) (c : Nat → List Nat) : List (Nat × Obj) := U.flatMap fun v => Own.o 73 ((c v).flatMap u32c) (o v)
theorem memN_upd {U : List Nat} {u : Nat} (h : u ∉ U) (o : Nat → K.Own) (c : Nat → List Nat) (o2 : K.Own) (c2 : List Nat) : memN U (updF o u o2) (updF c u c2) = memN U o c := by
 unfold memN
 induction U with
 | nil => rfl
 | cons v U ih =>
  rw [List.flatMap_cons,List.flatMap_cons,ih (fun h9 => h (List.mem_cons_of_mem _ h9))]
  have hne : v ≠ u := fun e => h (e ▸ mH)
  rw [updF_ne hne,updF_ne hne]
theorem memN_app (l1 l2 : List Nat) (u : Nat) (o : Nat → K.Own) (c : Nat → List Nat) : memN (l1 ++ u :: l2) o c = memN l1 o c ++ (Own.o 73 ((c u).flatMap u32c) (o u) ++ memN l2 o c) := by
 unfold memN; rw [List.flatMap_append,List.flatMap_cons]
theorem memN_nil (U : List Nat) (c : Nat → List Nat) : memN U (fun _ => none) c = [] := by
 unfold memN
 induction U with
 | nil => rfl
 | cons v U ih => rw [List.flatMap_cons,ih]; rfl
theorem mem_split {U : List Nat} {u : Nat} (h : u ∈ U) (hn : U.Nodup) : ∃ l1 l2,U = l1 ++ u :: l2 ∧ u ∉ l1 ∧ u ∉ l2 := by
 obtain ⟨l1,l2,rfl⟩ := List.append_of_mem h
 have h1 := List.nodup_append.1 hn
 exact ⟨l1,l2,rfl,(fun h9 => h1.2.2 u h9 u mH rfl),(List.nodup_cons.1 h1.2.1).1⟩
structure NbOk (vs : List Nat) (W : List (Int × Value)) (o : Nat → K.Own) (c : Nat → List Nat) (b : Nat) : Prop where
 get : ∀ v ∈ vs,(mget W (v : Int)).getD (.slice none 0 0) = .slice (Own.a (o v)) (c v).length (Own.c (o v))
 ok : ∀ v ∈ vs,OwnOk (o v) 1 (c v).length ((c v).flatMap u32c)
 len : ∀ v,(c v).length ≤ b
theorem NbOk.zero (vs : List Nat) (c : Nat → List Nat) (h : ∀ v,c v = []) : NbOk vs [] (fun _ => none) c 0 :=
 ⟨fun v _ => by rw [h]; rfl,fun v _ => by rw [h]; exact OwnOk.none _,fun v => by rw [h]; exact Nat.le_refl _⟩
theorem NbOk.set {vs : List Nat} {W : List (Int × Value)} {o : Nat → K.Own} {c : Nat → List Nat} {b : Nat} (h : NbOk vs W o c b) {u w : Nat} {o2 : K.Own} (h2 : OwnOk o2 1 ((c u).length + 1) ((c u).flatMap u32c ++ [.int .u32 (w : Int)])) :
  NbOk vs (mset W (u : Int) (.slice (Own.a o2) ((c u).length + 1) (Own.c o2))) (updF o u o2) (updF c u (c u ++ [w])) (b + 1) := by
 have hl : (c u ++ [w]).length = (c u).length + 1 := by rw [List.length_append]; rfl
 have hf : (c u ++ [w]).flatMap u32c = (c u).flatMap u32c ++ [.int .u32 (w : Int)] := by rw [List.flatMap_append]; rfl
 refine ⟨fun v hv => ?_,fun v hv => ?_,fun v => ?_⟩
 ·rw [mget_set]
  by_cases hvu : v = u
  ·subst hvu; rw [if_pos rfl,updF_at,updF_at,hl]; rfl
  ·rw [if_neg om,updF_ne hvu,updF_ne hvu]; exact h.get v hv
 ·by_cases hvu : v = u
  ·subst hvu; rw [updF_at,updF_at,hl,hf]; exact h2
  ·rw [updF_ne hvu,updF_ne hvu]; exact h.ok v hv
 ·by_cases hvu : v = u
  ·subst hvu; rw [updF_at,hl]; have := h.len v; omega
  ·rw [updF_ne hvu]; have := h.len v; omega
theorem Eff.reV {C : Cx} {R O : List (Nat × Obj)} {Γ : Env} {o : Oper} {ι : Type} {V V2 : ι → Value} {A : ι → List (Nat × Obj)} {F : ι → Prop} (h : Eff C R O Γ o ι V A F) (e : ∀ x,V x = V2 x) : Eff C R O Γ o ι V2 A F := by
 have : V = V2 := funext e
 rw [← this]; exact h
theorem nearF_go {es : List Ed} {i : Nat} (h : i < es.length) (v : Nat) : nearF (es.take (i + 1)) v = nearF (es.take i) v ++ ((if (es.getD i ez).2.1 = v then [(es.getD i ez).2.2] else []) ++ (if (es.getD i ez).2.2 = v then [(es.getD i ez).2.1] else [])) := by
 unfold nearF
 rw [List.take_succ_eq_append_getElem h,List.flatMap_append,List.flatMap_cons,List.flatMap_nil,List.append_nil,getD_at h]
theorem near_upd {es : List Ed} {i : Nat} (h : i < es.length) {c cA cB : Nat → List Nat} (hc : ∀ v,c v = nearF (es.take i) v) (hA : cA = updF c (es.getD i ez).2.1 (c (es.getD i ez).2.1 ++ [(es.getD i ez).2.2])) (hB : cB = updF cA (es.getD i ez).2.2 (cA (es.getD i ez).2.2 ++ [(es.getD i ez).2.1])) : ∀ v,cB v = nearF (es.take (i + 1)) v := by
 intro v
 have key : ∀ v,cA v = c v ++ (if (es.getD i ez).2.1 = v then [(es.getD i ez).2.2] else []) := fun v => by
  rw [hA]
  by_cases h1 : v = (es.getD i ez).2.1
  ·rw [← h1,updF_at,if_pos rfl]
  ·rw [updF_ne h1,if_neg (fun e => h1 e.symm),List.append_nil]
 rw [nearF_go h,hB]
 by_cases h1 : v = (es.getD i ez).2.2
 ·subst h1; rw [updF_at,if_pos rfl,key,hc,List.append_assoc]
 ·have h2 : ¬ (es.getD i ez).2.2 = v := fun e => h1 e.symm
  rw [updF_ne h1,key,hc,if_neg h2,List.append_nil]
abbrev MX := Array MapEntry × Nat
structure NQ where
 mb : Nat
 x : MX
 W : List (Int × Value)
 o : Nat → K.Own
structure NQ.Ok (q : NQ) (vs : List Nat) (es : List Ed) : Prop where
 m : WMapOk q.x.1 q.x.2 q.W
 n : NbOk vs q.W q.o (nearF es) (2 * es.length)
def NQ.mem (q : NQ) (vs : List Nat) (es : List Ed) : List (Nat × Obj) := (q.mb,.map q.x.1 q.x.2) :: memN vs q.o (nearF es)
set_option maxRecDepth 100000 in
set_option maxHeartbeats 8000000 in
theorem gNear (m : MM) (Rl : List (Nat × Obj)) (w : World) (hM : InM Rl m) (hR : Has w Rl) (hg : GrOk m.vs m.es) (hnd : m.vs.Nodup) :
  Calls Tryz.prog 93 #[.agg (gc m).toArray] w fun e w' => ∃ q : NQ,q.Ok m.vs m.es ∧ e = .returned (.map (some q.mb)) ∧ ∃ R1,HP w [] R1 (q.mem m.vs m.es) w' := by
 refine enter [] Rl [] Tryz.func93 rfl kr (HP.ofHas hR) ?_
 refine Cfg.begL rfl ?_
 refine Le (Eff.box (v := .agg (gc m).toArray) rfl kr) ?_
 rintro gb ⟨hgb,ngb⟩
 refine Ld 1 [1] ?_
 refine Cfg.begL rfl ?_
 refine Le (Eff.mapNew rfl) ?_
 rintro mb ⟨hmb,nmb⟩
 refine Ld 1 [1,3] ?_
 refine Rg [3,8,9,10] [dZ,(dS (.slice m.ea m.es.length m.ec))] (fun S => [(cE S gb 1 (.slice m.ea m.es.length m.ec))]) ⟨(fun w1 h => h.ocell 1 rfl (by rw [List.getElem?_toArray]; exact rfl)),trivial⟩ ?_
 refine Cfg.loop rfl (ι := Nat × MX × List (Int × Value) × (Nat → K.Own) × (Nat → List Nat)) (fun (xz : Nat × MX × List (Int × Value) × (Nat → K.Own) × (Nat → List Nat)) => match xz with | (i,x,W,o,c) => [(10,[],iN i),(9,[],iN m.es.length),(8,[],.slice m.ea m.es.length m.ec),(3,[],.map (some mb))]) (fun (xz : Nat × MX × List (Int × Value) × (Nat → K.Own) × (Nat → List Nat)) => match xz with | (i,x,W,o,c) => ([(mb,.map x.1 x.2),(gb,.cells ((gc m).toArray) 25 (0,0))] ++ (memN m.vs o c ++ []))) (fun (xz : Nat × MX × List (Int × Value) × (Nat → K.Own) × (Nat → List Nat)) => match xz with | (i,x,W,o,c) => (i ≤ m.es.length) ∧ (WMapOk x.1 x.2 W) ∧ (NbOk m.vs W o c (2 * i)) ∧ (∀ v,c v = nearF (m.es.take i) v)) (fun (xz : Nat × MX × List (Int × Value) × (Nat → K.Own) × (Nat → List Nat)) => match xz with | (i,x,W,o,c) => m.es.length - i) (0,(#[],0),[],(fun _ => none),nearF []) ?_ (Conv.mk kr) (by show (_ :: _ :: (memN m.vs (fun _ => none) (nearF []) ++ [])).Sublist _; rw [memN_nil]; exact List.Sublist.refl _) ?_
 ·exact ⟨Nat.zero_le _,WMapOk.empty _,NbOk.zero _ _ (fun v => rfl),fun v => by rw [List.take_zero]⟩
 ·rintro ⟨i,x,W,o,c⟩ ⟨hi,hx,hxn,hc⟩
  have hge := hg.e
  refine Rq [3,8,9,10,11] ?_
  refine Cfg.cond rfl (b := (decide ((i : Int) < (m.es.length : Int)))) kr (fun c1r => ?_) (fun c1r => ?_)
  ·have c1 := (dT c1r)
   have hin := hg.en _ (K.getD_mem (z := ez) (l := m.es) (i := i) om)
   have hA := hin.2.1
   have hB := hin.2.2.1
   obtain ⟨a1,a2,hva,na1,na2⟩ := mem_split hA hnd
   obtain ⟨b1,b2,hvb,nb1,nb2⟩ := mem_split hB hnd
   obtain ⟨sb1,offb1,csb1,teb1,freb1,hvb1,hmb1,hcb1⟩ := hM.e om
   refine Cg (Γ' := [(11,[],.bool (decide ((i : Int) < (m.es.length : Int)))),(10,[],iN i),(9,[],iN m.es.length),(8,[],.slice m.ea m.es.length m.ec),(3,[],.map (some mb))]) ?_
   refine Cfg.setG (Γ' := [(11,[],.bool (decide ((i : Int) < (m.es.length : Int)))),(10,[],iN i),(9,[],iN m.es.length),(8,[],.slice (some ⟨sb1,offb1,none⟩) m.es.length m.ec),(3,[],.map (some mb))]) (congrArg (fun (xq : Option Addr) => ([(11,[],.bool (decide ((i : Int) < (m.es.length : Int)))),(10,[],iN i),(9,[],iN m.es.length),(8,[],.slice xq m.es.length m.ec),(3,[],.map (some mb))] : Env)) hvb1) ?_
   refine Cfg.begL rfl ?_
   refine Lp 2 [dZ,(dS (.agg (edc (m.es.getD i ez)).toArray))] (some [3,8,9,10,13]) (fun S => [(0 ≤ (i : Int) ∧ (i : Int) < (m.es.length : Int)),(∀ w1,S w1 → (loadVar 76 ⟨sb1,(addO offb1 (i * 3)),none⟩).run Tryz.prog w1 = .ok (.agg (edc (m.es.getD i ez)).toArray) w1)]) ⟨om,(fun w1 h => load_list Tryz.underlying76 rfl kr (edc_len _) (fun j v hj => by rw [addO_eq]; exact (cell_cells (h.ro _ hmb1)).trans (fl_cell ez (fun x _ => edc_len x) hcb1 om hj))),trivial⟩ ?_
   refine Le (Eff.alloc (z := (.agg #[.int .u32 0,.int .u32 0,.int .u32 0])) rfl kr) ?_
   rintro eb ⟨heb,neb⟩
   refine Lu (Eff.storeN (b := eb) (off := 0) (vs := (edc (m.es.getD i ez)).toArray) (n := 3) rfl kr kr kr rfl (one_edc _) 0 (cs := #[.int .u32 0,.int .u32 0,.int .u32 0]) (e := 76) kr (by decide)) ?_
   refine CfgL.setO (congrArg (fun (xq : Array Value) => (([(eb,.cells xq 76 (0,0)),(mb,.map x.1 x.2),(gb,.cells ((gc m).toArray) 25 (0,0))] ++ (memN m.vs o c ++ [])) : LO)) (show _ = #[.int .u32 ((m.es.getD i ez).1 : Int),.int .u32 ((m.es.getD i ez).2.1 : Int),.int .u32 ((m.es.getD i ez).2.2 : Int)] from rfl)) ?_
   refine CfgL.done rfl ?_
   refine Cg (Γ' := [(5,[],pT eb),(10,[],iN i),(9,[],iN m.es.length),(8,[],.slice (some ⟨sb1,offb1,none⟩) m.es.length m.ec),(3,[],.map (some mb))]) ?_
   refine Cfg.setO (O' := ([(eb,.cells #[.int .u32 ((m.es.getD i ez).1 : Int),.int .u32 ((m.es.getD i ez).2.1 : Int),.int .u32 ((m.es.getD i ez).2.2 : Int)] 76 (0,0)),(mb,.map x.1 x.2),(gb,.cells ((gc m).toArray) 25 (0,0))] ++ (memN a1 o c ++ (Own.o 73 ((c (m.es.getD i ez).2.1).flatMap u32c) ((o (m.es.getD i ez).2.1)) ++ (memN a2 o c ++ []))))) (by rw [show memN m.vs o c = _ from (congrArg (fun U => memN U o c) hva).trans (memN_app _ _ _ _ _)]; simp only [List.append_assoc,List.append_nil]) ?_
   refine Cfg.begA rfl kr [(eb,.cells #[.int .u32 ((m.es.getD i ez).1 : Int),.int .u32 ((m.es.getD i ez).2.1 : Int),.int .u32 ((m.es.getD i ez).2.2 : Int)] 76 (0,0)),(gb,.cells ((gc m).toArray) 25 (0,0))] ?_
   refine Ap [0,1,2,3,4,5,7,8] [dZ,dZ,(dS (.int .u32 ((m.es.getD i ez).2.1 : Int))),dZ,dZ,(dS (.int .u32 ((m.es.getD i ez).2.1 : Int))),dZ,(dS (.int .u32 ((m.es.getD i ez).2.2 : Int)))] (some [3,5,8,9,10,14,16,17,19,22]) (bF 447 12) (.cons_cons _ (.cons _ (.cons_cons _ (List.nil_sublist _)))) 4 (fun S => [(cE S eb 1 (.int .u32 ((m.es.getD i ez).2.1 : Int))),(cE S eb 1 (.int .u32 ((m.es.getD i ez).2.1 : Int))),(cE S eb 2 (.int .u32 ((m.es.getD i ez).2.2 : Int)))]) ⟨(oC 0 rfl rfl),(oC 0 rfl rfl),(oC 0 rfl rfl),trivial⟩ ?_
   refine CfgA.fam (ι := Option (Unit) × Option (Nat)) (fun (zq : Option (Unit) × Option (Nat)) => match zq with | (oo6,oo9) => (optL oo6 (fun (_ : Unit) => [(20,[],.slice (Own.a ((o (m.es.getD i ez).2.1))) ((c (m.es.getD i ez).2.1).length) (Own.c ((o (m.es.getD i ez).2.1))))]) ++ (optL oo9 (fun (rb23 : Nat) => [(23,[],.slice (some ⟨rb23,0,none⟩) 1 1)]) ++ [(22,[],.int .u32 ((m.es.getD i ez).2.2 : Int)),(19,[],.int .u32 ((m.es.getD i ez).2.1 : Int)),(17,[],.map (some mb)),(16,[],.int .u32 ((m.es.getD i ez).2.1 : Int)),(14,[],.map (some mb)),(5,[],pT eb),(10,[],iN i),(9,[],iN m.es.length),(8,[],.slice (some ⟨sb1,offb1,none⟩) m.es.length m.ec),(3,[],.map (some mb))]))) (fun (zq : Option (Unit) × Option (Nat)) => match zq with | (oo6,oo9) => (optL oo9 (fun (rb23 : Nat) => [(rb23,.cells #[.int .u32 ((m.es.getD i ez).2.2 : Int)] 73 (0,0))]) ++ ([(eb,.cells #[.int .u32 ((m.es.getD i ez).1 : Int),.int .u32 ((m.es.getD i ez).2.1 : Int),.int .u32 ((m.es.getD i ez).2.2 : Int)] 76 (0,0)),(mb,.map x.1 x.2),(gb,.cells ((gc m).toArray) 25 (0,0))] ++ ([] ++ (memN a1 o c ++ (Own.o 73 ((c (m.es.getD i ez).2.1).flatMap u32c) ((o (m.es.getD i ez).2.1)) ++ (memN a2 o c ++ []))))))) (fun (zq : Option (Unit) × Option (Nat)) => match zq with | (oo6,oo9) => #[true,true,true,true,true,true,oo6.isSome,true,true,oo9.isSome,false,false]) (fun (zq : Option (Unit) × Option (Nat)) => match zq with | (oo6,oo9) => 4 - (optN oo6 + optN oo9)) (fun (zq : Option (Unit) × Option (Nat)) => match zq with | (oo6,oo9) => True) (none,none) trivial kr kr (List.Perm.refl _) (Conv.mk kr) ?_
   rintro ⟨oo6,oo9⟩ hz IH
   rcases oo6 with _ | ⟨⟩
   ·
    rcases oo9 with _ | rb23
    ·
     refine CfgA.to (l' := (bF 447 12)) (fuel' := 4) (O' := ([(eb,.cells #[.int .u32 ((m.es.getD i ez).1 : Int),.int .u32 ((m.es.getD i ez).2.1 : Int),.int .u32 ((m.es.getD i ez).2.2 : Int)] 76 (0,0)),(mb,.map x.1 x.2),(gb,.cells ((gc m).toArray) 25 (0,0))] ++ (memN a1 o c ++ (Own.o 73 ((c (m.es.getD i ez).2.1).flatMap u32c) ((o (m.es.getD i ez).2.1)) ++ (memN a2 o c ++ []))))) (Γ' := [(22,[],.int .u32 ((m.es.getD i ez).2.2 : Int)),(19,[],.int .u32 ((m.es.getD i ez).2.1 : Int)),(17,[],.map (some mb)),(16,[],.int .u32 ((m.es.getD i ez).2.1 : Int)),(14,[],.map (some mb)),(5,[],pT eb),(10,[],iN i),(9,[],iN m.es.length),(8,[],.slice (some ⟨sb1,offb1,none⟩) m.es.length m.ec),(3,[],.map (some mb))]) ?_ kr kr (List.Perm.refl _) (Conv.mk kr)
     refine CfgA.many [6,9] kr (by decide) (fuel' := 3) kr ⟨?_,?_,trivial⟩
     ·
      refine Iu rfl  (Eff.reV (Eff.wGet (ok := false) (z := .slice none 0 0) (r := mb) (k := ((m.es.getD i ez).2.1 : Int)) (es := x.1) (ck := x.2) rfl Tryz.underlying115 Tryz.underlying73 kr kr kr hx (fun w1 h => h.own (mb,_) (mG 1 rfl))) (fun _ => hxn.get ((m.es.getD i ez).2.1) hA)) (fun _ _ => (.cons_cons _ (.cons _ (.cons_cons _ (List.nil_sublist _))))) ?_
      exact CfgA.to (IH (some (),none) trivial (lt4 kr)) kr kr (.refl _) (Conv.mk kr)
     ·
      refine Ie rfl  (Eff.buildSlice (e := 73) (cells := #[.int .u32 ((m.es.getD i ez).2.2 : Int)]) (parts := #[(0,.int .u32 ((m.es.getD i ez).2.2 : Int))]) rfl kr (fun _ => kr)) (fun _ _ => (.cons _ (.cons_cons _ (.cons _ (.cons_cons _ (List.nil_sublist _)))))) ?_
      rintro rb23 ⟨hrb23,nrb23⟩
      exact CfgA.to (IH (none,some rb23) trivial (lt4 kr)) kr kr (.refl _) (Conv.mk kr)
    ·
     refine CfgA.to (l' := (bF 959 12)) (fuel' := 3) (O' := ([(rb23,.cells #[.int .u32 ((m.es.getD i ez).2.2 : Int)] 73 (0,0)),(eb,.cells #[.int .u32 ((m.es.getD i ez).1 : Int),.int .u32 ((m.es.getD i ez).2.1 : Int),.int .u32 ((m.es.getD i ez).2.2 : Int)] 76 (0,0)),(mb,.map x.1 x.2),(gb,.cells ((gc m).toArray) 25 (0,0))] ++ (memN a1 o c ++ (Own.o 73 ((c (m.es.getD i ez).2.1).flatMap u32c) ((o (m.es.getD i ez).2.1)) ++ (memN a2 o c ++ []))))) (Γ' := [(23,[],.slice (some ⟨rb23,0,none⟩) 1 1),(22,[],.int .u32 ((m.es.getD i ez).2.2 : Int)),(19,[],.int .u32 ((m.es.getD i ez).2.1 : Int)),(17,[],.map (some mb)),(16,[],.int .u32 ((m.es.getD i ez).2.1 : Int)),(14,[],.map (some mb)),(5,[],pT eb),(10,[],iN i),(9,[],iN m.es.length),(8,[],.slice (some ⟨sb1,offb1,none⟩) m.es.length m.ec),(3,[],.map (some mb))]) ?_ kr kr (List.Perm.refl _) (Conv.mk kr)
     refine CfgA.many [6] kr (by decide) (fuel' := 2) kr ⟨?_,trivial⟩
     ·
      refine Iu rfl  (Eff.reV (Eff.wGet (ok := false) (z := .slice none 0 0) (r := mb) (k := ((m.es.getD i ez).2.1 : Int)) (es := x.1) (ck := x.2) rfl Tryz.underlying115 Tryz.underlying73 kr kr kr hx (fun w1 h => h.own (mb,_) (mG 2 rfl))) (fun _ => hxn.get ((m.es.getD i ez).2.1) hA)) (fun _ _ => (.cons _ (.cons_cons _ (.cons _ (.cons_cons _ (List.nil_sublist _)))))) ?_
      exact CfgA.to (IH (some (),some rb23) trivial (lt4 kr)) kr kr (.refl _) (Conv.mk kr)
   ·
    rcases oo9 with _ | rb23
    ·
     refine CfgA.to (l' := tF 9 3) (fuel' := 3) (O' := ([(eb,.cells #[.int .u32 ((m.es.getD i ez).1 : Int),.int .u32 ((m.es.getD i ez).2.1 : Int),.int .u32 ((m.es.getD i ez).2.2 : Int)] 76 (0,0)),(mb,.map x.1 x.2),(gb,.cells ((gc m).toArray) 25 (0,0))] ++ (memN a1 o c ++ (Own.o 73 ((c (m.es.getD i ez).2.1).flatMap u32c) ((o (m.es.getD i ez).2.1)) ++ (memN a2 o c ++ []))))) (Γ' := [(20,[],.slice (Own.a ((o (m.es.getD i ez).2.1))) ((c (m.es.getD i ez).2.1).length) (Own.c ((o (m.es.getD i ez).2.1)))),(22,[],.int .u32 ((m.es.getD i ez).2.2 : Int)),(19,[],.int .u32 ((m.es.getD i ez).2.1 : Int)),(17,[],.map (some mb)),(16,[],.int .u32 ((m.es.getD i ez).2.1 : Int)),(14,[],.map (some mb)),(5,[],pT eb),(10,[],iN i),(9,[],iN m.es.length),(8,[],.slice (some ⟨sb1,offb1,none⟩) m.es.length m.ec),(3,[],.map (some mb))]) ?_ kr kr (List.Perm.refl _) (Conv.mk kr)
     refine CfgA.many [9] kr (by decide) (fuel' := 2) kr ⟨?_,trivial⟩
     ·
      refine Ie rfl  (Eff.buildSlice (e := 73) (cells := #[.int .u32 ((m.es.getD i ez).2.2 : Int)]) (parts := #[(0,.int .u32 ((m.es.getD i ez).2.2 : Int))]) rfl kr (fun _ => kr)) (fun _ _ => (.cons _ (.cons_cons _ (.cons _ (.cons_cons _ (List.nil_sublist _)))))) ?_
      rintro rb23 ⟨hrb23,nrb23⟩
      exact CfgA.to (IH (some (),some rb23) trivial (lt4 kr)) kr kr (.refl _) (Conv.mk kr)
    ·
     refine CfgA.to (l' := tF 10 2) (fuel' := 2) (O' := ([(rb23,.cells #[.int .u32 ((m.es.getD i ez).2.2 : Int)] 73 (0,0)),(eb,.cells #[.int .u32 ((m.es.getD i ez).1 : Int),.int .u32 ((m.es.getD i ez).2.1 : Int),.int .u32 ((m.es.getD i ez).2.2 : Int)] 76 (0,0)),(mb,.map x.1 x.2),(gb,.cells ((gc m).toArray) 25 (0,0))] ++ (memN a1 o c ++ (Own.o 73 ((c (m.es.getD i ez).2.1).flatMap u32c) ((o (m.es.getD i ez).2.1)) ++ (memN a2 o c ++ []))))) (Γ' := [(20,[],.slice (Own.a ((o (m.es.getD i ez).2.1))) ((c (m.es.getD i ez).2.1).length) (Own.c ((o (m.es.getD i ez).2.1)))),(23,[],.slice (some ⟨rb23,0,none⟩) 1 1),(22,[],.int .u32 ((m.es.getD i ez).2.2 : Int)),(19,[],.int .u32 ((m.es.getD i ez).2.1 : Int)),(17,[],.map (some mb)),(16,[],.int .u32 ((m.es.getD i ez).2.1 : Int)),(14,[],.map (some mb)),(5,[],pT eb),(10,[],iN i),(9,[],iN m.es.length),(8,[],.slice (some ⟨sb1,offb1,none⟩) m.es.length m.ec),(3,[],.map (some mb))]) ?_ kr kr (List.Perm.refl _) (Conv.mk kr)
     refine Ae 10 rfl 1  (Eff.appendF rfl 1 4 Tryz.underlying22 kr (z := (.int .u32 0)) kr kr ((o (m.es.getD i ez).2.1)) (xs := ((c (m.es.getD i ez).2.1).flatMap u32c)) (hxn.ok _ hA) kr (b2 := rb23) (off2 := 0) (m := 1) (c2 := 1) kr ([.int .u32 ((m.es.getD i ez).2.2 : Int)]) rfl (by intro q hq; rw [List.mem_singleton.1 hq]; rfl) ([(rb23,.cells #[.int .u32 ((m.es.getD i ez).2.2 : Int)] 73 (0,0)),(eb,.cells #[.int .u32 ((m.es.getD i ez).1 : Int),.int .u32 ((m.es.getD i ez).2.1 : Int),.int .u32 ((m.es.getD i ez).2.2 : Int)] 76 (0,0)),(mb,.map x.1 x.2),(gb,.cells ((gc m).toArray) 25 (0,0))] ++ memN a1 o c) (memN a2 o c ++ []) (by rfl) (fun w1 h j v hj => by rw [Nat.zero_add]; exact h.ocell 0 rfl (by rw [List.getElem?_toArray]; exact hj)) (by have := hxn.len (m.es.getD i ez).2.1; omega) (by have := hxn.len (m.es.getD i ez).2.1; omega)) (fun _ _ => (.cons _ (.cons_cons _ (.cons _ (.cons_cons _ (List.nil_sublist _)))))) ?_
     rintro o1 ko1
     refine Ae 11 rfl 0  (Eff.wSet (r := mb) (k := ((m.es.getD i ez).2.1 : Int)) (u := .slice (Own.a o1) (((c (m.es.getD i ez).2.1).length + 1)) (Own.c o1)) (es := x.1) (ck := x.2) rfl Tryz.underlying115 Tryz.underlying73 kr kr kr hx 2 kr) (fun _ _ => (.cons _ (.cons_cons _ (.cons _ (.cons_cons _ (List.nil_sublist _)))))) ?_
     rintro y hy
     refine CfgA.done kr ?_
     refine Cg (Γ' := [(5,[],pT eb),(10,[],iN i),(9,[],iN m.es.length),(8,[],.slice (some ⟨sb1,offb1,none⟩) m.es.length m.ec),(3,[],.map (some mb))]) ?_
     obtain ⟨oA,hoA⟩ : ∃ f,f = updF o ((m.es.getD i ez).2.1) o1 := ⟨_,rfl⟩
     obtain ⟨cA,hcA⟩ : ∃ f,f = updF c ((m.es.getD i ez).2.1) (c ((m.es.getD i ez).2.1) ++ [(m.es.getD i ez).2.2]) := ⟨_,rfl⟩
     obtain ⟨WA,hWA⟩ : ∃ f,f = mset W ((m.es.getD i ez).2.1 : Int) (.slice (Own.a o1) ((c ((m.es.getD i ez).2.1)).length + 1) (Own.c o1)) := ⟨_,rfl⟩
     have hyn := hxn.set ko1
     rw [← hoA,← hcA,← hWA] at hyn
     rw [← hWA] at hy
     have emy : memN m.vs oA cA = memN a1 o c ++ (Own.o 73 ((c ((m.es.getD i ez).2.1)).flatMap u32c ++ [.int .u32 ((m.es.getD i ez).2.2 : Int)]) o1 ++ memN a2 o c) := by
      rw [hoA,hcA,hva,memN_app,memN_upd na1,memN_upd na2,updF_at,updF_at,List.flatMap_append]; rfl
     refine Cfg.setO (O' := ([(rb23,.cells #[.int .u32 ((m.es.getD i ez).2.2 : Int)] 73 (0,0)),(eb,.cells #[.int .u32 ((m.es.getD i ez).1 : Int),.int .u32 ((m.es.getD i ez).2.1 : Int),.int .u32 ((m.es.getD i ez).2.2 : Int)] 76 (0,0)),(mb,.map y.1 y.2),(gb,.cells ((gc m).toArray) 25 (0,0))] ++ (memN m.vs oA cA ++ []))) (by rw [emy]; simp only [List.append_assoc,List.append_nil,List.cons_append,List.nil_append,List.append,List.set_cons_succ,List.set_cons_zero]) ?_
     refine Cfg.setO (O' := ([(rb23,.cells #[.int .u32 ((m.es.getD i ez).2.2 : Int)] 73 (0,0)),(eb,.cells #[.int .u32 ((m.es.getD i ez).1 : Int),.int .u32 ((m.es.getD i ez).2.1 : Int),.int .u32 ((m.es.getD i ez).2.2 : Int)] 76 (0,0)),(mb,.map y.1 y.2),(gb,.cells ((gc m).toArray) 25 (0,0))] ++ (memN b1 oA cA ++ (Own.o 73 ((cA (m.es.getD i ez).2.2).flatMap u32c) ((oA (m.es.getD i ez).2.2)) ++ (memN b2 oA cA ++ []))))) (by rw [show memN m.vs oA cA = _ from (congrArg (fun U => memN U oA cA) hvb).trans (memN_app _ _ _ _ _)]; simp only [List.append_assoc,List.append_nil]) ?_
     refine Cfg.begA rfl kr [(rb23,.cells #[.int .u32 ((m.es.getD i ez).2.2 : Int)] 73 (0,0)),(eb,.cells #[.int .u32 ((m.es.getD i ez).1 : Int),.int .u32 ((m.es.getD i ez).2.1 : Int),.int .u32 ((m.es.getD i ez).2.2 : Int)] 76 (0,0)),(gb,.cells ((gc m).toArray) 25 (0,0))] ?_
     refine Ap [0,1,2,3,4,5,7,8] [dZ,dZ,(dS (.int .u32 ((m.es.getD i ez).2.2 : Int))),dZ,dZ,(dS (.int .u32 ((m.es.getD i ez).2.2 : Int))),dZ,(dS (.int .u32 ((m.es.getD i ez).2.1 : Int)))] (some [3,8,9,10,25,27,28,30,33]) (bF 447 12) (.cons_cons _ (.cons_cons _ (.cons _ (.cons_cons _ (List.nil_sublist _))))) 4 (fun S => [(cE S eb 2 (.int .u32 ((m.es.getD i ez).2.2 : Int))),(cE S eb 2 (.int .u32 ((m.es.getD i ez).2.2 : Int))),(cE S eb 1 (.int .u32 ((m.es.getD i ez).2.1 : Int)))]) ⟨(oC 1 rfl rfl),(oC 1 rfl rfl),(oC 1 rfl rfl),trivial⟩ ?_
     refine CfgA.fam (ι := Option (Unit) × Option (Nat)) (fun (zq : Option (Unit) × Option (Nat)) => match zq with | (oo6,oo9) => (optL oo6 (fun (_ : Unit) => [(31,[],.slice (Own.a ((oA (m.es.getD i ez).2.2))) ((cA (m.es.getD i ez).2.2).length) (Own.c ((oA (m.es.getD i ez).2.2))))]) ++ (optL oo9 (fun (rb34 : Nat) => [(34,[],.slice (some ⟨rb34,0,none⟩) 1 1)]) ++ [(33,[],.int .u32 ((m.es.getD i ez).2.1 : Int)),(30,[],.int .u32 ((m.es.getD i ez).2.2 : Int)),(28,[],.map (some mb)),(27,[],.int .u32 ((m.es.getD i ez).2.2 : Int)),(25,[],.map (some mb)),(10,[],iN i),(9,[],iN m.es.length),(8,[],.slice (some ⟨sb1,offb1,none⟩) m.es.length m.ec),(3,[],.map (some mb))]))) (fun (zq : Option (Unit) × Option (Nat)) => match zq with | (oo6,oo9) => (optL oo9 (fun (rb34 : Nat) => [(rb34,.cells #[.int .u32 ((m.es.getD i ez).2.1 : Int)] 73 (0,0))]) ++ ([(rb23,.cells #[.int .u32 ((m.es.getD i ez).2.2 : Int)] 73 (0,0)),(eb,.cells #[.int .u32 ((m.es.getD i ez).1 : Int),.int .u32 ((m.es.getD i ez).2.1 : Int),.int .u32 ((m.es.getD i ez).2.2 : Int)] 76 (0,0)),(mb,.map y.1 y.2),(gb,.cells ((gc m).toArray) 25 (0,0))] ++ ([] ++ (memN b1 oA cA ++ (Own.o 73 ((cA (m.es.getD i ez).2.2).flatMap u32c) ((oA (m.es.getD i ez).2.2)) ++ (memN b2 oA cA ++ []))))))) (fun (zq : Option (Unit) × Option (Nat)) => match zq with | (oo6,oo9) => #[true,true,true,true,true,true,oo6.isSome,true,true,oo9.isSome,false,false]) (fun (zq : Option (Unit) × Option (Nat)) => match zq with | (oo6,oo9) => 4 - (optN oo6 + optN oo9)) (fun (zq : Option (Unit) × Option (Nat)) => match zq with | (oo6,oo9) => True) (none,none) trivial kr kr (List.Perm.refl _) (Conv.mk kr) ?_
     rintro ⟨oo6,oo9⟩ hz IH
     rcases oo6 with _ | ⟨⟩
     ·
      rcases oo9 with _ | rb34
      ·
       refine CfgA.to (l' := (bF 447 12)) (fuel' := 4) (O' := ([(rb23,.cells #[.int .u32 ((m.es.getD i ez).2.2 : Int)] 73 (0,0)),(eb,.cells #[.int .u32 ((m.es.getD i ez).1 : Int),.int .u32 ((m.es.getD i ez).2.1 : Int),.int .u32 ((m.es.getD i ez).2.2 : Int)] 76 (0,0)),(mb,.map y.1 y.2),(gb,.cells ((gc m).toArray) 25 (0,0))] ++ (memN b1 oA cA ++ (Own.o 73 ((cA (m.es.getD i ez).2.2).flatMap u32c) ((oA (m.es.getD i ez).2.2)) ++ (memN b2 oA cA ++ []))))) (Γ' := [(33,[],.int .u32 ((m.es.getD i ez).2.1 : Int)),(30,[],.int .u32 ((m.es.getD i ez).2.2 : Int)),(28,[],.map (some mb)),(27,[],.int .u32 ((m.es.getD i ez).2.2 : Int)),(25,[],.map (some mb)),(10,[],iN i),(9,[],iN m.es.length),(8,[],.slice (some ⟨sb1,offb1,none⟩) m.es.length m.ec),(3,[],.map (some mb))]) ?_ kr kr (List.Perm.refl _) (Conv.mk kr)
       refine CfgA.many [6,9] kr (by decide) (fuel' := 3) kr ⟨?_,?_,trivial⟩
       ·
        refine Iu rfl  (Eff.reV (Eff.wGet (ok := false) (z := .slice none 0 0) (r := mb) (k := ((m.es.getD i ez).2.2 : Int)) (es := y.1) (ck := y.2) rfl Tryz.underlying115 Tryz.underlying73 kr kr kr hy (fun w1 h => h.own (mb,_) (mG 2 rfl))) (fun _ => hyn.get ((m.es.getD i ez).2.2) hB)) (fun _ _ => (.cons_cons _ (.cons_cons _ (.cons _ (.cons_cons _ (List.nil_sublist _)))))) ?_
        exact CfgA.to (IH (some (),none) trivial (lt4 kr)) kr kr (.refl _) (Conv.mk kr)
       ·
        refine Ie rfl  (Eff.buildSlice (e := 73) (cells := #[.int .u32 ((m.es.getD i ez).2.1 : Int)]) (parts := #[(0,.int .u32 ((m.es.getD i ez).2.1 : Int))]) rfl kr (fun _ => kr)) (fun _ _ => (.cons _ (.cons_cons _ (.cons_cons _ (.cons _ (.cons_cons _ (List.nil_sublist _))))))) ?_
        rintro rb34 ⟨hrb34,nrb34⟩
        exact CfgA.to (IH (none,some rb34) trivial (lt4 kr)) kr kr (.refl _) (Conv.mk kr)
      ·
       refine CfgA.to (l' := (bF 959 12)) (fuel' := 3) (O' := ([(rb34,.cells #[.int .u32 ((m.es.getD i ez).2.1 : Int)] 73 (0,0)),(rb23,.cells #[.int .u32 ((m.es.getD i ez).2.2 : Int)] 73 (0,0)),(eb,.cells #[.int .u32 ((m.es.getD i ez).1 : Int),.int .u32 ((m.es.getD i ez).2.1 : Int),.int .u32 ((m.es.getD i ez).2.2 : Int)] 76 (0,0)),(mb,.map y.1 y.2),(gb,.cells ((gc m).toArray) 25 (0,0))] ++ (memN b1 oA cA ++ (Own.o 73 ((cA (m.es.getD i ez).2.2).flatMap u32c) ((oA (m.es.getD i ez).2.2)) ++ (memN b2 oA cA ++ []))))) (Γ' := [(34,[],.slice (some ⟨rb34,0,none⟩) 1 1),(33,[],.int .u32 ((m.es.getD i ez).2.1 : Int)),(30,[],.int .u32 ((m.es.getD i ez).2.2 : Int)),(28,[],.map (some mb)),(27,[],.int .u32 ((m.es.getD i ez).2.2 : Int)),(25,[],.map (some mb)),(10,[],iN i),(9,[],iN m.es.length),(8,[],.slice (some ⟨sb1,offb1,none⟩) m.es.length m.ec),(3,[],.map (some mb))]) ?_ kr kr (List.Perm.refl _) (Conv.mk kr)
       refine CfgA.many [6] kr (by decide) (fuel' := 2) kr ⟨?_,trivial⟩
       ·
        refine Iu rfl  (Eff.reV (Eff.wGet (ok := false) (z := .slice none 0 0) (r := mb) (k := ((m.es.getD i ez).2.2 : Int)) (es := y.1) (ck := y.2) rfl Tryz.underlying115 Tryz.underlying73 kr kr kr hy (fun w1 h => h.own (mb,_) (mG 3 rfl))) (fun _ => hyn.get ((m.es.getD i ez).2.2) hB)) (fun _ _ => (.cons _ (.cons_cons _ (.cons_cons _ (.cons _ (.cons_cons _ (List.nil_sublist _))))))) ?_
        exact CfgA.to (IH (some (),some rb34) trivial (lt4 kr)) kr kr (.refl _) (Conv.mk kr)
     ·
      rcases oo9 with _ | rb34
      ·
       refine CfgA.to (l' := tF 9 3) (fuel' := 3) (O' := ([(rb23,.cells #[.int .u32 ((m.es.getD i ez).2.2 : Int)] 73 (0,0)),(eb,.cells #[.int .u32 ((m.es.getD i ez).1 : Int),.int .u32 ((m.es.getD i ez).2.1 : Int),.int .u32 ((m.es.getD i ez).2.2 : Int)] 76 (0,0)),(mb,.map y.1 y.2),(gb,.cells ((gc m).toArray) 25 (0,0))] ++ (memN b1 oA cA ++ (Own.o 73 ((cA (m.es.getD i ez).2.2).flatMap u32c) ((oA (m.es.getD i ez).2.2)) ++ (memN b2 oA cA ++ []))))) (Γ' := [(31,[],.slice (Own.a ((oA (m.es.getD i ez).2.2))) ((cA (m.es.getD i ez).2.2).length) (Own.c ((oA (m.es.getD i ez).2.2)))),(33,[],.int .u32 ((m.es.getD i ez).2.1 : Int)),(30,[],.int .u32 ((m.es.getD i ez).2.2 : Int)),(28,[],.map (some mb)),(27,[],.int .u32 ((m.es.getD i ez).2.2 : Int)),(25,[],.map (some mb)),(10,[],iN i),(9,[],iN m.es.length),(8,[],.slice (some ⟨sb1,offb1,none⟩) m.es.length m.ec),(3,[],.map (some mb))]) ?_ kr kr (List.Perm.refl _) (Conv.mk kr)
       refine CfgA.many [9] kr (by decide) (fuel' := 2) kr ⟨?_,trivial⟩
       ·
        refine Ie rfl  (Eff.buildSlice (e := 73) (cells := #[.int .u32 ((m.es.getD i ez).2.1 : Int)]) (parts := #[(0,.int .u32 ((m.es.getD i ez).2.1 : Int))]) rfl kr (fun _ => kr)) (fun _ _ => (.cons _ (.cons_cons _ (.cons_cons _ (.cons _ (.cons_cons _ (List.nil_sublist _))))))) ?_
        rintro rb34 ⟨hrb34,nrb34⟩
        exact CfgA.to (IH (some (),some rb34) trivial (lt4 kr)) kr kr (.refl _) (Conv.mk kr)
      ·
       refine CfgA.to (l' := tF 10 2) (fuel' := 2) (O' := ([(rb34,.cells #[.int .u32 ((m.es.getD i ez).2.1 : Int)] 73 (0,0)),(rb23,.cells #[.int .u32 ((m.es.getD i ez).2.2 : Int)] 73 (0,0)),(eb,.cells #[.int .u32 ((m.es.getD i ez).1 : Int),.int .u32 ((m.es.getD i ez).2.1 : Int),.int .u32 ((m.es.getD i ez).2.2 : Int)] 76 (0,0)),(mb,.map y.1 y.2),(gb,.cells ((gc m).toArray) 25 (0,0))] ++ (memN b1 oA cA ++ (Own.o 73 ((cA (m.es.getD i ez).2.2).flatMap u32c) ((oA (m.es.getD i ez).2.2)) ++ (memN b2 oA cA ++ []))))) (Γ' := [(31,[],.slice (Own.a ((oA (m.es.getD i ez).2.2))) ((cA (m.es.getD i ez).2.2).length) (Own.c ((oA (m.es.getD i ez).2.2)))),(34,[],.slice (some ⟨rb34,0,none⟩) 1 1),(33,[],.int .u32 ((m.es.getD i ez).2.1 : Int)),(30,[],.int .u32 ((m.es.getD i ez).2.2 : Int)),(28,[],.map (some mb)),(27,[],.int .u32 ((m.es.getD i ez).2.2 : Int)),(25,[],.map (some mb)),(10,[],iN i),(9,[],iN m.es.length),(8,[],.slice (some ⟨sb1,offb1,none⟩) m.es.length m.ec),(3,[],.map (some mb))]) ?_ kr kr (List.Perm.refl _) (Conv.mk kr)
       refine Ae 10 rfl 1  (Eff.appendF rfl 1 4 Tryz.underlying22 kr (z := (.int .u32 0)) kr kr ((oA (m.es.getD i ez).2.2)) (xs := ((cA (m.es.getD i ez).2.2).flatMap u32c)) (hyn.ok _ hB) kr (b2 := rb34) (off2 := 0) (m := 1) (c2 := 1) kr ([.int .u32 ((m.es.getD i ez).2.1 : Int)]) rfl (by intro q hq; rw [List.mem_singleton.1 hq]; rfl) ([(rb34,.cells #[.int .u32 ((m.es.getD i ez).2.1 : Int)] 73 (0,0)),(rb23,.cells #[.int .u32 ((m.es.getD i ez).2.2 : Int)] 73 (0,0)),(eb,.cells #[.int .u32 ((m.es.getD i ez).1 : Int),.int .u32 ((m.es.getD i ez).2.1 : Int),.int .u32 ((m.es.getD i ez).2.2 : Int)] 76 (0,0)),(mb,.map y.1 y.2),(gb,.cells ((gc m).toArray) 25 (0,0))] ++ memN b1 oA cA) (memN b2 oA cA ++ []) (by rfl) (fun w1 h j v hj => by rw [Nat.zero_add]; exact h.ocell 0 rfl (by rw [List.getElem?_toArray]; exact hj)) (by have := hyn.len (m.es.getD i ez).2.2; omega) (by have := hyn.len (m.es.getD i ez).2.2; omega)) (fun _ _ => (.cons _ (.cons_cons _ (.cons_cons _ (.cons _ (.cons_cons _ (List.nil_sublist _))))))) ?_
       rintro o2 ko2
       refine Ae 11 rfl 0  (Eff.wSet (r := mb) (k := ((m.es.getD i ez).2.2 : Int)) (u := .slice (Own.a o2) (((cA (m.es.getD i ez).2.2).length + 1)) (Own.c o2)) (es := y.1) (ck := y.2) rfl Tryz.underlying115 Tryz.underlying73 kr kr kr hy 3 kr) (fun _ _ => (.cons _ (.cons_cons _ (.cons_cons _ (.cons _ (.cons_cons _ (List.nil_sublist _))))))) ?_
       rintro z hz
       refine CfgA.done kr ?_
       refine Cg (Γ' := [(10,[],iN i),(9,[],iN m.es.length),(8,[],.slice (some ⟨sb1,offb1,none⟩) m.es.length m.ec),(3,[],.map (some mb))]) ?_
       refine Rg [3,8,9,10] [] (fun _ => [(i6 ((i : Int) + 1))]) ⟨om,trivial⟩ ?_
       obtain ⟨oB,hoB⟩ : ∃ f,f = updF oA ((m.es.getD i ez).2.2) o2 := ⟨_,rfl⟩
       obtain ⟨cB,hcB⟩ : ∃ f,f = updF cA ((m.es.getD i ez).2.2) (cA ((m.es.getD i ez).2.2) ++ [(m.es.getD i ez).2.1]) := ⟨_,rfl⟩
       obtain ⟨WB,hWB⟩ : ∃ f,f = mset WA ((m.es.getD i ez).2.2 : Int) (.slice (Own.a o2) ((cA ((m.es.getD i ez).2.2)).length + 1) (Own.c o2)) := ⟨_,rfl⟩
       have hzn := hyn.set ko2
       rw [← hoB,← hcB,← hWB] at hzn
       rw [← hWB] at hz
       have emz : memN m.vs oB cB = memN b1 oA cA ++ (Own.o 73 ((cA ((m.es.getD i ez).2.2)).flatMap u32c ++ [.int .u32 ((m.es.getD i ez).2.1 : Int)]) o2 ++ memN b2 oA cA) := by
        rw [hoB,hcB,hvb,memN_app,memN_upd nb1,memN_upd nb2,updF_at,updF_at,List.flatMap_append]; rfl
       refine Cfg.setO (O' := ([(rb34,.cells #[.int .u32 ((m.es.getD i ez).2.1 : Int)] 73 (0,0)),(rb23,.cells #[.int .u32 ((m.es.getD i ez).2.2 : Int)] 73 (0,0)),(eb,.cells #[.int .u32 ((m.es.getD i ez).1 : Int),.int .u32 ((m.es.getD i ez).2.1 : Int),.int .u32 ((m.es.getD i ez).2.2 : Int)] 76 (0,0)),(mb,.map z.1 z.2),(gb,.cells ((gc m).toArray) 25 (0,0))] ++ (memN m.vs oB cB ++ []))) (by rw [emz]; simp only [List.append_assoc,List.append_nil,List.cons_append,List.nil_append,List.append,List.set_cons_succ,List.set_cons_zero]) ?_
       refine Cfg.setS 8 (show .slice (some ⟨sb1,offb1,none⟩) m.es.length m.ec = .slice m.ea m.es.length m.ec from congrArg (fun z => Value.slice z m.es.length m.ec) hvb1.symm) ?_
       refine Cfg.again rfl (i + 1,z,WB,oB,cB) ⟨by omega,hz,hzn,near_upd om hc hcA hcB⟩ (by show m.es.length - (i + 1) < m.es.length - i; omega) (Conv.mk kr) (.cons _ (.cons _ (.cons _ slr)))
  ·have c1 := (dF c1r)
   refine Rq [2] ?_
   refine Cfg.ret rfl (rs := [.tmp 2]) rfl [.map (some mb)] ⟨kr,trivial⟩ (fun w1 hp => ?_)
   have hce : c = nearF m.es := funext fun v => by rw [hc,show i = m.es.length by omega,List.take_length]
   subst hce
   have h9 : HP w [] Rl ((mb,Obj.map x.1 x.2) :: memN m.vs o (nearF m.es)) w1 := hp.sub (.cons_cons _ (.cons _ (by rw [List.append_nil]; exact List.Sublist.refl _)))
   exact ⟨⟨mb,x,W,o⟩,⟨hx,hxn.get,hxn.ok,fun v => by have := hxn.len v; omega⟩,rfl,_,h9⟩
end Go.Proofs.YtbeeelgfhfmgbaaGreatDoor
namespace Go.Proofs.YtbeeelgfhfmgbaaGreatDoor
namespace K
section
variable {C : Cx} {R O : List (Nat × Obj)} {Γ : Env} {o : Oper}
theorem Eff.reO {ι : Type} {V : ι → Value} {A A2 : ι → List (Nat × Obj)} {F : ι → Prop} (h : Eff C R O Γ o ι V A F) (e : ∀ x,A x = A2 x) : Eff C R O Γ o ι V A2 F := by
 have : A = A2 := funext e
 subst this
 exact h
end
end K
end Go.Proofs.YtbeeelgfhfmgbaaGreatDoor
namespace Go.Proofs.YtbeeelgfhfmgbaaGreatDoor
open K
set_option linter.unusedVariables false
theorem gV_rise : ∀ {l : List Nat} {a : Nat} {f : Bool},gV l a f = 0 → (f = false → ∀ v ∈ l,a < v) ∧ l.Nodup
 | [],_,_,_ => ⟨(fun _ v hv => by cases hv),List.nodup_nil⟩
 | v :: l,a,f,h => by
  rw [gV] at h
  split at h
  ·rename_i h0; exact absurd h h0
  ·rename_i h0
   have h0 : numE v a f = 0 := Decidable.not_not.1 h0
   obtain ⟨h1,h2⟩ := gV_rise h
   have h3 := h1 rfl
   refine ⟨fun hf x hx => ?_,List.nodup_cons.2 ⟨fun h9 => Nat.lt_irrefl _ (h3 v h9),h2⟩⟩
   subst hf
   have h4 : a < v := by
    unfold numE at h0
    split at h0
    ·exact absurd h0 (by decide)
    ·split at h0
     ·exact absurd h0 (by decide)
     ·rename_i _ h5; exact Nat.lt_of_not_le (fun h6 => h5 ⟨rfl,h6⟩)
   rcases List.mem_cons.1 hx with rfl | hx
   ·exact h4
   ·exact Nat.lt_trans h4 (h3 x hx)
theorem graphF_nd {vs : List Nat} {es : List Ed} (h : graphF vs es = 0) : vs.Nodup := by
 unfold graphF at h
 split at h
 ·exact absurd h (by decide)
 ·split at h
  ·rename_i h1; exact absurd h h1
  ·rename_i h1; exact (gV_rise (Decidable.not_not.1 h1)).2
theorem aloneL_go {es : List Ed} {vs : List Nat} {i n : Nat} (h : i < vs.length) : aloneL es (vs.drop i) n = aloneL es (vs.drop (i + 1)) (if (nearF es (vs.getD i 0)).length = 0 then n + 1 else n) := by
 rw [drop_at 0 h,aloneL]
theorem partsL_in {es : List Ed} {U vs : List Nat} {s : List Nat} {i n : Nat} (h : i < vs.length) (h2 : vs.getD i 0 ∈ s) : partsL es U (vs.drop i) s n = partsL es U (vs.drop (i + 1)) s n := by
 rw [drop_at 0 h,partsL,if_pos h2]
theorem partsL_go {es : List Ed} {U vs : List Nat} {s : List Nat} {i n : Nat} (h : i < vs.length) (h2 : vs.getD i 0 ∉ s) : partsL es U (vs.drop i) s n = partsL es U (vs.drop (i + 1)) (bfs es U 0 [vs.getD i 0] (s ++ [vs.getD i 0])).2 (n + 1) := by
 rw [drop_at 0 h,partsL,if_neg h2]
def Seen (W : List (Int × Value)) (s : List Nat) : Prop := ∀ v : Nat,(mget W (v : Int)).getD (.int .i64 0) = .int .i64 (if v ∈ s then 1 else 0)
theorem Seen.zero : Seen [] [] := fun v => rfl
theorem Seen.set {W : List (Int × Value)} {s : List Nat} (h : Seen W s) (u : Nat) : Seen (mset W (u : Int) (.int .i64 1)) (s ++ [u]) := fun v => by
 rw [mget_set]
 by_cases hvu : v = u
 ·rw [if_pos om,if_pos (by rw [hvu]; exact mR mH)]; rfl
 ·rw [if_neg om,h v]
  have : v ∈ s ++ [u] ↔ v ∈ s := by rw [List.mem_append,List.mem_singleton]; exact ⟨fun h => h.resolve_right hvu,.inl⟩
  simp only [this]
theorem memN_inf {vs : List Nat} {W : List (Int × Value)} {o : Nat → K.Own} {c : Nat → List Nat} {b : Nat} (h : NbOk vs W o c b) {u : Nat} (hu : u ∈ vs) : InF u32c 1 (memN vs o c) (Own.a (o u)) (c u) :=
 (own_inf (h.ok u hu)).mono (fun e he => by unfold memN; exact List.mem_flatMap.2 ⟨u,hu,he⟩)
theorem ite01 {p : Prop} [Decidable p] (h : ¬ (if p then (1 : Int) else 0) = 0) : p := by
 by_cases hp : p
 ·exact hp
 ·rw [if_neg hp] at h; exact absurd rfl h
theorem ite10 {p : Prop} [Decidable p] (h : (if p then (1 : Int) else 0) = 0) : ¬ p := by
 intro hp
 rw [if_pos hp] at h; exact absurd h (by decide)
theorem addW_go {l p s : List Nat} {j : Nat} (h : j < l.length) : addW (l.drop j) p s = if l.getD j 0 ∈ s then addW (l.drop (j + 1)) p s else addW (l.drop (j + 1)) (p ++ [l.getD j 0]) (s ++ [l.getD j 0]) := by
 rw [drop_at 0 h,addW]
set_option maxRecDepth 100000 in
set_option maxHeartbeats 8000000 in
theorem gAlone (m : MM) (Rl : List (Nat × Obj)) (w : World) (hM : InM Rl m) (hR : Has w Rl) (hg : GrOk m.vs m.es) (hnd : m.vs.Nodup) :
  Calls Tryz.prog 82 #[.agg (gc m).toArray] w fun e w' => e = .returned (.int .i64 (aloneF m.vs m.es : Nat)) ∧ Ext [] w w' := by
 have hgv := hg.v
 refine enter [] Rl [] Tryz.func82 rfl kr (HP.ofHas hR) ?_
 refine Cfg.begL rfl ?_
 refine Le (Eff.box (v := .agg (gc m).toArray) rfl kr) ?_
 rintro gb ⟨hgb,ngb⟩
 refine Ld 1 [1] ?_
 refine Rq [1,3] ?_
 refine Cfg.begL rfl ?_
 refine Lp 1 [(dS (.agg (gc m).toArray))] none (fun S => [(∀ w1,S w1 → (loadVar 25 ⟨gb,0,none⟩).run Tryz.prog w1 = .ok (.agg (gc m).toArray) w1)]) ⟨(fun w1 h => load_list Tryz.underlying25 rfl kr rfl (fun j v hj => h.ocell 0 rfl (by rw [List.getElem?_toArray]; exact (fun j v hj => by rw [Nat.zero_add]; exact hj) j v hj))),trivial⟩ ?_
 refine Le (Eff.callH (fun q : NQ => .map (some q.mb)) [] (fun q => q.mem m.vs m.es) (fun q => q.Ok m.vs m.es) ([(gb,.cells ((gc m).toArray) 25 (0,0))]) ([]) rfl rfl Tryz.func93 rfl rfl kr (fun w1 h _ _ => gNear m Rl w1 hM (h.hasR (fun e he => he)) hg hnd)) ?_
 rintro ⟨mb,q1,W,o⟩ ⟨hq1,hqn⟩
 refine Ld 1 [1,3,4] ?_
 refine Rg [3,4,10,11,12] [dZ,(dS (.slice m.va m.vs.length m.vc))] (fun S => [(cE S gb 0 (.slice m.va m.vs.length m.vc))]) ⟨(fun w1 h => h.ocell 0 rfl (by rw [List.getElem?_toArray]; exact rfl)),trivial⟩ ?_
 refine Cfg.loop rfl (ι := Nat × Nat) (fun (xz : Nat × Nat) => match xz with | (i,n) => [(12,[],iN i),(11,[],iN m.vs.length),(10,[],.slice m.va m.vs.length m.vc),(4,[],.map (some mb)),(3,[],iN n)]) (fun (xz : Nat × Nat) => match xz with | (i,n) => ([(gb,.cells ((gc m).toArray) 25 (0,0)),(mb,.map q1.1 q1.2)] ++ (memN m.vs o (nearF m.es) ++ []))) (fun (xz : Nat × Nat) => match xz with | (i,n) => (i ≤ m.vs.length) ∧ (n ≤ i) ∧ (aloneL m.es (m.vs.drop i) n = aloneF m.vs m.es)) (fun (xz : Nat × Nat) => match xz with | (i,n) => m.vs.length - i) (0,0) ?_ (Conv.mk kr) slr ?_
 ·exact ⟨Nat.zero_le _,Nat.le_refl _,rfl⟩
 ·rintro ⟨i,n⟩ ⟨hi,hn,hra⟩
  refine Rq [3,4,10,11,12,13] ?_
  refine Cfg.cond rfl (b := (decide ((i : Int) < (m.vs.length : Int)))) kr (fun c1r => ?_) (fun c1r => ?_)
  ·have c1 := (dT c1r)
   obtain ⟨sa1,offa1,csa1,tea1,frea1,hva1,hma1,hca1⟩ := hM.v om
   refine Cg (Γ' := [(13,[],.bool (decide ((i : Int) < (m.vs.length : Int)))),(12,[],iN i),(11,[],iN m.vs.length),(10,[],.slice m.va m.vs.length m.vc),(4,[],.map (some mb)),(3,[],iN n)]) ?_
   refine Cfg.setG (Γ' := [(13,[],.bool (decide ((i : Int) < (m.vs.length : Int)))),(12,[],iN i),(11,[],iN m.vs.length),(10,[],.slice (some ⟨sa1,offa1,none⟩) m.vs.length m.vc),(4,[],.map (some mb)),(3,[],iN n)]) (congrArg (fun (xq : Option Addr) => ([(13,[],.bool (decide ((i : Int) < (m.vs.length : Int)))),(12,[],iN i),(11,[],iN m.vs.length),(10,[],.slice xq m.vs.length m.vc),(4,[],.map (some mb)),(3,[],iN n)] : Env)) hva1) ?_
   refine Rg [3,4,6,10,11,12] [dZ,(dS (uN (m.vs.getD i 0)))] (fun S => [(0 ≤ (i : Int) ∧ (i : Int) < (m.vs.length : Int)),(cE S sa1 (addO offa1 i) (uN (m.vs.getD i 0)))]) ⟨om,(fun w1 h => by rw [addO_eq]; exact (cell_cells (h.ro _ hma1)).trans (fl_one (g := fun n : Nat => uN n) 0 hca1 om)),trivial⟩ ?_
   refine Cfg.begL rfl ?_
   refine Lq 2 [3,4,10,11,12,16,17] ?_
   refine Lu (Eff.reV (Eff.wGet (ok := false) (z := .slice none 0 0) (r := mb) (k := (m.vs.getD i 0 : Int)) (es := q1.1) (ck := q1.2) rfl Tryz.underlying115 Tryz.underlying73 kr kr kr hq1 (fun w1 h => h.own (mb,_) (mG 1 rfl))) (fun _ => hqn.get (m.vs.getD i 0) (K.getD_mem om))) ?_
   refine Ld 2 [3,4,10,11,12,20] ?_
   refine Cfg.cond rfl (b := (((nearF m.es (m.vs.getD i 0)).length : Int) == (0 : Int))) kr (fun c2r => ?_) (fun c2r => ?_)
   ·have c2 := (beq_iff_eq.1 c2r)
    refine Rg [3,4,10,11,12] [] (fun _ => [(i6 ((n : Int) + 1))]) ⟨om,trivial⟩ ?_
    refine Rg [3,4,10,11,12] [] (fun _ => [(i6 ((i : Int) + 1))]) ⟨om,trivial⟩ ?_
    have hgo := aloneL_go (es := m.es) (vs := m.vs) (i := i) (n := n) om
    rw [if_pos om] at hgo
    refine Cfg.setS 10 (show .slice (some ⟨sa1,offa1,none⟩) m.vs.length m.vc = .slice m.va m.vs.length m.vc from congrArg (fun z => Value.slice z m.vs.length m.vc) hva1.symm) ?_
    refine Cfg.again rfl (i + 1,n + 1) ⟨by omega,by omega,hgo.symm.trans hra⟩ (by show m.vs.length - (i + 1) < m.vs.length - i; omega) (Conv.mk kr) slr
   ·have c2 := (beq_eq_false_iff_ne.1 c2r)
    refine Rg [3,4,10,11,12] [] (fun _ => [(i6 ((i : Int) + 1))]) ⟨om,trivial⟩ ?_
    have hgo := aloneL_go (es := m.es) (vs := m.vs) (i := i) (n := n) om
    rw [if_neg om] at hgo
    refine Cfg.setS 10 (show .slice (some ⟨sa1,offa1,none⟩) m.vs.length m.vc = .slice m.va m.vs.length m.vc from congrArg (fun z => Value.slice z m.vs.length m.vc) hva1.symm) ?_
    refine Cfg.again rfl (i + 1,n) ⟨by omega,by omega,hgo.symm.trans hra⟩ (by show m.vs.length - (i + 1) < m.vs.length - i; omega) (Conv.mk kr) slr
  ·have c1 := (dF c1r)
   refine Rq [2] ?_
   refine Cfg.ret rfl (rs := [.tmp 2]) rfl [iN n] ⟨kr,trivial⟩ (fun w1 hp => ?_)
   have hfin : aloneF m.vs m.es = n := by rw [← hra,List.drop_eq_nil_of_le om]; rfl
   rw [hfin]
   exact ⟨rfl,hp.ext⟩
set_option maxRecDepth 100000 in
set_option maxHeartbeats 8000000 in
theorem gParts (m : MM) (Rl : List (Nat × Obj)) (w : World) (hM : InM Rl m) (hR : Has w Rl) (hg : GrOk m.vs m.es) (hnd : m.vs.Nodup) :
  Calls Tryz.prog 81 #[.agg (gc m).toArray] w fun e w' => ∃ q : Option Addr × Nat,True ∧ e = .returned (.slice q.1 (partsF m.vs m.es) q.2) ∧ ∃ R1,HP w [] R1 [] w' := by
 have hgv := hg.v
 have hge := hg.e
 refine enter [] Rl [] Tryz.func81 rfl kr (HP.ofHas hR) ?_
 refine Cfg.begL rfl ?_
 refine Le (Eff.box (v := .agg (gc m).toArray) rfl kr) ?_
 rintro gb ⟨hgb,ngb⟩
 refine Ld 1 [1] ?_
 refine Rq [1,3] ?_
 refine Cfg.begL rfl ?_
 refine Lp 1 [(dS (.agg (gc m).toArray))] none (fun S => [(∀ w1,S w1 → (loadVar 25 ⟨gb,0,none⟩).run Tryz.prog w1 = .ok (.agg (gc m).toArray) w1)]) ⟨(fun w1 h => load_list Tryz.underlying25 rfl kr rfl (fun j v hj => h.ocell 0 rfl (by rw [List.getElem?_toArray]; exact (fun j v hj => by rw [Nat.zero_add]; exact hj) j v hj))),trivial⟩ ?_
 refine Le (Eff.callH (fun q : NQ => .map (some q.mb)) [] (fun q => q.mem m.vs m.es) (fun q => q.Ok m.vs m.es) ([(gb,.cells ((gc m).toArray) 25 (0,0))]) ([]) rfl rfl Tryz.func93 rfl rfl kr (fun w1 h _ _ => gNear m Rl w1 hM (h.hasR (fun e he => he)) hg hnd)) ?_
 rintro ⟨mb,q1,W,o⟩ ⟨hq1,hqn⟩
 refine Ld 1 [1,3,4] ?_
 refine Cfg.begL rfl ?_
 refine Le (Eff.mapNew rfl) ?_
 rintro sm ⟨hsm,nsm⟩
 refine Ld 1 [1,3,4,5] ?_
 refine Rg [3,4,5,16,17,18] [dZ,(dS (.slice m.va m.vs.length m.vc))] (fun S => [(cE S gb 0 (.slice m.va m.vs.length m.vc))]) ⟨(fun w1 h => h.ocell 1 rfl (by rw [List.getElem?_toArray]; exact rfl)),trivial⟩ ?_
 refine Cfg.loop rfl (ι := Nat × MX × List (Int × Value) × List Nat × Nat × K.Own × List Value) (fun (xz : Nat × MX × List (Int × Value) × List Nat × Nat × K.Own × List Value) => match xz with | (i,y,Wy,s,n,pp,cs) => [(18,[],iN i),(17,[],iN m.vs.length),(16,[],.slice m.va m.vs.length m.vc),(5,[],.map (some sm)),(4,[],.map (some mb)),(3,[],.slice (Own.a pp) n (Own.c pp))]) (fun (xz : Nat × MX × List (Int × Value) × List Nat × Nat × K.Own × List Value) => match xz with | (i,y,Wy,s,n,pp,cs) => ([(sm,.map y.1 y.2),(gb,.cells ((gc m).toArray) 25 (0,0)),(mb,.map q1.1 q1.2)] ++ (memN m.vs o (nearF m.es) ++ (Own.o 22 cs pp ++ [])))) (fun (xz : Nat × MX × List (Int × Value) × List Nat × Nat × K.Own × List Value) => match xz with | (i,y,Wy,s,n,pp,cs) => (i ≤ m.vs.length) ∧ (n ≤ i) ∧ (WMapOk y.1 y.2 Wy) ∧ (Seen Wy s) ∧ (cs.length = n) ∧ (OwnOk pp 1 n cs) ∧ (partsL m.es m.vs (m.vs.drop i) s n = partsF m.vs m.es)) (fun (xz : Nat × MX × List (Int × Value) × List Nat × Nat × K.Own × List Value) => match xz with | (i,y,Wy,s,n,pp,cs) => m.vs.length - i) (0,(#[],0),[],[],0,none,[]) ?_ (Conv.mk kr) slr ?_
 ·exact ⟨Nat.zero_le _,Nat.le_refl _,WMapOk.empty _,Seen.zero,rfl,OwnOk.none _,rfl⟩
 ·rintro ⟨i,y,Wy,s,n,pp,cs⟩ ⟨hi,hn,hy,hys,hcl,hpp,hra⟩
  refine Rq [3,4,5,16,17,18,19] ?_
  refine Cfg.cond rfl (b := (decide ((i : Int) < (m.vs.length : Int)))) kr (fun c1r => ?_) (fun c1r => ?_)
  ·have c1 := (dT c1r)
   obtain ⟨sa1,offa1,csa1,tea1,frea1,hva1,hma1,hca1⟩ := hM.v om
   refine Cg (Γ' := [(19,[],.bool (decide ((i : Int) < (m.vs.length : Int)))),(18,[],iN i),(17,[],iN m.vs.length),(16,[],.slice m.va m.vs.length m.vc),(5,[],.map (some sm)),(4,[],.map (some mb)),(3,[],.slice (Own.a pp) n (Own.c pp))]) ?_
   refine Cfg.setG (Γ' := [(19,[],.bool (decide ((i : Int) < (m.vs.length : Int)))),(18,[],iN i),(17,[],iN m.vs.length),(16,[],.slice (some ⟨sa1,offa1,none⟩) m.vs.length m.vc),(5,[],.map (some sm)),(4,[],.map (some mb)),(3,[],.slice (Own.a pp) n (Own.c pp))]) (congrArg (fun (xq : Option Addr) => ([(19,[],.bool (decide ((i : Int) < (m.vs.length : Int)))),(18,[],iN i),(17,[],iN m.vs.length),(16,[],.slice xq m.vs.length m.vc),(5,[],.map (some sm)),(4,[],.map (some mb)),(3,[],.slice (Own.a pp) n (Own.c pp))] : Env)) hva1) ?_
   refine Rg [3,4,5,7,16,17,18] [dZ,(dS (uN (m.vs.getD i 0)))] (fun S => [(0 ≤ (i : Int) ∧ (i : Int) < (m.vs.length : Int)),(cE S sa1 (addO offa1 i) (uN (m.vs.getD i 0)))]) ⟨om,(fun w1 h => by rw [addO_eq]; exact (cell_cells (h.ro _ hma1)).trans (fl_one (g := fun n : Nat => uN n) 0 hca1 om)),trivial⟩ ?_
   refine Cfg.begL rfl ?_
   refine Lp 2 [] none n0 trivial ?_
   refine Lu (Eff.reV (Eff.wGet (ok := false) (z := .int .i64 0) (r := sm) (k := (m.vs.getD i 0 : Int)) (es := y.1) (ck := y.2) rfl Tryz.underlying130 Tryz.underlying73 kr kr kr hy (fun w1 h => h.own (sm,_) (mG 0 rfl))) (fun _ => hys (m.vs.getD i 0))) ?_
   refine Ld 1 [3,4,5,7,16,17,18,25] ?_
   refine Cfg.cond rfl (b := ((if m.vs.getD i 0 ∈ s then (1 : Int) else 0) != (0 : Int))) kr (fun c2r => ?_) (fun c2r => ?_)
   ·have c2 := (bne_iff_ne.1 c2r)
    refine Rg [3,4,5,16,17,18] [] (fun _ => [(i6 ((i : Int) + 1))]) ⟨om,trivial⟩ ?_
    have hgo := partsL_in (es := m.es) (U := m.vs) (vs := m.vs) (s := s) (i := i) (n := n) om (ite01 om)
    refine Cfg.setS 16 (show .slice (some ⟨sa1,offa1,none⟩) m.vs.length m.vc = .slice m.va m.vs.length m.vc from congrArg (fun z => Value.slice z m.vs.length m.vc) hva1.symm) ?_
    refine Cfg.again rfl (i + 1,y,Wy,s,n,pp,cs) ⟨by omega,by omega,hy,hys,hcl,hpp,hgo.symm.trans hra⟩ (by show m.vs.length - (i + 1) < m.vs.length - i; omega) (Conv.mk kr) slr
   ·have c2 := (bne_eq_false_iff_eq.1 c2r)
    refine Cfg.begL rfl ?_
    refine Lq 2 [3,4,5,7,16,17,18,26,27] ?_
    refine Le (Eff.wSet (r := sm) (k := (m.vs.getD i 0 : Int)) (u := .int .i64 1) (es := y.1) (ck := y.2) rfl Tryz.underlying130 Tryz.underlying73 kr kr kr hy 0 kr) ?_
    rintro ya hya
    have hyas := hys.set (m.vs.getD i 0)
    refine CfgL.done rfl ?_
    refine Cg (Γ' := [(7,[],uN (m.vs.getD i 0)),(18,[],iN i),(17,[],iN m.vs.length),(16,[],.slice (some ⟨sa1,offa1,none⟩) m.vs.length m.vc),(5,[],.map (some sm)),(4,[],.map (some mb)),(3,[],.slice (Own.a pp) n (Own.c pp))]) ?_
    refine Cfg.begL rfl ?_
    refine Lq 1 [3,4,5,16,17,18,28] ?_
    refine Le (Eff.buildSlice (e := 73) (cells := #[uN (m.vs.getD i 0)]) (parts := #[(0,uN (m.vs.getD i 0))]) rfl kr (fun _ => kr)) ?_
    rintro rb29 ⟨hrb29,nrb29⟩
    refine Ld 1 [3,4,5,8,16,17,18] ?_
    refine Rq [3,4,5,8,9,16,17,18] ?_
    refine Cfg.permO (O' := ([(sm,.map ya.1 ya.2),(gb,.cells ((gc m).toArray) 25 (0,0)),(mb,.map q1.1 q1.2)] ++ (Own.o 73 ([(m.vs.getD i 0)].flatMap u32c) ((some (rb29,1,[]))) ++ (memN m.vs o (nearF m.es) ++ (Own.o 22 cs pp ++ []))))) (by exact (List.perm_middle (l₁ := [(sm,Obj.map ya.1 ya.2),(gb,Obj.cells ((gc m).toArray) 25 (0,0)),(mb,Obj.map q1.1 q1.2)])).symm) ?_
    have hli : [(m.vs.getD i 0)].length + left m.vs (s ++ [(m.vs.getD i 0)]) ≤ 65 := by have h8 := left_le m.vs s (m.vs.getD i 0); have h9 : left m.vs s ≤ m.vs.length := List.length_filter_le _ _; show 1 + _ ≤ 65; omega
    refine Cfg.setS 16 (show .slice (some ⟨sa1,offa1,none⟩) m.vs.length m.vc = .slice m.va m.vs.length m.vc from congrArg (fun z => Value.slice z m.vs.length m.vc) hva1.symm) ?_
    refine Cfg.loop rfl (ι := Nat × K.Own × List Nat × MX × List (Int × Value) × List Nat) (fun (xz : Nat × K.Own × List Nat × MX × List (Int × Value) × List Nat) => match xz with | (k,po,p,yk,Wk,s2) => [(9,[],iN k),(8,[],.slice (Own.a po) p.length (Own.c po)),(18,[],iN i),(17,[],iN m.vs.length),(16,[],.slice m.va m.vs.length m.vc),(5,[],.map (some sm)),(4,[],.map (some mb)),(3,[],.slice (Own.a pp) n (Own.c pp))]) (fun (xz : Nat × K.Own × List Nat × MX × List (Int × Value) × List Nat) => match xz with | (k,po,p,yk,Wk,s2) => ([(sm,.map yk.1 yk.2),(gb,.cells ((gc m).toArray) 25 (0,0)),(mb,.map q1.1 q1.2)] ++ (Own.o 73 (p.flatMap u32c) po ++ (memN m.vs o (nearF m.es) ++ (Own.o 22 cs pp ++ []))))) (fun (xz : Nat × K.Own × List Nat × MX × List (Int × Value) × List Nat) => match xz with | (k,po,p,yk,Wk,s2) => (k ≤ p.length) ∧ (OwnOk po 1 p.length (p.flatMap u32c)) ∧ (WMapOk yk.1 yk.2 Wk) ∧ (Seen Wk s2) ∧ (bfs m.es m.vs k p s2 = bfs m.es m.vs 0 [(m.vs.getD i 0)] (s ++ [(m.vs.getD i 0)])) ∧ (p.length + left m.vs s2 ≤ 65) ∧ (∀ x ∈ p,x ∈ m.vs)) (fun (xz : Nat × K.Own × List Nat × MX × List (Int × Value) × List Nat) => match xz with | (k,po,p,yk,Wk,s2) => p.length - k + left m.vs s2) (0,some (rb29,1,[]),[(m.vs.getD i 0)],ya,(mset Wy (m.vs.getD i 0 : Int) (.int .i64 1)),(s ++ [m.vs.getD i 0])) ?_ (Conv.mk kr) (.cons_cons _ (.cons_cons _ (.cons_cons _ (List.Sublist.trans (List.Sublist.append slr (List.Sublist.append slr slr)) (List.sublist_append_right _ _))))) ?_
    ·exact ⟨Nat.zero_le _,⟨rfl,(fun h9 => by cases h9),(fun q hq => by cases hq; exact ⟨rfl,Nat.le_refl _⟩)⟩,hya,hyas,rfl,hli,(fun x hx => by rw [List.mem_singleton.1 hx]; exact K.getD_mem om)⟩
    ·rintro ⟨k,po,p,yk,Wk,s2⟩ ⟨hk,hpo,hyk,hyks,hb,hpl,hpv⟩
     refine Rq [3,4,5,8,9,16,17,18,33] ?_
     refine Cfg.cond rfl (b := (decide ((k : Int) < (p.length : Int)))) kr (fun c3r => ?_) (fun c3r => ?_)
     ·have c3 := (dT c3r)
      obtain ⟨sw2,offw2,csw2,tew2,frew2,hvw2,hmw2,hcw2⟩ := own_inf hpo om
      refine Cg (Γ' := [(33,[],.bool (decide ((k : Int) < (p.length : Int)))),(9,[],iN k),(8,[],.slice (Own.a po) p.length ((Own.c po))),(18,[],iN i),(17,[],iN m.vs.length),(16,[],.slice m.va m.vs.length m.vc),(5,[],.map (some sm)),(4,[],.map (some mb)),(3,[],.slice (Own.a pp) n (Own.c pp))]) ?_
      refine Cfg.setG (Γ' := [(33,[],.bool (decide ((k : Int) < (p.length : Int)))),(9,[],iN k),(8,[],.slice (some ⟨sw2,offw2,none⟩) p.length (Own.c po)),(18,[],iN i),(17,[],iN m.vs.length),(16,[],.slice m.va m.vs.length m.vc),(5,[],.map (some sm)),(4,[],.map (some mb)),(3,[],.slice (Own.a pp) n (Own.c pp))]) (congrArg (fun (xq : Option Addr) => ([(33,[],.bool (decide ((k : Int) < (p.length : Int)))),(9,[],iN k),(8,[],.slice xq p.length ((Own.c po))),(18,[],iN i),(17,[],iN m.vs.length),(16,[],.slice m.va m.vs.length m.vc),(5,[],.map (some sm)),(4,[],.map (some mb)),(3,[],.slice (Own.a pp) n (Own.c pp))] : Env)) hvw2) ?_
      refine Cfg.begL rfl ?_
      refine Lp 5 [dZ,dZ,dZ,dZ,(dS (uN (p.getD k 0)))] (some [3,4,5,8,9,16,17,18,36,40]) (fun S => [(0 ≤ (k : Int) ∧ (k : Int) < (p.length : Int)),(cE S sw2 (addO offw2 k) (uN (p.getD k 0)))]) ⟨om,(fun w1 h => by rw [addO_eq]; exact (cell_cells (h.own _ (mR (mL hmw2)))).trans (fl_one (g := fun n : Nat => uN n) 0 hcw2 om)),trivial⟩ ?_
      refine Lu (Eff.reV (Eff.wGet (ok := false) (z := .slice none 0 0) (r := mb) (k := (p.getD k 0 : Int)) (es := q1.1) (ck := q1.2) rfl Tryz.underlying115 Tryz.underlying73 kr kr kr hq1 (fun w1 h => h.own (mb,_) (mG 2 rfl))) (fun _ => hqn.get (p.getD k 0) (hpv _ (K.getD_mem om)))) ?_
      refine Ld 2 [3,4,5,8,9,16,17,18,41,42,43] ?_
      refine Cfg.setS 8 (show .slice (some ⟨sw2,offw2,none⟩) p.length (Own.c po) = .slice (Own.a po) p.length (Own.c po) from congrArg (fun z => Value.slice z p.length ((Own.c po))) hvw2.symm) ?_
      refine Cfg.loop rfl (ι := Nat × K.Own × List Nat × MX × List (Int × Value) × List Nat) (fun (xz : Nat × K.Own × List Nat × MX × List (Int × Value) × List Nat) => match xz with | (j,p2o,p2,yc,Wc,s3) => [(43,[],iN j),(42,[],.int .i64 ((nearF m.es (p.getD k 0)).length : Int)),(41,[],.slice (Own.a (o (p.getD k 0))) ((nearF m.es (p.getD k 0)).length) ((Own.c (o (p.getD k 0))))),(9,[],iN k),(8,[],.slice (Own.a p2o) p2.length (Own.c p2o)),(18,[],iN i),(17,[],iN m.vs.length),(16,[],.slice m.va m.vs.length m.vc),(5,[],.map (some sm)),(4,[],.map (some mb)),(3,[],.slice (Own.a pp) n (Own.c pp))]) (fun (xz : Nat × K.Own × List Nat × MX × List (Int × Value) × List Nat) => match xz with | (j,p2o,p2,yc,Wc,s3) => ([(sm,.map yc.1 yc.2),(gb,.cells ((gc m).toArray) 25 (0,0)),(mb,.map q1.1 q1.2)] ++ (Own.o 73 (p2.flatMap u32c) p2o ++ (memN m.vs o (nearF m.es) ++ (Own.o 22 cs pp ++ []))))) (fun (xz : Nat × K.Own × List Nat × MX × List (Int × Value) × List Nat) => match xz with | (j,p2o,p2,yc,Wc,s3) => (j ≤ (nearF m.es (p.getD k 0)).length) ∧ (OwnOk p2o 1 p2.length (p2.flatMap u32c)) ∧ (WMapOk yc.1 yc.2 Wc) ∧ (Seen Wc s3) ∧ (addW ((nearF m.es (p.getD k 0)).drop j) p2 s3 = addW (nearF m.es (p.getD k 0)) p s2) ∧ (p2.length + left m.vs s3 ≤ 65) ∧ (∀ x ∈ p2,x ∈ m.vs) ∧ (p.length ≤ p2.length)) (fun (xz : Nat × K.Own × List Nat × MX × List (Int × Value) × List Nat) => match xz with | (j,p2o,p2,yc,Wc,s3) => (nearF m.es (p.getD k 0)).length - j) (0,po,p,yk,Wk,s2) ?_ (Conv.mk kr) slr ?_
      ·exact ⟨Nat.zero_le _,hpo,hyk,hyks,rfl,hpl,hpv,Nat.le_refl _⟩
      ·rintro ⟨j,p2o,p2,yc,Wc,s3⟩ ⟨hj,hp2o,hyc,hycs,ha,hpl2,hpv2,hpp2⟩
       have hnl := hqn.len (p.getD k 0)
       refine Rq [3,4,5,8,9,16,17,18,41,42,43,44] ?_
       refine Cfg.cond rfl (b := (decide ((j : Int) < ((nearF m.es (p.getD k 0)).length : Int)))) kr (fun c4r => ?_) (fun c4r => ?_)
       ·have c4 := (dT c4r)
        obtain ⟨sn3,offn3,csn3,ten3,fren3,hvn3,hmn3,hcn3⟩ := memN_inf (u := p.getD k 0) hqn (hpv _ (K.getD_mem om)) om
        refine Cg (Γ' := [(44,[],.bool (decide ((j : Int) < ((nearF m.es (p.getD k 0)).length : Int)))),(43,[],iN j),(42,[],.int .i64 ((nearF m.es (p.getD k 0)).length : Int)),(41,[],.slice (Own.a (o (p.getD k 0))) ((nearF m.es (p.getD k 0)).length) ((Own.c (o (p.getD k 0))))),(9,[],iN k),(8,[],.slice (Own.a p2o) p2.length (Own.c p2o)),(18,[],iN i),(17,[],iN m.vs.length),(16,[],.slice m.va m.vs.length m.vc),(5,[],.map (some sm)),(4,[],.map (some mb)),(3,[],.slice (Own.a pp) n (Own.c pp))]) ?_
        refine Cfg.setG (Γ' := [(44,[],.bool (decide ((j : Int) < ((nearF m.es (p.getD k 0)).length : Int)))),(43,[],iN j),(42,[],.int .i64 ((nearF m.es (p.getD k 0)).length : Int)),(41,[],.slice (some ⟨sn3,offn3,none⟩) (nearF m.es (p.getD k 0)).length (Own.c (o (p.getD k 0)))),(9,[],iN k),(8,[],.slice (Own.a p2o) p2.length (Own.c p2o)),(18,[],iN i),(17,[],iN m.vs.length),(16,[],.slice m.va m.vs.length m.vc),(5,[],.map (some sm)),(4,[],.map (some mb)),(3,[],.slice (Own.a pp) n (Own.c pp))]) (congrArg (fun (xq : Option Addr) => ([(44,[],.bool (decide ((j : Int) < ((nearF m.es (p.getD k 0)).length : Int)))),(43,[],iN j),(42,[],.int .i64 ((nearF m.es (p.getD k 0)).length : Int)),(41,[],.slice xq ((nearF m.es (p.getD k 0)).length) ((Own.c (o (p.getD k 0))))),(9,[],iN k),(8,[],.slice (Own.a p2o) p2.length (Own.c p2o)),(18,[],iN i),(17,[],iN m.vs.length),(16,[],.slice m.va m.vs.length m.vc),(5,[],.map (some sm)),(4,[],.map (some mb)),(3,[],.slice (Own.a pp) n (Own.c pp))] : Env)) hvn3) ?_
        refine Rg [3,4,5,8,9,11,16,17,18,41,42,43] [dZ,(dS (uN (((nearF m.es (p.getD k 0))).getD j 0)))] (fun S => [(0 ≤ (j : Int) ∧ (j : Int) < ((nearF m.es (p.getD k 0)).length : Int)),(cE S sn3 (addO offn3 j) (uN (((nearF m.es (p.getD k 0))).getD j 0)))]) ⟨om,(fun w1 h => by rw [addO_eq]; exact (cell_cells (h.own _ (mR (mR (mL hmn3))))).trans (fl_one (g := fun n : Nat => uN n) 0 hcn3 om)),trivial⟩ ?_
        refine Cfg.begL rfl ?_
        refine Lp 2 [] none n0 trivial ?_
        refine Lu (Eff.reV (Eff.wGet (ok := false) (z := .int .i64 0) (r := sm) (k := (((nearF m.es (p.getD k 0))).getD j 0 : Int)) (es := yc.1) (ck := yc.2) rfl Tryz.underlying130 Tryz.underlying73 kr kr kr hyc (fun w1 h => h.own (sm,_) (mG 0 rfl))) (fun _ => hycs (((nearF m.es (p.getD k 0))).getD j 0))) ?_
        refine Ld 1 [3,4,5,8,9,11,16,17,18,41,42,43,50] ?_
        refine Cfg.cond rfl (b := ((if ((nearF m.es (p.getD k 0))).getD j 0 ∈ s3 then (1 : Int) else 0) == (0 : Int))) kr (fun c5r => ?_) (fun c5r => ?_)
        ·have c5 := (beq_iff_eq.1 c5r)
         refine Cfg.begL rfl ?_
         refine Lq 2 [3,4,5,8,9,11,16,17,18,41,42,43,51,52] ?_
         refine Le (Eff.wSet (r := sm) (k := (((nearF m.es (p.getD k 0))).getD j 0 : Int)) (u := .int .i64 1) (es := yc.1) (ck := yc.2) rfl Tryz.underlying130 Tryz.underlying73 kr kr kr hyc 0 kr) ?_
         rintro yd hyd
         have hyds := hycs.set (((nearF m.es (p.getD k 0))).getD j 0)
         refine CfgL.done rfl ?_
         refine Cg (Γ' := [(11,[],uN (((nearF m.es (p.getD k 0))).getD j 0)),(43,[],iN j),(42,[],.int .i64 ((nearF m.es (p.getD k 0)).length : Int)),(41,[],.slice (some ⟨sn3,offn3,none⟩) (nearF m.es (p.getD k 0)).length (Own.c (o (p.getD k 0)))),(9,[],iN k),(8,[],.slice (Own.a p2o) p2.length (Own.c p2o)),(18,[],iN i),(17,[],iN m.vs.length),(16,[],.slice m.va m.vs.length m.vc),(5,[],.map (some sm)),(4,[],.map (some mb)),(3,[],.slice (Own.a pp) n (Own.c pp))]) ?_
         refine Cfg.begL rfl ?_
         refine Lq 2 [3,4,5,8,9,16,17,18,41,42,43,53,54] ?_
         refine Le (Eff.buildSlice (e := 73) (cells := #[uN (((nearF m.es (p.getD k 0))).getD j 0)]) (parts := #[(0,uN (((nearF m.es (p.getD k 0))).getD j 0))]) rfl kr (fun _ => kr)) ?_
         rintro rb55 ⟨hrb55,nrb55⟩
         refine Le (Eff.appendF rfl 1 4 Tryz.underlying22 kr (z := (.int .u32 0)) kr kr p2o (xs := (p2.flatMap u32c)) hp2o kr (b2 := rb55) (off2 := 0) (m := 1) (c2 := 1) kr ([uN (((nearF m.es (p.getD k 0))).getD j 0)]) rfl (by intro q hq; rw [List.mem_singleton.1 hq]; rfl) [(rb55,.cells #[uN (((nearF m.es (p.getD k 0))).getD j 0)] 73 (0,0)),(sm,.map yd.1 yd.2),(gb,.cells ((gc m).toArray) 25 (0,0)),(mb,.map q1.1 q1.2)] (memN m.vs o (nearF m.es) ++ (Own.o 22 cs pp ++ [])) (by rfl) (fun w1 h j v hj => by rw [Nat.zero_add]; exact h.ocell 0 rfl (by rw [List.getElem?_toArray]; exact hj)) om om) ?_
         rintro o2 ko2
         refine Ld 1 [3,4,5,8,9,16,17,18,41,42,43] ?_
         refine Rg [3,4,5,8,9,16,17,18,41,42,43] [] (fun _ => [(i6 ((j : Int) + 1))]) ⟨om,trivial⟩ ?_
         have hni := ite10 (p := ((nearF m.es (p.getD k 0)).getD j 0) ∈ s3) om
         have hgo := addW_go (l := (nearF m.es (p.getD k 0))) (p := p2) (s := s3) (j := j) om
         rw [if_neg hni] at hgo
         have hvx : ((nearF m.es (p.getD k 0)).getD j 0) ∈ m.vs := near_in hg (p.getD k 0) _ (K.getD_mem om)
         have hlt := left_lt hvx hni
         have hsl : (p2 ++ [((nearF m.es (p.getD k 0)).getD j 0)]).length = p2.length + 1 := by rw [List.length_append]; rfl
         have hsf : (p2 ++ [((nearF m.es (p.getD k 0)).getD j 0)]).flatMap u32c = ((p2.flatMap u32c) ++ [.int .u32 ((((nearF m.es (p.getD k 0))).getD j 0) : Int)]) := by rw [List.flatMap_append]; rfl
         refine Cfg.setO (congrArg (fun (xq : List Value) => (([(rb55,.cells #[uN (((nearF m.es (p.getD k 0))).getD j 0)] 73 (0,0)),(sm,.map yd.1 yd.2),(gb,.cells ((gc m).toArray) 25 (0,0)),(mb,.map q1.1 q1.2)] ++ (Own.o 73 xq o2 ++ (memN m.vs o (nearF m.es) ++ (Own.o 22 cs pp ++ [])))) : LO)) (show _ = ((p2 ++ [((nearF m.es (p.getD k 0)).getD j 0)]).flatMap u32c) from hsf.symm)) ?_
         refine Cfg.setS 41 (show .slice (some ⟨sn3,offn3,none⟩) (nearF m.es (p.getD k 0)).length (Own.c (o (p.getD k 0))) = .slice (Own.a (o (p.getD k 0))) ((nearF m.es (p.getD k 0)).length) ((Own.c (o (p.getD k 0)))) from congrArg (fun z => Value.slice z ((nearF m.es (p.getD k 0)).length) ((Own.c (o (p.getD k 0))))) hvn3.symm) ?_
         refine Cfg.setS 8 (congrArg (fun (xq : Nat) => (.slice (Own.a o2) xq (Own.c o2) : Value)) (show ((p2.length + 1)) = ((p2 ++ [((nearF m.es (p.getD k 0)).getD j 0)]).length) from hsl.symm)) ?_
         refine Cfg.again rfl (j + 1,o2,p2 ++ [((nearF m.es (p.getD k 0)).getD j 0)],yd,(mset Wc (((nearF m.es (p.getD k 0))).getD j 0 : Int) (.int .i64 1)),s3 ++ [((nearF m.es (p.getD k 0)).getD j 0)]) ⟨by omega,by rw [hsl,hsf]; exact ko2,hyd,hyds,hgo.symm.trans ha,by rw [hsl]; omega,(fun x hx => (List.mem_append.1 hx).elim (hpv2 x) (fun h9 => by rw [List.mem_singleton.1 h9]; exact hvx)),by rw [hsl]; omega⟩ (by show (nearF m.es (p.getD k 0)).length - (j + 1) < (nearF m.es (p.getD k 0)).length - j; omega) (Conv.mk kr) (.cons _ slr)
        ·have c5 := (beq_eq_false_iff_ne.1 c5r)
         refine Rg [3,4,5,8,9,16,17,18,41,42,43] [] (fun _ => [(i6 ((j : Int) + 1))]) ⟨om,trivial⟩ ?_
         have hgo := addW_go (l := (nearF m.es (p.getD k 0))) (p := p2) (s := s3) (j := j) om
         rw [if_pos (ite01 om)] at hgo
         refine Cfg.setS 41 (show .slice (some ⟨sn3,offn3,none⟩) (nearF m.es (p.getD k 0)).length (Own.c (o (p.getD k 0))) = .slice (Own.a (o (p.getD k 0))) ((nearF m.es (p.getD k 0)).length) ((Own.c (o (p.getD k 0)))) from congrArg (fun z => Value.slice z ((nearF m.es (p.getD k 0)).length) ((Own.c (o (p.getD k 0))))) hvn3.symm) ?_
         refine Cfg.again rfl (j + 1,p2o,p2,yc,Wc,s3) ⟨by omega,hp2o,hyc,hycs,hgo.symm.trans ha,hpl2,hpv2,hpp2⟩ (by show (nearF m.es (p.getD k 0)).length - (j + 1) < (nearF m.es (p.getD k 0)).length - j; omega) (Conv.mk kr) slr
       ·have c4 := (dF c4r)
        refine Rg [3,4,5,8,9,16,17,18] [] (fun _ => [(i6 ((k : Int) + 1))]) ⟨om,trivial⟩ ?_
        have hbs := bfs_step (es := m.es) (U := m.vs) (k := k) (p := p) (s := s2) om (near_in hg)
        have hbl := bfs_less (es := m.es) (U := m.vs) (k := k) (p := p) (s := s2) om (near_in hg)
        rw [List.drop_eq_nil_of_le om,addW] at ha
        rw [← ha] at hbs hbl
        refine Cfg.again rfl (k + 1,p2o,p2,yc,Wc,s3) ⟨by omega,hp2o,hyc,hycs,hbs.symm.trans hb,hpl2,hpv2⟩ (by show p2.length - (k + 1) + left m.vs s3 < p.length - k + left m.vs s2; exact hbl) (Conv.mk kr) slr
     ·have c3 := (dF c3r)
      refine Cfg.begL rfl ?_
      refine Lq 1 [3,4,5,8,16,17,18,58] ?_
      refine Lu (Eff.callH (fun _ : Unit => .tuple #[]) (Own.o 73 (p.flatMap u32c) po) (fun _ => Own.o 73 ((sortN p).flatMap u32c) po) (fun _ => True) ([(sm,.map yk.1 yk.2),(gb,.cells ((gc m).toArray) 25 (0,0)),(mb,.map q1.1 q1.2)]) ((memN m.vs o (nearF m.es) ++ (Own.o 22 cs pp ++ []))) (by rfl) rfl Tryz.func94 rfl rfl kr (fun w1 h hA1 hd1 => sSortO po p w1 hpo hA1 om)) ?_
      refine CfgL.done rfl ?_
      refine Cg (Γ' := [(8,[],.slice (Own.a po) p.length (Own.c po)),(18,[],iN i),(17,[],iN m.vs.length),(16,[],.slice m.va m.vs.length m.vc),(5,[],.map (some sm)),(4,[],.map (some mb)),(3,[],.slice (Own.a pp) n (Own.c pp))]) ?_
      refine Cfg.begL rfl ?_
      refine Lq 2 [3,4,5,16,17,18,60,61] ?_
      refine Le (Eff.buildSlice (e := 22) (cells := #[.slice (Own.a po) p.length (Own.c po)]) (parts := #[(0,.slice (Own.a po) p.length (Own.c po))]) rfl kr (fun _ => kr)) ?_
      rintro rb62 ⟨hrb62,nrb62⟩
      refine Le (Eff.reO (A2 := fun (oq9 : K.Own) => ([(rb62,.cells #[.slice (Own.a po) p.length (Own.c po)] 22 (0,0)),(sm,.map yk.1 yk.2),(gb,.cells ((gc m).toArray) 25 (0,0)),(mb,.map q1.1 q1.2)] ++ (Own.o 73 ((sortN p).flatMap u32c) po ++ (memN m.vs o (nearF m.es) ++ (Own.o 22 (cs ++ [.slice (Own.a po) p.length (Own.c po)]) oq9 ++ []))))) (Eff.appendF rfl 1 24 Tryz.underlying26 kr (z := (.slice none 0 0)) kr kr pp (xs := cs) hpp kr (b2 := rb62) (off2 := 0) (m := 1) (c2 := 1) kr ([.slice (Own.a po) p.length (Own.c po)]) rfl (by intro q hq; rw [List.mem_singleton.1 hq]; rfl) ([(rb62,.cells #[.slice (Own.a po) p.length (Own.c po)] 22 (0,0)),(sm,.map yk.1 yk.2),(gb,.cells ((gc m).toArray) 25 (0,0)),(mb,.map q1.1 q1.2)] ++ (Own.o 73 ((sortN p).flatMap u32c) po ++ (memN m.vs o (nearF m.es)))) [] (by simp only [List.append_assoc,List.cons_append,List.nil_append,List.append_nil]) (fun w1 h j v hj => by rw [Nat.zero_add]; exact h.ocell 0 rfl (by rw [List.getElem?_toArray]; exact hj)) om om) (fun oq9 => by simp only [List.append_assoc,List.cons_append,List.nil_append,List.append_nil])) ?_
      rintro o4 ko4
      refine Ld 1 [3,4,5,16,17,18] ?_
      refine Rg [3,4,5,16,17,18] [] (fun _ => [(i6 ((i : Int) + 1))]) ⟨om,trivial⟩ ?_
      have hbe : bfs m.es m.vs k p s2 = (p,s2) := bfs_end om
      have hgo := partsL_go (es := m.es) (U := m.vs) (vs := m.vs) (s := s) (i := i) (n := n) om (ite10 om)
      rw [← hb,hbe] at hgo
      have hcl2 : ((cs ++ [Value.slice (Own.a po) p.length (Own.c po)])).length = n + 1 := by rw [List.length_append]; show cs.length + 1 = _; omega
      refine Cfg.again rfl (i + 1,yk,Wk,s2,n + 1,o4,(cs ++ [Value.slice (Own.a po) p.length (Own.c po)])) ⟨by omega,by omega,hyk,hyks,hcl2,ko4,hgo.symm.trans hra⟩ (by show m.vs.length - (i + 1) < m.vs.length - i; omega) (Conv.mk kr) (.cons _ (.cons_cons _ (.cons_cons _ (.cons_cons _ (show List.Sublist (memN m.vs o (nearF m.es) ++ (Own.o 22 (cs ++ [.slice (Own.a po) p.length (Own.c po)]) o4 ++ [])) (Own.o 73 ((sortN p).flatMap u32c) po ++ (memN m.vs o (nearF m.es) ++ (Own.o 22 (cs ++ [.slice (Own.a po) p.length (Own.c po)]) o4 ++ []))) from (List.Sublist.trans (List.Sublist.append (List.Sublist.refl (memN m.vs o (nearF m.es))) (List.Sublist.append (List.Sublist.refl (Own.o 22 (cs ++ [.slice (Own.a po) p.length (Own.c po)]) o4)) (List.nil_sublist _))) (List.sublist_append_right (Own.o 73 ((sortN p).flatMap u32c) po) _)))))))
  ·have c1 := (dF c1r)
   refine Rq [2] ?_
   refine Cfg.ret rfl (rs := [.tmp 2]) rfl [.slice (Own.a pp) n (Own.c pp)] ⟨kr,trivial⟩ (fun w1 hp => ?_)
   have hfin : partsF m.vs m.es = n := by rw [← hra,List.drop_eq_nil_of_le om]; rfl
   rw [hfin]
   exact ⟨(Own.a pp,Own.c pp),trivial,rfl,_,hp.sub (List.nil_sublist _)⟩
end Go.Proofs.YtbeeelgfhfmgbaaGreatDoor
namespace Go.Proofs.YtbeeelgfhfmgbaaGreatDoor
namespace K
section
variable {C : Cx} {R O : List (Nat × Obj)} {Γ : Env} {op : Oper}
theorem Eff.sliceNilH {t e : TypeId} {x y : Operand} (ho : op.op = .slice t x none (some y) none) (ht : C.P.underlying t = some (.slice e)) {sz : Nat} (hsz : (C.P.info? e).map (·.size) = some sz) (hx : opd Γ [] x = some (.slice none 0 0)) (hy : opd Γ [] y = some (.int .i64 0)) :
  Eff C R O Γ op Unit (fun _ => .slice none 0 0) (fun _ => O) (fun _ => True) := by
 refine Eff.of_run fun a w hs hp => ⟨(),w,trivial,?_,hp⟩
 obtain ⟨inf,hi,hse⟩ := Option.map_eq_some_iff.1 hsz
 have e1 := opd_ok hs (holds_nil _) hx
 have e2 := opd_ok hs (holds_nil _) hy
 have hb : (Instr.sliceBounds true 0 0 none (some (.int .i64 0)) none).run C.P w = .ok (0,0,0) w := by
  simp [Instr.sliceBounds,run_sliceBound (P := C.P) (w := w) (x := .int .i64 0) (y := 0) rfl (Int.le_refl 0) (Nat.le_refl 0)]
 simp [execOp,ho,e1,e2,Instr.sliceAt,Instr.slice,run_underlying' ht,hb,run_sizeOf' hi]
theorem Eff.appendN {t tn e : TypeId} {kn : IntKind} {x1 x2 : Operand} (ho : op.op = .call ⟨.builtin .append,#[x1,x2],#[t,tn]⟩) (sz bytes : Nat) (ht : C.P.underlying t = some (.slice e)) (htn : C.P.underlying tn = some (.int kn)) (hsz : (C.P.info? e).map (fun i => (i.size,i.bytes)) = some (sz,bytes))
  {z : Value} (hz0 : (C.P.info? e).bind (·.zero) = some z) (hzs : z.cells.size = sz) (hsz0 : 0 < sz) (h1 : opd Γ [] x1 = some (.slice none 0 0)) {k : Int} {m : Nat} (hk : k = (m : Int)) (hm : 0 < m) (h2 : opd Γ [] x2 = some (.int .i64 k))
  (hroom : m * bytes ≤ 140737488355328) (h63 : m ≤ 9223372036854775807) :
  Eff C R O Γ op Own (fun o => .slice o.a m o.c) (fun o => o.o e (Builtin.zeroCells z.cells m).toList ++ O) (fun o => OwnOk o sz m (Builtin.zeroCells z.cells m).toList) := by
 refine Eff.of_run fun a w hs hp => ?_
 obtain ⟨inf,hi,hse⟩ := Option.map_eq_some_iff.1 hsz
 obtain ⟨inf',hi',hz⟩ := Option.bind_eq_some_iff.1 hz0
 rw [hi] at hi'
 simp only [Option.some.injEq] at hi'
 subst hi'
 simp only [Prod.mk.injEq] at hse
 obtain ⟨rfl,rfl⟩ := hse
 subst hk
 have hc := grownCap_ge w m 0 e
 have hfit := growslice_fits (show 0 < m from hm) hroom
 have hzv : ∀ w,(zeroValue e).run C.P w = .ok z w := fun w => by simp [zeroValue,typeInfo,program,Sem.run,hi,hz]
 have hlen : (Builtin.zeroCells z.cells m).toList.length = m * inf.size := by rw [Array.length_toList,zeroCells_size,hzs]
 let rest := (Builtin.zeroCells z.cells (grownCap w m 0 e - m)).toList
 have hrest : rest.length = (grownCap w m 0 e - m) * inf.size := by simp only [rest]; rw [Array.length_toList,zeroCells_size,hzs]
 have hrun : (Builtin.append_ #[t,tn] op.type #[.slice none 0 0,.int .i64 (m : Int)]).run C.P w =
   .ok (.slice (some ⟨w.heap.size,0,none⟩) m (grownCap w m 0 e)) (w.drew.alloc (.cells ((Builtin.zeroCells z.cells m).toList ++ rest).toArray e (0,0))) := by
  have hw : IntKind.i64.wrap (m : Int) = (m : Int) := wrap_in ⟨(show (-9223372036854775808 : Int) ≤ (m : Int) by omega),(show (m : Int) ≤ 9223372036854775807 by omega)⟩
  have h0 : ¬ ((m : Int) < 0) := by omega
  have h48 : ¬ ((m : Int) * (inf.bytes : Int) > 281474976710656) := by
   have h9 := Int.ofNat_le.2 hroom
   rw [Int.natCast_mul] at h9
   have h8 : ((140737488355328 : Nat) : Int) = 140737488355328 := rfl
   rw [h8] at h9
   omega
  have hn : ¬ (m = 0) := by omega
  have h63' : ¬ (9223372036854775807 < (m : Int)) := by omega
  have h48' : ¬ (281474976710656 < Builtin.nextslicecap m 0 * inf.bytes) := by omega
  have hms : ¬ (m * inf.size = 0) := by
   intro h; rcases Nat.mul_eq_zero.1 h with h | h <;> omega
  have hai : (asIntOf (.int .i64 (m : Int))).run C.P w = .ok (.i64,(m : Int)) w := rfl
  simp [Builtin.append_,run_underlying' ht,run_underlying' htn,run_sizeOf' hi,asInt,hai,typeInfo,hi,hw,h0,h48,Builtin.lenOf,hn,h63',h48',Question.forced,Builtin.firstCells,hzv,newRow,grownCap]
  first
   | (rw [if_neg hms]; congr 3; apply Array.ext'; simp [rest,grownCap])
   | (congr 3; apply Array.ext'; simp [rest,grownCap])
   | simp [rest,grownCap]
 have hp2 := (hp.calm (ext_drew w)).alloc (.cells ((Builtin.zeroCells z.cells m).toList ++ rest).toArray e (0,0))
 refine ⟨some (w.heap.size,grownCap w m 0 e,rest),_,⟨hlen,fun h => (by cases h),fun p hp' => ?_⟩,?_,hp2⟩
 ·simp only [Option.some.injEq] at hp'
  subst hp'
  refine ⟨?_,hc⟩
  simp only
  rw [hlen,hrest,← Nat.add_mul]
  congr 1
  omega
 ·have e1 := opd_ok hs (holds_nil _) h1
  have e2 := opd_ok hs (holds_nil _) h2
  simp [execOp,ho,resolve,invoke,builtin,e1,e2,hrun,Own.a,Own.c]
theorem Eff.callHC {x : Operand} {f : FuncId} {fn : Func} {c : Code} {xs : List Operand} {tys : Array TypeId} {vs : List Value} {ι : Type} (caps : List Value) (V : ι → Value) (A : List (Nat × Obj)) (A' : ι → List (Nat × Obj)) (F : ι → Prop) (Fl T : List (Nat × Obj)) (hO : O = Fl ++ (A ++ T))
  (ho : op.op = .call ⟨.value x,xs.toArray,tys⟩) (hxv : opd Γ [] x = some (.func (.func f) #[] caps.toArray)) (hf : C.P.funcs[f]? = some fn) (hnm : (fn.name == "runtime.NumGoroutine") = false) (hb : fn.body = some c) (hx : opds Γ xs = some vs)
  (h : ∀ w,HP C.w0 C.M R O w → Has w A → (A.map (·.1)).Nodup → Calls C.P f (vs ++ caps).toArray w fun e w' => ∃ x,F x ∧ e = .returned (V x) ∧ ∃ R1,HP w (A.map (·.1)) R1 (A' x) w') :
  Eff C R O Γ op ι V (fun x => Fl ++ (A' x ++ T)) F :=
 Eff.callVC caps ho hxv hf hnm hb hx fun w hp => by
  have hp1 : HP C.w0 C.M R (A ++ (Fl ++ T)) w := hp.perm (by rw [hO]; exact List.perm_append_comm_assoc _ _ _)
  refine (h w hp (fun e he => hp1.own e (mL he)) (nodup_left hp1.dist)).mono ?_
  rintro e w' ⟨x,hF,he,R1,hp'⟩
  exact ⟨x,hF,he,(hp1.swap hp').perm (List.perm_append_comm_assoc _ _ _)⟩
end
end K
end Go.Proofs.YtbeeelgfhfmgbaaGreatDoor
namespace Go.Proofs.YtbeeelgfhfmgbaaGreatDoor
open K
set_option linter.unusedVariables false
def minF : List Nat → Nat
 | [] => 0
 | x :: l => l.foldl (fun a b => if b < a then b else a) x
theorem minF_take {xs : List Nat} {i : Nat} (h : i < xs.length) (h0 : 0 < i) : minF (xs.take (i + 1)) = if xs.getD i 0 < minF (xs.take i) then xs.getD i 0 else minF (xs.take i) := by
 cases xs with
 | nil => cases h
 | cons x l =>
  obtain ⟨k,rfl⟩ : ∃ k,i = k + 1 := ⟨i - 1,by omega⟩
  have hk : k < l.length := by rw [List.length_cons] at h; omega
  rw [List.take_succ_cons,List.take_succ_cons,minF,minF,List.take_add_one,List.foldl_append,List.getElem?_eq_getElem hk,List.getD_cons_succ,List.getD_eq_getElem?_getD,List.getElem?_eq_getElem hk]
  rfl
theorem foldl_min_mem (l : List Nat) (x : Nat) : l.foldl (fun a b => if b < a then b else a) x ∈ x :: l := by
 induction l generalizing x with
 | nil => exact mH
 | cons y l ih =>
  rw [List.foldl_cons]
  rcases List.mem_cons.1 (ih (if y < x then y else x)) with h | h
  ·rw [h]
   split
   ·exact List.mem_cons_of_mem _ mH
   ·exact mH
  ·exact List.mem_cons_of_mem _ (List.mem_cons_of_mem _ h)
theorem minF_mem {xs : List Nat} (h : 0 < xs.length) : minF xs ∈ xs := by
 cases xs with
 | nil => cases h
 | cons x l => exact foldl_min_mem l x
def rotN (xs : List Nat) (k : Nat) : List Nat := xs.drop k ++ xs.take k
theorem rotN_len {xs : List Nat} {k : Nat} : (rotN xs k).length = xs.length := by
 unfold rotN; rw [List.length_append,List.length_drop,List.length_take]; omega
def normF (xs : List Nat) : List Nat := if xs.length = 0 then [] else rotN xs (ixA (minF xs) xs 0).toNat
theorem normF_len (xs : List Nat) : (normF xs).length = xs.length := by
 unfold normF
 split
 ·rename_i h; exact h.symm
 ·exact rotN_len
theorem inF_part {Rl : List (Nat × Obj)} {sa offa : Nat} {xs : List Nat} {cs : Array Value} {t : TypeId} {fr : Nat × Nat} (hm : (sa,Obj.cells cs t fr) ∈ Rl) (hc : ∀ j,j < xs.length * 1 → cs[offa + j]? = some ((xs.flatMap u32c).getD j undef)) (k n : Nat) (h : k + n ≤ xs.length) :
  InF u32c 1 Rl (some ⟨sa,offa + k,none⟩) ((xs.drop k).take n) := by
 have hl : ((xs.drop k).take n).length = n := by rw [List.length_take,List.length_drop]; omega
 intro h0
 refine ⟨sa,offa + k,cs,t,fr,rfl,hm,fun j hj => ?_⟩
 rw [hl] at hj
 have h1 := hc (k + j) om
 rw [nv_flat] at h1 ⊢
 rw [Nat.add_assoc,h1]
 unfold nv
 show some ((List.map (fun n : Nat => Value.int .u32 (n : Int)) xs).getD (k + j) undef) = some ((List.map (fun n : Nat => Value.int .u32 (n : Int)) ((xs.drop k).take n)).getD j undef)
 simp only [List.getD_eq_getElem?_getD,List.getElem?_map,List.getElem?_take,List.getElem?_drop]
 rw [if_pos (show j < n by omega)]
theorem take_rows {rs : List RowU} {i : Nat} (h : i < rs.length) : (rs.take (i + 1)).flatMap RowU.xs = (rs.take i).flatMap RowU.xs ++ (rs.getD i rwz).xs := by
 rw [List.take_add_one,List.flatMap_append,List.getD_eq_getElem?_getD,List.getElem?_eq_getElem h]
 show _ ++ (([rs[i]] : List RowU).flatMap RowU.xs) = _
 rw [List.flatMap_cons,List.flatMap_nil,List.append_nil]; rfl
theorem rows_le {rs : List RowU} (i : Nat) : ((rs.take i).flatMap RowU.xs).length ≤ (rs.flatMap RowU.xs).length := by
 have h : rs.flatMap RowU.xs = (rs.take i).flatMap RowU.xs ++ (rs.drop i).flatMap RowU.xs := by rw [← List.flatMap_append,List.take_append_drop]
 rw [h,List.length_append]; omega
set_option maxRecDepth 100000 in
set_option maxHeartbeats 4000000 in
theorem sGrow (n : Nat) (w : World) (hn : n ≤ 1000000) :
  Calls Tryz.prog 112 #[.slice none 0 0,.int .i64 (n : Int)] w fun e w' => ∃ o : K.Own,OwnOk o 1 0 [] ∧ e = .returned (.slice o.a 0 o.c) ∧ Has w' (o.o 73 []) ∧ (∀ x ∈ o.o 73 [],w.heap.size ≤ x.1) ∧ Ext [] w w' := by
 refine enter [] [] [] Tryz.func112 rfl kr (HP.start w) ?_
 refine Rq [0,1] ?_
 refine Rq [0,1,6] ?_
 refine Cfg.condF rfl (b := (decide ((n : Int) < (0 : Int)))) kr (decide_eq_false om) ?_
 refine Rg [0,1] [] (fun _ => [(i6 ((0 : Int) - (0 : Int))),(i6 ((n : Int) - ((0 : Int) - (0 : Int))))]) ⟨om,om,trivial⟩ ?_
 refine Rq [0,1,16] ?_
 refine Cfg.cond rfl (b := (decide (((n : Int) - ((0 : Int) - (0 : Int))) > (0 : Int)))) kr (fun c2r => ?_) (fun c2r => ?_)
 ·have c2 := (dT c2r)
  refine Cfg.begL rfl ?_
  refine Lq 3 [0,1,17,19] ?_
  refine Lu (Eff.sliceNilH (sz := 1) rfl Tryz.underlying22 kr kr kr) ?_
  refine Lq 1 [0,20,21] ?_
  refine Le (Eff.appendN rfl 1 4 Tryz.underlying22 Tryz.underlying3 kr (z := .int .u32 0) kr rfl (by decide) kr (k := ((n : Int) - ((0 : Int) - (0 : Int)))) (m := n) om om kr om om) ?_
  rintro oo ko
  obtain ⟨⟨ob,oc,oj⟩,rfl⟩ := own_some ko om
  have ks := ko.some _ rfl
  simp only at ks
  refine Lq 2 [0,22,24] ?_
  refine Lu (Eff.quiet (raw := false) (orc := none) (v := .slice (some ⟨ob,0,none⟩) 0 oc) (nd := fun _ => [(0 ≤ (0 : Int)),(0 ≤ oc)]) (fun _ => kr) ⟨by decide,Nat.zero_le _,trivial⟩ rfl) ?_
  refine CfgL.pure 1 [] (some [0]) (Γ' := [(0,[],.slice (some ⟨ob,0,none⟩) 0 oc)]) (nd := (fun _ => [])) kr (fun _ => kr) trivial ?_
  refine CfgL.done rfl ?_
  refine Rq [4] ?_
  refine Cfg.ret rfl (rs := [.tmp 4]) rfl [.slice (some ⟨ob,0,none⟩) 0 oc] ⟨kr,trivial⟩ (fun w1 hp => ?_)
  have e0 : (Builtin.zeroCells (Value.int .u32 0).cells n).toList ++ oj = ([] : List Value) ++ ((Builtin.zeroCells (Value.int .u32 0).cells n).toList ++ oj) := rfl
  exact ⟨some (ob,oc,(Builtin.zeroCells (Value.int .u32 0).cells n).toList ++ oj),⟨rfl,(fun h => by cases h),fun p hp9 => by cases hp9; exact ⟨by rw [List.length_nil,Nat.zero_add,List.length_append]; exact ks.1,Nat.zero_le _⟩⟩,rfl,fun x hx => hp.own x (by simpa [Own.o] using hx),fun x hx => (hp.mine x (by simpa [Own.o] using hx)).resolve_right (fun h => by cases h),hp.ext⟩
 ·have c2 := (dF c2r)
  refine Rq [4] ?_
  refine Cfg.ret rfl (rs := [.tmp 4]) rfl [.slice none 0 0] ⟨kr,trivial⟩ (fun w1 hp => ?_)
  exact ⟨none,OwnOk.none _,rfl,(fun x hx => by cases hx),(fun x hx => by cases hx),hp.ext⟩
set_option maxRecDepth 100000 in
set_option maxHeartbeats 4000000 in
theorem sConcat (la : Option Addr) (c : Nat) (rs : List RowU) (Rl : List (Nat × Obj)) (w : World) (hI : InF rowc 1 Rl la rs) (hE : ∀ r ∈ rs,InF u32c 1 Rl r.a r.xs ∧ r.a ≠ none) (hR : Has w Rl) (hn : rs.length ≤ 1000) (hs : (rs.flatMap RowU.xs).length ≤ 1000000) :
  Calls Tryz.prog 103 #[.slice la rs.length c] w fun e w' => ∃ o : K.Own,OwnOk o 1 (rs.flatMap RowU.xs).length ((rs.flatMap RowU.xs).flatMap u32c) ∧ e = .returned (.slice o.a (rs.flatMap RowU.xs).length o.c) ∧ Has w' (o.o 73 ((rs.flatMap RowU.xs).flatMap u32c)) ∧ (∀ x ∈ o.o 73 ((rs.flatMap RowU.xs).flatMap u32c),w.heap.size ≤ x.1) ∧ Ext [] w w' := by
 refine enter [] Rl [] Tryz.func103 rfl kr (HP.ofHas hR) ?_
 refine Rq [0] ?_
 refine Rq [0,3] ?_
 refine Rq [0,3,9,10,11] ?_
 refine Cfg.loop rfl (ι := Nat × Nat) (fun (xz : Nat × Nat) => match xz with | (i,s) => [(11,[],iN i),(10,[],iN rs.length),(9,[],.slice la rs.length c),(3,[],iN s),(0,[],.slice la rs.length c)]) (fun (xz : Nat × Nat) => match xz with | (i,s) => []) (fun (xz : Nat × Nat) => match xz with | (i,s) => (i ≤ rs.length) ∧ (s = ((rs.take i).flatMap RowU.xs).length)) (fun (xz : Nat × Nat) => match xz with | (i,s) => rs.length - i) (0,0) ?_ (Conv.mk kr) .slnil ?_
 ·exact ⟨Nat.zero_le _,rfl⟩
 ·rintro ⟨i,s⟩ ⟨hi,hse⟩
  have hrl := rows_le (rs := rs) i
  have hrl2 := rows_le (rs := rs) (i + 1)
  refine Rq [0,3,9,10,11,12] ?_
  refine Cfg.cond rfl (b := (decide ((i : Int) < (rs.length : Int)))) kr (fun c1r => ?_) (fun c1r => ?_)
  ·have c1 := (dT c1r)
   obtain ⟨sc1,offc1,csc1,tec1,frec1,hvc1,hmc1,hcc1⟩ := hI om
   refine Cg (Γ' := [(12,[],.bool (decide ((i : Int) < (rs.length : Int)))),(11,[],iN i),(10,[],iN rs.length),(9,[],.slice la rs.length c),(3,[],iN s),(0,[],.slice la rs.length c)]) ?_
   refine Cfg.setG (Γ' := [(12,[],.bool (decide ((i : Int) < (rs.length : Int)))),(11,[],iN i),(10,[],iN rs.length),(9,[],.slice (some ⟨sc1,offc1,none⟩) rs.length c),(3,[],iN s),(0,[],.slice (some ⟨sc1,offc1,none⟩) rs.length c)]) (congrArg (fun (xq : Option Addr) => ([(12,[],.bool (decide ((i : Int) < (rs.length : Int)))),(11,[],iN i),(10,[],iN rs.length),(9,[],.slice xq rs.length c),(3,[],iN s),(0,[],.slice xq rs.length c)] : Env)) hvc1) ?_
   refine Rg [0,3,5,9,10,11] [dZ,(dS (.slice (rs.getD i rwz).a ((rs.getD i rwz).xs.length) ((rs.getD i rwz).c)))] (fun S => [(0 ≤ (i : Int) ∧ (i : Int) < (rs.length : Int)),(cE S sc1 (addO offc1 i) (.slice (rs.getD i rwz).a ((rs.getD i rwz).xs.length) ((rs.getD i rwz).c)))]) ⟨om,(fun w1 h => by rw [addO_eq]; exact (cell_cells (h.ro _ hmc1)).trans (fl_one (g := fun r : RowU => .slice r.a r.xs.length r.c) rwz hcc1 om)),trivial⟩ ?_
   have htr := take_rows (rs := rs) (i := i) om
   have htl := congrArg List.length htr
   rw [List.length_append] at htl
   refine Rg [0,3,9,10,11] [] (fun _ => [(i6 ((s : Int) + ((rs.getD i rwz).xs.length : Int)))]) ⟨om,trivial⟩ ?_
   refine Rq [0,3,9,10,11,20] ?_
   refine Cfg.condF rfl (b := (decide (((s : Int) + ((rs.getD i rwz).xs.length : Int)) < (0 : Int)))) kr (decide_eq_false om) ?_
   refine Rg [0,3,9,10,11] [] (fun _ => [(i6 ((i : Int) + 1))]) ⟨om,trivial⟩ ?_
   refine Cfg.setS 9 (show .slice (some ⟨sc1,offc1,none⟩) rs.length c = .slice la rs.length c from congrArg (fun z => Value.slice z rs.length c) hvc1.symm) ?_
   refine Cfg.setS 0 (show .slice (some ⟨sc1,offc1,none⟩) rs.length c = .slice la rs.length c from congrArg (fun z => Value.slice z rs.length c) hvc1.symm) ?_
   refine Cfg.again rfl (i + 1,s + (rs.getD i rwz).xs.length) ⟨by omega,by omega⟩ (by show rs.length - (i + 1) < rs.length - i; omega) (Conv.mk kr) .slnil
  ·have c1 := (dF c1r)
   refine Cfg.begL rfl ?_
   refine Lq 1 [0,23] ?_
   refine Le (Eff.callOF 73 1 0 [] [] [] (by rfl) rfl Tryz.func112 rfl rfl kr (fun w1 h => sGrow s w1 om)) ?_
   rintro o1 ko1
   refine Ld 1 [0,6] ?_
   refine Rq [6,25,26,27] ?_
   refine Cfg.loop rfl (ι := Nat × K.Own) (fun (xz : Nat × K.Own) => match xz with | (k,oo) => [(27,[],iN k),(26,[],iN rs.length),(25,[],.slice la rs.length c),(6,[],.slice (Own.a oo) (((rs.take k).flatMap RowU.xs).length) (Own.c oo))]) (fun (xz : Nat × K.Own) => match xz with | (k,oo) => ([] ++ (Own.o 73 (((rs.take k).flatMap RowU.xs).flatMap u32c) oo ++ []))) (fun (xz : Nat × K.Own) => match xz with | (k,oo) => (k ≤ rs.length) ∧ (OwnOk oo 1 ((rs.take k).flatMap RowU.xs).length (((rs.take k).flatMap RowU.xs).flatMap u32c))) (fun (xz : Nat × K.Own) => match xz with | (k,oo) => rs.length - k) (0,o1) ?_ (Conv.mk kr) slr ?_
   ·exact ⟨Nat.zero_le _,ko1⟩
   ·rintro ⟨k,oo⟩ ⟨hk,hoo⟩
    have hrl := rows_le (rs := rs) k
    have hrl2 := rows_le (rs := rs) (k + 1)
    refine Rq [6,25,26,27,28] ?_
    refine Cfg.cond rfl (b := (decide ((k : Int) < (rs.length : Int)))) kr (fun c3r => ?_) (fun c3r => ?_)
    ·have c3 := (dT c3r)
     obtain ⟨sc2,offc2,csc2,tec2,frec2,hvc2,hmc2,hcc2⟩ := hI om
     refine Cg (Γ' := [(28,[],.bool (decide ((k : Int) < (rs.length : Int)))),(27,[],iN k),(26,[],iN rs.length),(25,[],.slice la rs.length c),(6,[],.slice (Own.a oo) (((rs.take k).flatMap RowU.xs).length) (Own.c oo))]) ?_
     refine Cfg.setG (Γ' := [(28,[],.bool (decide ((k : Int) < (rs.length : Int)))),(27,[],iN k),(26,[],iN rs.length),(25,[],.slice (some ⟨sc2,offc2,none⟩) rs.length c),(6,[],.slice (Own.a oo) (((rs.take k).flatMap RowU.xs).length) (Own.c oo))]) (congrArg (fun (xq : Option Addr) => ([(28,[],.bool (decide ((k : Int) < (rs.length : Int)))),(27,[],iN k),(26,[],iN rs.length),(25,[],.slice xq rs.length c),(6,[],.slice (Own.a oo) (((rs.take k).flatMap RowU.xs).length) (Own.c oo))] : Env)) hvc2) ?_
     refine Rg [6,8,25,26,27] [dZ,(dS (.slice (rs.getD k rwz).a ((rs.getD k rwz).xs.length) ((rs.getD k rwz).c)))] (fun S => [(0 ≤ (k : Int) ∧ (k : Int) < (rs.length : Int)),(cE S sc2 (addO offc2 k) (.slice (rs.getD k rwz).a ((rs.getD k rwz).xs.length) ((rs.getD k rwz).c)))]) ⟨om,(fun w1 h => by rw [addO_eq]; exact (cell_cells (h.ro _ hmc2)).trans (fl_one (g := fun r : RowU => .slice r.a r.xs.length r.c) rwz hcc2 om)),trivial⟩ ?_
     refine Cfg.begL rfl ?_
     refine Lq 2 [6,25,26,27,31,32] ?_
     have hXe := hE _ (K.getD_mem (z := rwz) (l := rs) (i := k) om)
     obtain ⟨a2,ha2⟩ := Option.ne_none_iff_exists'.1 hXe.2
     have hXi := hXe.1
     rw [ha2] at hXi
     have htr := take_rows (rs := rs) (i := k) om
     have htl := congrArg List.length htr
     rw [List.length_append] at htl
     refine Le (Eff.appendA rfl 1 4 Tryz.underlying22 kr (z := .int .u32 0) kr rfl oo (xs := ((rs.take k).flatMap RowU.xs).flatMap u32c) hoo kr a2 (m := (rs.getD k rwz).xs.length) (c2 := (rs.getD k rwz).c) ((show _ = some (Value.slice (rs.getD k rwz).a (rs.getD k rwz).xs.length (rs.getD k rwz).c) by kernel_rfl).trans (by rw [ha2])) ((rs.getD k rwz).xs.flatMap u32c) (flat_len (fun x _ => rfl)) (one_flat one_u32) (fun w1 h j v hj => clo_src hXi (fun x _ => rfl) (h.hasR (fun e he => he)) hj) [] rfl om om) ?_
     rintro ob kob
     refine Ld 1 [6,25,26,27] ?_
     refine Rg [6,25,26,27] [] (fun _ => [(i6 ((k : Int) + 1))]) ⟨om,trivial⟩ ?_
     have hst := take_rows (rs := rs) (i := k) om
     have hsl : ((rs.take (k + 1)).flatMap RowU.xs).length = ((rs.take k).flatMap RowU.xs).length + (rs.getD k rwz).xs.length := by rw [hst,List.length_append]
     have hsf : ((rs.take (k + 1)).flatMap RowU.xs).flatMap u32c = (((rs.take k).flatMap RowU.xs).flatMap u32c ++ (rs.getD k rwz).xs.flatMap u32c) := by rw [hst,List.flatMap_append]
     refine Cfg.setO (congrArg (fun (xq : List Value) => (([] ++ (Own.o 73 xq ob ++ [])) : LO)) (show _ = (((rs.take (k + 1)).flatMap RowU.xs).flatMap u32c) from hsf.symm)) ?_
     refine Cfg.setS 25 (show .slice (some ⟨sc2,offc2,none⟩) rs.length c = .slice la rs.length c from congrArg (fun z => Value.slice z rs.length c) hvc2.symm) ?_
     refine Cfg.setS 6 (congrArg (fun (xq : Nat) => (.slice (Own.a ob) xq (Own.c ob) : Value)) (show ((((rs.take k).flatMap RowU.xs).length + (rs.getD k rwz).xs.length)) = (((rs.take (k + 1)).flatMap RowU.xs).length) from hsl.symm)) ?_
     refine Cfg.again rfl (k + 1,ob) ⟨by omega,by rw [hsl,hsf]; exact kob⟩ (by show rs.length - (k + 1) < rs.length - k; omega) (Conv.mk kr) slr
    ·have c3 := (dF c3r)
     refine Rq [2] ?_
     refine Cfg.ret rfl (rs := [.tmp 2]) rfl [.slice (Own.a oo) (((rs.take k).flatMap RowU.xs).length) (Own.c oo)] ⟨kr,trivial⟩ (fun w1 hp => ?_)
     have hE9 : (rs.take k).flatMap RowU.xs = rs.flatMap RowU.xs := by rw [show k = rs.length by omega,List.take_length]
     rw [← hE9]
     exact ⟨oo,hoo,rfl,fun x hx => hp.own x (by simpa using hx),fun x hx => (hp.mine x (by simpa using hx)).resolve_right (fun h => by cases h),hp.ext⟩
set_option maxRecDepth 100000 in
set_option maxHeartbeats 4000000 in
theorem gMin (la : Option Addr) (c : Nat) (xs : List Nat) (Rl : List (Nat × Obj)) (w : World) (hI : InF u32c 1 Rl la xs) (hR : Has w Rl) (hn : xs.length ≤ 1000000) (h0 : 0 < xs.length) :
  Calls Tryz.prog 92 #[.slice la xs.length c] w fun e w' => e = .returned (.int .u32 (minF xs : Nat)) ∧ Ext [] w w' := by
 refine enter [] Rl [] Tryz.func92 rfl kr (HP.ofHas hR) ?_
 refine Rq [0] ?_
 refine Rq [0,7] ?_
 refine Cfg.condF rfl (b := (decide ((xs.length : Int) < (1 : Int)))) kr (decide_eq_false om) ?_
 obtain ⟨su1,offu1,csu1,teu1,freu1,hvu1,hmu1,hcu1⟩ := hI om
 refine Cg (Γ' := [(7,[],.bool (decide ((xs.length : Int) < (1 : Int)))),(0,[],.slice la xs.length c)]) ?_
 refine Cfg.setG (Γ' := [(7,[],.bool (decide ((xs.length : Int) < (1 : Int)))),(0,[],.slice (some ⟨su1,offu1,none⟩) xs.length c)]) (congrArg (fun (xq : Option Addr) => ([(7,[],.bool (decide ((xs.length : Int) < (1 : Int)))),(0,[],.slice xq xs.length c)] : Env)) hvu1) ?_
 refine Rg [0,3] [dZ,dZ,(dS (uN (xs.getD 0 0)))] (fun S => [(0 ≤ (0 : Int) ∧ (0 : Int) < (xs.length : Int)),(cE S su1 (addO offu1 0) (uN (xs.getD 0 0)))]) ⟨om,(fun w1 h => by rw [addO_eq]; exact (cell_cells (h.ro _ hmu1)).trans (fl_one (g := fun n : Nat => uN n) 0 hcu1 om)),trivial⟩ ?_
 refine Rq [0,3,4] ?_
 refine Cfg.setS 0 (show .slice (some ⟨su1,offu1,none⟩) xs.length c = .slice la xs.length c from congrArg (fun z => Value.slice z xs.length c) hvu1.symm) ?_
 refine Cfg.loop rfl (ι := Nat × Nat) (fun (xz : Nat × Nat) => match xz with | (i,mn) => [(4,[],iN i),(3,[],uN mn),(0,[],.slice la xs.length c)]) (fun (xz : Nat × Nat) => match xz with | (i,mn) => []) (fun (xz : Nat × Nat) => match xz with | (i,mn) => (1 ≤ i) ∧ (i ≤ xs.length) ∧ (mn = minF (xs.take i))) (fun (xz : Nat × Nat) => match xz with | (i,mn) => xs.length - i) (1,xs.getD 0 0) ?_ (Conv.mk kr) .slnil ?_
 ·exact ⟨Nat.le_refl _,h0,by cases xs with | nil => cases h0 | cons => rfl⟩
 ·rintro ⟨i,mn⟩ ⟨hi0,hi,hm⟩
  refine Rq [0,3,4,15] ?_
  refine Cfg.cond rfl (b := (decide ((i : Int) < (xs.length : Int)))) kr (fun c2r => ?_) (fun c2r => ?_)
  ·have c2 := (dT c2r)
   refine Cg (Γ' := [(15,[],.bool (decide ((i : Int) < (xs.length : Int)))),(4,[],iN i),(3,[],uN mn),(0,[],.slice la xs.length c)]) ?_
   refine Cfg.setG (Γ' := [(15,[],.bool (decide ((i : Int) < (xs.length : Int)))),(4,[],iN i),(3,[],uN mn),(0,[],.slice (some ⟨su1,offu1,none⟩) xs.length c)]) (congrArg (fun (xq : Option Addr) => ([(15,[],.bool (decide ((i : Int) < (xs.length : Int)))),(4,[],iN i),(3,[],uN mn),(0,[],.slice xq xs.length c)] : Env)) hvu1) ?_
   refine Cfg.begL rfl ?_
   refine Lp 5 [dZ,dZ,dZ,dZ,(dS (uN (xs.getD i 0)))] (some [0,3,4,18,22]) (fun S => [(0 ≤ (i : Int) ∧ (i : Int) < (xs.length : Int)),(cE S su1 (addO offu1 i) (uN (xs.getD i 0)))]) ⟨om,(fun w1 h => by rw [addO_eq]; exact (cell_cells (h.ro _ hmu1)).trans (fl_one (g := fun n : Nat => uN n) 0 hcu1 om)),trivial⟩ ?_
   obtain ⟨mx,hmx⟩ : ∃ z : Nat,z = (if (xs.getD i 0) < mn then (xs.getD i 0) else mn) := ⟨_,rfl⟩
   have hmm : (if ((xs.getD i 0) : Int) < (mn : Int) then ((xs.getD i 0) : Int) else (mn : Int)) = (mx : Int) := by by_cases h9 : (xs.getD i 0) < mn; rw [hmx,if_pos om,if_pos h9]; rw [hmx,if_neg om,if_neg h9]
   refine Lu (Eff.reV (Eff.minI (k := .u32) (a := (mn : Int)) (b := ((xs.getD i 0) : Int)) rfl kr kr) (fun _ => congrArg (Value.int .u32) hmm)) ?_
   refine Ld 1 [0,3,4] ?_
   refine Rg [0,3,4] [] (fun _ => [(i6 ((i : Int) + 1))]) ⟨om,trivial⟩ ?_
   have hmt := minF_take (xs := xs) (i := i) om om
   refine Cfg.setS 0 (show .slice (some ⟨su1,offu1,none⟩) xs.length c = .slice la xs.length c from congrArg (fun z => Value.slice z xs.length c) hvu1.symm) ?_
   refine Cfg.again rfl (i + 1,mx) ⟨by omega,by omega,by rw [hmt,← hm]; exact hmx⟩ (by show xs.length - (i + 1) < xs.length - i; omega) (Conv.mk kr) .slnil
  ·have c2 := (dF c2r)
   refine Rq [2] ?_
   refine Cfg.ret rfl (rs := [.tmp 2]) rfl [uN mn] ⟨kr,trivial⟩ (fun w1 hp => ?_)
   have hfin : minF xs = mn := by rw [hm,show i = xs.length by omega,List.take_length]
   rw [hfin]
   exact ⟨rfl,hp.ext⟩
end Go.Proofs.YtbeeelgfhfmgbaaGreatDoor
