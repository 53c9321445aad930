/- Texts on which the proof of this claim stands: Rt1, K21, K36, So1, So2, K39. -/
import Derived.Test.YtbeeelgfhfmgbaaGreatDoorP2
import Derived.Test.YtbeeelgfhfmgbaaGreatDoorP1
import Derived.MapKept
import Derived.Test.YtbeeelgfhfmgbaaGreatDoorChecked
namespace Go.Proofs.YtbeeelgfhfmgbaaGreatDoor
open K
set_option linter.unusedVariables false
theorem shl_or {e s : Nat} (hs : s < 2) : (2 * e ||| s) = 2 * e + s := by
 have h := Nat.two_pow_add_eq_or_of_lt (i := 1) (b := s) hs e
 simpa using h.symm
theorem xor_one (d : Nat) : (d ^^^ 1) = twin d := by
 unfold twin
 have h1 : (d ^^^ 1) / 2 = d / 2 := by rw [Nat.xor_div_two]; simp
 have h3 := Nat.xor_mod_two_pow (a := d) (b := 1) (n := 1)
 simp only [Nat.pow_one] at h3
 have h2 : (d ^^^ 1) % 2 = (d % 2 + 1) % 2 := by
  rw [h3]
  rcases Nat.mod_two_eq_zero_or_one d with h | h <;> rw [h] <;> rfl
 split <;> omega
def ixA (v : Nat) : List Nat → Nat → Int
 | [],_ => -1
 | x :: l,i => if x = v then (i : Int) else ixA v l (i + 1)
theorem ixA_ge (v : Nat) : ∀ (l : List Nat) (i : Nat),-1 ≤ ixA v l i ∧ ixA v l i < (i + l.length : Nat)
 | [],i => by show (-1 : Int) ≤ -1 ∧ (-1 : Int) < _; omega
 | x :: l,i => by
  rw [ixA]
  split
  ·rw [List.length_cons]; omega
  ·have := ixA_ge v l (i + 1)
   rw [List.length_cons]; omega
theorem ixA_mem (v : Nat) : ∀ (l : List Nat) (i : Nat),v ∈ l ↔ 0 ≤ ixA v l i
 | [],i => ⟨(fun h => by cases h),fun h => absurd (show (0 : Int) ≤ -1 from h) (by decide)⟩
 | x :: l,i => by
  rw [ixA]
  split
  ·rename_i h; exact ⟨fun _ => by omega,fun _ => by rw [h]; exact mH⟩
  ·rename_i h
   rw [← ixA_mem v l (i + 1),List.mem_cons]
   exact ⟨fun h9 => h9.resolve_left (fun e => h e.symm),.inr⟩
theorem ixA_go {v i : Nat} {l : List Nat} (h : i < l.length) (h2 : l.getD i 0 ≠ v) : ixA v (l.drop i) i = ixA v (l.drop (i + 1)) (i + 1) := by
 rw [List.drop_eq_getElem_cons h,ixA]
 rw [List.getD_eq_getElem?_getD,List.getElem?_eq_getElem h] at h2
 exact if_neg h2
theorem ixA_at {v i : Nat} {l : List Nat} (h : i < l.length) (h2 : l.getD i 0 = v) : ixA v (l.drop i) i = i := by
 rw [List.drop_eq_getElem_cons h,ixA]
 rw [List.getD_eq_getElem?_getD,List.getElem?_eq_getElem h] at h2
 exact if_pos h2
theorem drop_at {α : Type} {l : List α} {i : Nat} (d : α) (h : i < l.length) : l.drop i = l.getD i d :: l.drop (i + 1) := by
 rw [List.drop_eq_getElem_cons h,List.getD_eq_getElem?_getD,List.getElem?_eq_getElem h]; rfl
theorem gV_bad {vs : List Nat} {i a : Nat} {f : Bool} (h : i < vs.length) (h2 : numE (vs.getD i 0) a f ≠ 0) : gV (vs.drop i) a f = numE (vs.getD i 0) a f := by
 rw [drop_at 0 h,gV,if_pos h2]
theorem gV_go {vs : List Nat} {i a : Nat} {f : Bool} (h : i < vs.length) (h2 : numE (vs.getD i 0) a f = 0) : gV (vs.drop i) a f = gV (vs.drop (i + 1)) (vs.getD i 0) false := by
 rw [drop_at 0 h,gV,if_neg (fun h9 => h9 h2)]
theorem gE_bad {vs : List Nat} {es : List Ed} {i a : Nat} {f : Bool} (h : i < es.length) (h2 : numE (es.getD i ez).1 a f ≠ 0) : gE vs (es.drop i) a f = numE (es.getD i ez).1 a f := by
 rw [drop_at ez h,gE,if_pos h2]
theorem gE_loop {vs : List Nat} {es : List Ed} {i a : Nat} {f : Bool} (h : i < es.length) (h2 : numE (es.getD i ez).1 a f = 0) (h3 : (es.getD i ez).2.1 = (es.getD i ez).2.2) : gE vs (es.drop i) a f = 20 := by
 rw [drop_at ez h,gE,if_neg (fun h9 => h9 h2),if_pos h3]
theorem gE_end {vs : List Nat} {es : List Ed} {i a : Nat} {f : Bool} (h : i < es.length) (h2 : numE (es.getD i ez).1 a f = 0) (h3 : ¬ (es.getD i ez).2.1 = (es.getD i ez).2.2) (h4 : ixA (es.getD i ez).2.1 vs 0 < 0 ∨ ixA (es.getD i ez).2.2 vs 0 < 0) : gE vs (es.drop i) a f = 21 := by
 rw [drop_at ez h,gE,if_neg (fun h9 => h9 h2),if_neg h3,if_neg (fun h9 => by have a1 := (ixA_mem _ _ 0).1 h9.1; have a2 := (ixA_mem _ _ 0).1 h9.2; omega)]
theorem gE_go {vs : List Nat} {es : List Ed} {i a : Nat} {f : Bool} (h : i < es.length) (h2 : numE (es.getD i ez).1 a f = 0) (h3 : ¬ (es.getD i ez).2.1 = (es.getD i ez).2.2) (h4 : ¬ ixA (es.getD i ez).2.1 vs 0 < 0 ∧ ¬ ixA (es.getD i ez).2.2 vs 0 < 0) : gE vs (es.drop i) a f = gE vs (es.drop (i + 1)) (es.getD i ez).1 false := by
 rw [drop_at ez h,gE,if_neg (fun h9 => h9 h2),if_neg h3,if_pos ⟨(ixA_mem _ _ 0).2 om,(ixA_mem _ _ 0).2 om⟩]
theorem numE_rg (n a : Nat) (f : Bool) : 0 ≤ numE n a f ∧ numE n a f ≤ 19 := by
 unfold numE; split
 ·decide
 ·split <;> decide
theorem numE_2 {n a : Nat} {f : Bool} (h : n < 1 ∨ n > 1048576) : numE n a f = 2 := if_pos h
theorem numE_19 {n a : Nat} {f : Bool} (h : ¬ (n < 1 ∨ n > 1048576)) (h2 : f = false ∧ n ≤ a) : numE n a f = 19 := (if_neg h).trans (if_pos h2)
theorem numE_0 {n a : Nat} {f : Bool} (h : ¬ (n < 1 ∨ n > 1048576)) (h2 : ¬ (f = false ∧ n ≤ a)) : numE n a f = 0 := (if_neg h).trans (if_neg h2)
def EdS (es : List Ed) : Prop := ∀ x ∈ es,x.1 ≤ 1048576
theorem endsF_go {es : List Ed} {i v : Nat} (h : i < es.length) : endsF (es.take (i + 1)) v = endsF (es.take i) v ++ ((if (es.getD i ez).2.1 = v then [2 * (es.getD i ez).1] else []) ++ (if (es.getD i ez).2.2 = v then [2 * (es.getD i ez).1 + 1] else [])) := by
 unfold endsF
 rw [List.take_succ_eq_append_getElem h,List.flatMap_append,List.flatMap_cons,List.flatMap_nil,List.append_nil,getD_at h]
set_option maxRecDepth 100000 in
theorem dOf (n s : Nat) (w : World) (he : n ≤ 1048576) (hs : s < 2) :
  Calls Tryz.prog 80 #[.int .u32 (n : Int),.int .i64 (s : Int)] w fun e w' => e = .returned (.int .u32 ((2 * n + s : Nat) : Int)) ∧ Ext [] w w' := by
 have h1 : ((s : Int).toNat &&& 1) = s := by
  rw [Int.toNat_natCast]
  have := Nat.and_two_pow_sub_one_eq_mod s 1
  simp only [Nat.pow_one] at this
  have h9 : s &&& 1 = s % 2 := this
  omega
 refine enter [] [] [] Tryz.func80 rfl kr (HP.start w) ?_
 refine Rq [0,1] ?_
 refine Rg [4] [] (fun _ => [(0 ≤ (1 : Int) ∧ 1 ≤ 32),((0 ≤ (s : Int) ∧ (s : Int) ≤ 9223372036854775807) ∧ 0 ≤ (1 : Int) ∧ (1 : Int) ≤ 9223372036854775807),((0 ≤ (((n : Int) * 2) % 4294967296) ∧ (((n : Int) * 2) % 4294967296) ≤ 4294967295) ∧ 0 ≤ (((s &&& 1 : Nat) : Int) % 4294967296) ∧ (((s &&& 1 : Nat) : Int) % 4294967296) ≤ 4294967295)]) ⟨om,om,om,trivial⟩ ?_
 refine Cfg.ret rfl (rs := [.tmp 4]) rfl [uN (((((n : Int) * 2) % 4294967296)).toNat ||| ((((s &&& 1 : Nat) : Int) % 4294967296)).toNat)] ⟨kr,trivial⟩ (fun w1 hp => ?_)
 refine ⟨?_,hp.ext⟩
 have h9 := shl_or (e := n) hs
 have h1 : s &&& 1 = s := h1
 have e1 : ((n : Int) * 2 % 4294967296).toNat = 2 * n := by omega
 have e2 : (((s &&& 1 : Nat) : Int) % 4294967296).toNat = s := by rw [h1]; omega
 show Ending.returned (Value.int .u32 ((((n : Int) * 2 % 4294967296).toNat ||| (((s &&& 1 : Nat) : Int) % 4294967296).toNat : Nat) : Int)) = _
 rw [e1,e2,h9]
set_option maxRecDepth 100000 in
theorem dTwin (d : Nat) (w : World) (hd : d < 4294967296) :
  Calls Tryz.prog 79 #[.int .u32 (d : Int)] w fun e w' => e = .returned (.int .u32 (twin d : Int)) ∧ Ext [] w w' := by
 refine enter [] [] [] Tryz.func79 rfl kr (HP.start w) ?_
 refine Rq [0] ?_
 refine Rg [2] [] (fun _ => [((0 ≤ (d : Int) ∧ (d : Int) ≤ 4294967295) ∧ 0 ≤ (1 : Int) ∧ (1 : Int) ≤ 4294967295)]) ⟨om,trivial⟩ ?_
 refine Cfg.ret rfl (rs := [.tmp 2]) rfl [uN (d ^^^ 1)] ⟨kr,trivial⟩ (fun w1 hp => ?_)
 exact ⟨congrArg (fun (x : Nat) => Ending.returned (Value.int .u32 (x : Int))) (xor_one d),hp.ext⟩
set_option maxRecDepth 100000 in
set_option maxHeartbeats 4000000 in
theorem gIdx (la : Option Addr) (c : Nat) (xs : List Nat) (v : Nat) (Rl : List (Nat × Obj)) (w : World) (hI : InF u32c 1 Rl la xs) (hR : Has w Rl) (hn : xs.length ≤ 1000000) :
  Calls Tryz.prog 91 #[.slice la xs.length c,.int .u32 (v : Int)] w fun e w' => e = .returned (.int .i64 (ixA v xs 0)) ∧ Ext [] w w' := by
 refine enter [] Rl [] Tryz.func91 rfl kr (HP.ofHas hR) ?_
 refine Rq [0,1] ?_
 refine Rq [0,1,7,8] ?_
 refine Cfg.loop rfl (ι := Nat) (fun (i : Nat) => [(8,[],iN i),(7,[],iN xs.length),(0,[],.slice la xs.length c),(1,[],uN v)]) (fun (i : Nat) => []) (fun (i : Nat) => (i ≤ xs.length) ∧ (ixA v (xs.drop i) i = ixA v xs 0)) (fun (i : Nat) => xs.length - i) 0 ?_ (Conv.mk kr) .slnil ?_
 ·exact ⟨Nat.zero_le _,rfl⟩
 ·rintro i ⟨hi,hra⟩
  refine Rq [0,1,7,8,9] ?_
  refine Cfg.cond rfl (b := (decide ((i : Int) < (xs.length : Int)))) kr (fun c1r => ?_) (fun c1r => ?_)
  ·have c1 := (dT c1r)
   refine Rq [0,1,5,7,8] ?_
   obtain ⟨sa,offa,csa,tea,frea,rfl,hma,hca⟩ := hI om
   refine Conv.cfg (Γ' := [(5,[],iN i),(8,[],iN i),(7,[],iN xs.length),(0,[],.slice (some ⟨sa,offa,none⟩) xs.length c),(1,[],uN v)]) (Conv.mk kr) ?_
   refine Rg [0,1,5,7,8,16] [dZ,dZ,dZ,dZ,(dS (uN (xs.getD i 0)))] (fun S => [(0 ≤ (i : Int) ∧ (i : Int) < (xs.length : Int)),(cE S sa (addO offa i) (uN (xs.getD i 0)))]) ⟨om,(fun w1 h => by rw [addO_eq]; exact (cell_cells (h.ro _ hma)).trans (fl_one (g := fun n : Nat => uN n) 0 hca om)),trivial⟩ ?_
   refine Cfg.cond rfl (b := ((v : Int) == ((xs.getD i 0) : Int))) kr (fun c2r => ?_) (fun c2r => ?_)
   ·have c2 := (beq_iff_eq.1 c2r)
    refine Rq [4] ?_
    refine Cfg.ret rfl (rs := [.tmp 4]) rfl [iN i] ⟨kr,trivial⟩ (fun w1 hp => ?_)
    have hfin : ixA v xs 0 = i := hra.symm.trans (ixA_at om om)
    rw [hfin]
    exact ⟨rfl,hp.ext⟩
   ·have c2 := (beq_eq_false_iff_ne.1 c2r)
    refine Rg [0,1,7,8] [] (fun _ => [(i6 ((i : Int) + 1))]) ⟨om,trivial⟩ ?_
    refine Cfg.again rfl (i + 1) ⟨by omega,(ixA_go om om).symm.trans hra⟩ (by show xs.length - (i + 1) < xs.length - i; omega) (Conv.mk kr) .slnil
  ·have c1 := (dF c1r)
   refine Cfg.reg rfl [4] [] (Γ' := [(4,[],.int .i64 (-1))]) (nd := (fun _ => [])) (fun _ => kr) trivial ?_
   refine Cfg.ret rfl (rs := [.tmp 4]) rfl [.int .i64 (-1)] ⟨kr,trivial⟩ (fun w1 hp => ?_)
   have hfin : ixA v xs 0 = -1 := by rw [← hra,List.drop_eq_nil_of_le om]; rfl
   rw [hfin]
   exact ⟨rfl,hp.ext⟩
set_option maxRecDepth 100000 in
theorem gNum (n a : Nat) (f : Bool) (w : World) :
  Calls Tryz.prog 97 #[.int .u32 (n : Int),.int .u32 (a : Int),.bool f] w fun e w' => e = .returned (.int .i64 (numE n a f)) ∧ Ext [] w w' := by
 refine enter [] [] [] Tryz.func97 rfl kr (HP.start w) ?_
 refine Rq [0,1,2] ?_
 refine Rq [0,1,2,7] ?_
 refine Cfg.cond rfl (b := ((decide ((n : Int) < (1 : Int))) || (decide ((n : Int) > (1048576 : Int))))) kr (fun c1r => ?_) (fun c1r => ?_)
 ·have c1 : (((n : Int) < (1 : Int)) ∨ ((n : Int) > (1048576 : Int))) := ((orT c1r).elim (fun h => Or.inl (dT h)) (fun h => Or.inr (dT h)))
  refine Rq [6] ?_
  refine Cfg.ret rfl (rs := [.tmp 6]) rfl [.int .i64 2] ⟨kr,trivial⟩ (fun w1 hp => ?_)
  have hfin : numE n a f = 2 := numE_2 om
  rw [hfin]
  exact ⟨rfl,hp.ext⟩
 ·have c1 : ((¬ ((n : Int) < (1 : Int))) ∧ (¬ ((n : Int) > (1048576 : Int)))) := ⟨(dF (orF1 c1r)),(dF (orF2 c1r))⟩
  refine Rq [14] ?_
  refine Cfg.cond rfl (b := ((!f) && (decide ((n : Int) ≤ (a : Int))))) kr (fun c2r => ?_) (fun c2r => ?_)
  ·have c2 : ((f = false) ∧ ((n : Int) ≤ (a : Int))) := ⟨(notT (andT1 c2r)),(dT (andT2 c2r))⟩
   refine Rq [6] ?_
   refine Cfg.ret rfl (rs := [.tmp 6]) rfl [.int .i64 19] ⟨kr,trivial⟩ (fun w1 hp => ?_)
   have hfin : numE n a f = 19 := numE_19 om (by simp only [Bool.and_eq_true,Bool.not_eq_eq_eq_not,Bool.not_true] at *; first | exact ⟨by simpa using c2.1,by omega⟩ | omega)
   rw [hfin]
   exact ⟨rfl,hp.ext⟩
  ·have c2 : ((f = true) ∨ (¬ ((n : Int) ≤ (a : Int)))) := ((andF c2r).elim (fun h => Or.inl (notF h)) (fun h => Or.inr (dF h)))
   refine Rq [6] ?_
   refine Cfg.ret rfl (rs := [.tmp 6]) rfl [.int .i64 0] ⟨kr,trivial⟩ (fun w1 hp => ?_)
   have hfin : numE n a f = 0 := numE_0 om (fun h9 => by have h8 := h9.1; have h7 := h9.2; subst h8; first | (rcases c2 with h6 | h6; exact absurd h6 (by decide); omega) | omega)
   rw [hfin]
   exact ⟨rfl,hp.ext⟩
set_option maxRecDepth 100000 in
set_option maxHeartbeats 4000000 in
theorem gVert (m : MM) (v : Nat) (Rl : List (Nat × Obj)) (w : World) (hM : InM Rl m) (hR : Has w Rl) (hl : m.vs.length ≤ 64) :
  Calls Tryz.prog 98 #[.agg (gc m).toArray,.int .u32 (v : Int)] w fun e w' => e = .returned (.int .i64 (ixA v m.vs 0)) ∧ Ext [] w w' := by
 refine enter [] Rl [] Tryz.func98 rfl kr (HP.ofHas hR) ?_
 refine Cfg.begL rfl ?_
 refine Le (Eff.box (v := .agg (gc m).toArray) rfl kr) ?_
 rintro gb ⟨hgb,ngb⟩
 refine Ld 1 [1,2] ?_
 refine Cfg.begL rfl ?_
 refine Lp 3 [dZ,(dS (.slice m.va m.vs.length m.vc))] (some [6,7]) (fun S => [(cE S gb 0 (.slice m.va m.vs.length m.vc))]) ⟨(fun w1 h => h.ocell 0 rfl (by rw [List.getElem?_toArray]; exact rfl)),trivial⟩ ?_
 refine Lu (Eff.callA (.int .i64 (ixA v m.vs 0)) rfl Tryz.func91 rfl rfl kr (fun w1 h => gIdx m.va m.vc m.vs v Rl w1 hM.v (h.hasR (fun e he => he)) om)) ?_
 refine Ld 1 [4] ?_
 refine Cfg.ret rfl (rs := [.tmp 4]) rfl [.int .i64 (ixA v m.vs 0)] ⟨kr,trivial⟩ (fun w1 hp => ?_)
 exact ⟨rfl,hp.ext⟩
set_option maxRecDepth 100000 in
set_option maxHeartbeats 4000000 in
theorem gCheck (m : MM) (Rl : List (Nat × Obj)) (w : World) (hM : InM Rl m) (hR : Has w Rl) :
  Calls Tryz.prog 84 #[.agg (gc m).toArray] w fun e w' => e = .returned (.int .i64 (graphF m.vs m.es)) ∧ Ext [] w w' := by
 have hmn := hM.n
 refine enter [] Rl [] Tryz.func84 rfl kr (HP.ofHas hR) ?_
 refine Cfg.begL rfl ?_
 refine Le (Eff.box (v := .agg (gc m).toArray) rfl kr) ?_
 rintro gb ⟨hgb,ngb⟩
 refine Ld 1 [1] ?_
 refine Rg [1,19] [dZ,(dS (.slice m.va m.vs.length m.vc)),dZ,dZ,dZ,dZ,(dS (.slice m.ea m.es.length m.ec))] (fun S => [(cE S gb 0 (.slice m.va m.vs.length m.vc)),((.bool (decide ((m.vs.length : Int) > (64 : Int))) : Value) = .bool false → (cE S gb 1 (.slice m.ea m.es.length m.ec)))]) ⟨(fun w1 h => h.ocell 0 rfl (by rw [List.getElem?_toArray]; exact rfl)),(fun g0 => have q0 : (¬ ((m.vs.length : Int) > (64 : Int))) := (dF (boolV g0)); (fun w1 h => h.ocell 0 rfl (by rw [List.getElem?_toArray]; exact rfl))),trivial⟩ ?_
 refine Cfg.cond rfl (b := ((decide ((m.vs.length : Int) > (64 : Int))) || (decide ((m.es.length : Int) > (160 : Int))))) kr (fun c1r => ?_) (fun c1r => ?_)
 ·have c1 : (((m.vs.length : Int) > (64 : Int)) ∨ ((m.es.length : Int) > (160 : Int))) := ((orT c1r).elim (fun h => Or.inl (dT h)) (fun h => Or.inr (dT h)))
  refine Rq [2] ?_
  refine Cfg.ret rfl (rs := [.tmp 2]) rfl [.int .i64 6] ⟨kr,trivial⟩ (fun w1 hp => ?_)
  have hfin : graphF m.vs m.es = (6 : Int) := if_pos om
  rw [hfin]
  exact ⟨rfl,hp.ext⟩
 ·have c1 : ((¬ ((m.vs.length : Int) > (64 : Int))) ∧ (¬ ((m.es.length : Int) > (160 : Int)))) := ⟨(dF (orF1 c1r)),(dF (orF2 c1r))⟩
  refine Rq [1,3] ?_
  refine Rg [1,3,21,22,23] [dZ,(dS (.slice m.va m.vs.length m.vc))] (fun S => [(cE S gb 0 (.slice m.va m.vs.length m.vc))]) ⟨(fun w1 h => h.ocell 0 rfl (by rw [List.getElem?_toArray]; exact rfl)),trivial⟩ ?_
  refine Cfg.loop rfl (ι := Nat × Nat) (fun (xz : Nat × Nat) => match xz with | (i,a) => [(23,[],iN i),(22,[],iN m.vs.length),(21,[],.slice m.va m.vs.length m.vc),(3,[],uN a),(1,[],pT gb)]) (fun (xz : Nat × Nat) => match xz with | (i,a) => [(gb,.cells ((gc m).toArray) 25 (0,0))]) (fun (xz : Nat × Nat) => match xz with | (i,a) => (i ≤ m.vs.length) ∧ (gV (m.vs.drop i) a ((i : Int) == (0 : Int)) = gV m.vs 0 true)) (fun (xz : Nat × Nat) => match xz with | (i,a) => m.vs.length - i) (0,0) ?_ (Conv.mk kr) (.cons_cons _ .slnil) ?_
  ·exact ⟨Nat.zero_le _,rfl⟩
  ·rintro ⟨i,a⟩ ⟨hi,hra⟩
   refine Rq [1,3,21,22,23,24] ?_
   refine Cfg.cond rfl (b := (decide ((i : Int) < (m.vs.length : Int)))) kr (fun c2r => ?_) (fun c2r => ?_)
   ·have c2 := (dT c2r)
    obtain ⟨sa1,offa1,csa1,tea1,frea1,hva1,hma1,hca1⟩ := hM.v om
    refine Cg (Γ' := [(24,[],.bool (decide ((i : Int) < (m.vs.length : Int)))),(23,[],iN i),(22,[],iN m.vs.length),(21,[],.slice m.va m.vs.length m.vc),(3,[],uN a),(1,[],pT gb)]) ?_
    refine Cfg.setG (Γ' := [(24,[],.bool (decide ((i : Int) < (m.vs.length : Int)))),(23,[],iN i),(22,[],iN m.vs.length),(21,[],.slice (some ⟨sa1,offa1,none⟩) m.vs.length m.vc),(3,[],uN a),(1,[],pT gb)]) (congrArg (fun (xq : Option Addr) => ([(24,[],.bool (decide ((i : Int) < (m.vs.length : Int)))),(23,[],iN i),(22,[],iN m.vs.length),(21,[],.slice xq m.vs.length m.vc),(3,[],uN a),(1,[],pT gb)] : Env)) hva1) ?_
    refine Rg [1,3,4,5,21,22,23] [dZ,dZ,(dS (uN (m.vs.getD i 0)))] (fun S => [(0 ≤ (i : Int) ∧ (i : Int) < (m.vs.length : Int)),(cE S sa1 (addO offa1 i) (uN (m.vs.getD i 0)))]) ⟨om,(fun w1 h => by rw [addO_eq]; exact (cell_cells (h.ro _ hma1)).trans (fl_one (g := fun n : Nat => uN n) 0 hca1 om)),trivial⟩ ?_
    refine Cfg.begL rfl ?_
    refine Lq 4 [1,5,21,22,23,28,29,31] ?_
    have hrg := numE_rg (((m.vs.getD i 0))) a ((i : Int) == (0 : Int))
    refine Lu (Eff.callA (.int .i64 (numE (((m.vs.getD i 0))) a ((i : Int) == (0 : Int)))) rfl Tryz.func97 rfl rfl kr (fun w1 _ => gNum (((m.vs.getD i 0))) a ((i : Int) == (0 : Int)) w1)) ?_
    refine Ld 1 [1,5,6,21,22,23] ?_
    refine Rq [1,5,6,21,22,23,34] ?_
    refine Cfg.cond rfl (b := ((numE (((m.vs.getD i 0))) a ((i : Int) == (0 : Int))) != (0 : Int))) kr (fun c3r => ?_) (fun c3r => ?_)
    ·have c3 := (bne_iff_ne.1 c3r)
     refine Rq [2] ?_
     refine Cfg.ret rfl (rs := [.tmp 2]) rfl [.int .i64 (numE (((m.vs.getD i 0))) a ((i : Int) == (0 : Int)))] ⟨kr,trivial⟩ (fun w1 hp => ?_)
     have hfin : graphF m.vs m.es = (numE (((m.vs.getD i 0))) a ((i : Int) == (0 : Int))) := (if_neg om).trans ((if_pos (by rw [← hra,gV_bad om om]; omega)).trans (hra.symm.trans (gV_bad om om)))
     rw [hfin]
     exact ⟨rfl,hp.ext⟩
    ·have c3 := (bne_eq_false_iff_eq.1 c3r)
     refine Rq [1,3,21,22,23] ?_
     refine Rg [1,3,21,22,23] [] (fun _ => [(i6 ((i : Int) + 1))]) ⟨om,trivial⟩ ?_
     refine Cfg.setS 21 (show .slice (some ⟨sa1,offa1,none⟩) m.vs.length m.vc = .slice m.va m.vs.length m.vc from congrArg (fun z => Value.slice z m.vs.length m.vc) hva1.symm) ?_
     refine Cfg.again rfl (i + 1,m.vs.getD i 0) ⟨by omega,by rw [show (((i + 1 : Nat) : Int) == (0 : Int)) = false from beq_eq_false_iff_ne.2 om]; exact (gV_go om om).symm.trans hra⟩ (by show m.vs.length - (i + 1) < m.vs.length - i; omega) (Conv.mk kr) (.cons_cons _ .slnil)
   ·have c2 := (dF c2r)
    have hv0 : gV m.vs 0 true = 0 := by rw [← hra,List.drop_eq_nil_of_le om]; rfl
    refine Rg [1,3,39,40,41] [dZ,(dS (.slice m.ea m.es.length m.ec))] (fun S => [(cE S gb 1 (.slice m.ea m.es.length m.ec))]) ⟨(fun w1 h => h.ocell 0 rfl (by rw [List.getElem?_toArray]; exact rfl)),trivial⟩ ?_
    refine Cfg.loop rfl (ι := Nat × Nat) (fun (xz : Nat × Nat) => match xz with | (k,a2) => [(41,[],iN k),(40,[],iN m.es.length),(39,[],.slice m.ea m.es.length m.ec),(3,[],uN a2),(1,[],pT gb)]) (fun (xz : Nat × Nat) => match xz with | (k,a2) => [(gb,.cells ((gc m).toArray) 25 (0,0))]) (fun (xz : Nat × Nat) => match xz with | (k,a2) => (k ≤ m.es.length) ∧ (gE m.vs (m.es.drop k) a2 ((k : Int) == (0 : Int)) = gE m.vs m.es 0 true)) (fun (xz : Nat × Nat) => match xz with | (k,a2) => m.es.length - k) (0,a) ?_ (Conv.mk kr) (.cons_cons _ .slnil) ?_
    ·exact ⟨Nat.zero_le _,gE_first ..⟩
    ·rintro ⟨k,a2⟩ ⟨hk,hrb⟩
     refine Rq [1,3,39,40,41,42] ?_
     refine Cfg.cond rfl (b := (decide ((k : Int) < (m.es.length : Int)))) kr (fun c4r => ?_) (fun c4r => ?_)
     ·have c4 := (dT c4r)
      obtain ⟨sb2,offb2,csb2,teb2,freb2,hvb2,hmb2,hcb2⟩ := hM.e om
      refine Cg (Γ' := [(42,[],.bool (decide ((k : Int) < (m.es.length : Int)))),(41,[],iN k),(40,[],iN m.es.length),(39,[],.slice m.ea m.es.length m.ec),(3,[],uN a2),(1,[],pT gb)]) ?_
      refine Cfg.setG (Γ' := [(42,[],.bool (decide ((k : Int) < (m.es.length : Int)))),(41,[],iN k),(40,[],iN m.es.length),(39,[],.slice (some ⟨sb2,offb2,none⟩) m.es.length m.ec),(3,[],uN a2),(1,[],pT gb)]) (congrArg (fun (xq : Option Addr) => ([(42,[],.bool (decide ((k : Int) < (m.es.length : Int)))),(41,[],iN k),(40,[],iN m.es.length),(39,[],.slice xq m.es.length m.ec),(3,[],uN a2),(1,[],pT gb)] : Env)) hvb2) ?_
      refine Cfg.begL rfl ?_
      refine Lp 3 [dZ,dZ,(dS (.agg (edc (m.es.getD k ez)).toArray))] (some [1,3,39,40,41,43,45]) (fun S => [(0 ≤ (k : Int) ∧ (k : Int) < (m.es.length : Int)),(∀ w1,S w1 → (loadVar 76 ⟨sb2,(addO offb2 (k * 3)),none⟩).run Tryz.prog w1 = .ok (.agg (edc (m.es.getD k ez)).toArray) w1)]) ⟨om,(fun w1 h => load_list Tryz.underlying76 rfl kr (edc_len _) (fun j v hj => by rw [addO_eq]; exact (cell_cells (h.ro _ hmb2)).trans (fl_cell ez (fun x _ => edc_len x) hcb2 om hj))),trivial⟩ ?_
      refine Le (Eff.alloc (z := (.agg #[.int .u32 0,.int .u32 0,.int .u32 0])) rfl kr) ?_
      rintro eb ⟨heb,neb⟩
      refine Lq 1 [1,3,7,8,39,40,41,45] ?_
      refine Lu (Eff.storeN (b := eb) (off := 0) (vs := (edc (m.es.getD k ez)).toArray) (n := 3) rfl kr kr kr rfl (one_edc _) 0 (cs := #[.int .u32 0,.int .u32 0,.int .u32 0]) (e := 76) kr (by decide)) ?_
      refine oL 0 rfl (show _ = #[.int .u32 ((m.es.getD k ez).1 : Int),.int .u32 ((m.es.getD k ez).2.1 : Int),.int .u32 ((m.es.getD k ez).2.2 : Int)] from rfl) ?_
      refine CfgL.done rfl ?_
      refine Cg (Γ' := [(7,[],iN k),(8,[],pT eb),(41,[],iN k),(40,[],iN m.es.length),(39,[],.slice (some ⟨sb2,offb2,none⟩) m.es.length m.ec),(3,[],uN a2),(1,[],pT gb)]) ?_
      refine Cfg.begL rfl ?_
      refine Lp 5 [dZ,(dS (.int .u32 ((m.es.getD k ez).1 : Int)))] (some [1,8,39,40,41,47,48,50]) (fun S => [(cE S eb 0 (.int .u32 ((m.es.getD k ez).1 : Int)))]) ⟨(oC 0 rfl rfl),trivial⟩ ?_
      have hrg := numE_rg (((m.es.getD k ez).1)) a2 ((k : Int) == (0 : Int))
      refine Lu (Eff.callA (.int .i64 (numE (((m.es.getD k ez).1)) a2 ((k : Int) == (0 : Int)))) rfl Tryz.func97 rfl rfl kr (fun w1 _ => gNum (((m.es.getD k ez).1)) a2 ((k : Int) == (0 : Int)) w1)) ?_
      refine Ld 1 [1,8,9,39,40,41] ?_
      refine Rq [1,8,9,39,40,41,53] ?_
      refine Cfg.cond rfl (b := ((numE (((m.es.getD k ez).1)) a2 ((k : Int) == (0 : Int))) != (0 : Int))) kr (fun c5r => ?_) (fun c5r => ?_)
      ·have c5 := (bne_iff_ne.1 c5r)
       refine Rq [2] ?_
       refine Cfg.ret rfl (rs := [.tmp 2]) rfl [.int .i64 (numE (((m.es.getD k ez).1)) a2 ((k : Int) == (0 : Int)))] ⟨kr,trivial⟩ (fun w1 hp => ?_)
       have hfin : graphF m.vs m.es = (numE (((m.es.getD k ez).1)) a2 ((k : Int) == (0 : Int))) := (if_neg om).trans ((if_neg (fun h9 => h9 hv0)).trans (hrb.symm.trans (gE_bad om om)))
       rw [hfin]
       exact ⟨rfl,hp.ext⟩
      ·have c5 := (bne_eq_false_iff_eq.1 c5r)
       refine Rg [1,3,8,39,40,41] [dZ,(dS (.int .u32 ((m.es.getD k ez).1 : Int)))] (fun S => [(cE S eb 0 (.int .u32 ((m.es.getD k ez).1 : Int)))]) ⟨(oC 0 rfl rfl),trivial⟩ ?_
       refine Rg [1,3,8,39,40,41,61] [dZ,(dS (.int .u32 ((m.es.getD k ez).2.1 : Int))),dZ,(dS (.int .u32 ((m.es.getD k ez).2.2 : Int)))] (fun S => [(cE S eb 1 (.int .u32 ((m.es.getD k ez).2.1 : Int))),(cE S eb 2 (.int .u32 ((m.es.getD k ez).2.2 : Int)))]) ⟨(oC 0 rfl rfl),(oC 0 rfl rfl),trivial⟩ ?_
       refine Cfg.cond rfl (b := (((m.es.getD k ez).2.1 : Int) == ((m.es.getD k ez).2.2 : Int))) kr (fun c6r => ?_) (fun c6r => ?_)
       ·have c6 := (beq_iff_eq.1 c6r)
        refine Rq [2] ?_
        refine Cfg.ret rfl (rs := [.tmp 2]) rfl [.int .i64 20] ⟨kr,trivial⟩ (fun w1 hp => ?_)
        have hfin : graphF m.vs m.es = (20 : Int) := (if_neg om).trans ((if_neg (fun h9 => h9 hv0)).trans (hrb.symm.trans (gE_loop om om om)))
        rw [hfin]
        exact ⟨rfl,hp.ext⟩
       ·have c6 := (beq_eq_false_iff_ne.1 c6r)
        refine Cfg.begL rfl ?_
        refine CfgL.pure 3 [(dS (.agg (gc m).toArray)),dZ,(dS (.int .u32 ((m.es.getD k ez).2.1 : Int)))] (some [1,3,8,39,40,41,62,64]) (Γ' := [(64,[],.int .u32 ((m.es.getD k ez).2.1 : Int)),(62,[],.agg (gc m).toArray),(3,[],.int .u32 ((m.es.getD k ez).1 : Int)),(8,[],pT eb),(41,[],iN k),(40,[],iN m.es.length),(39,[],.slice (some ⟨sb2,offb2,none⟩) m.es.length m.ec),(1,[],pT gb)]) (nd := (fun S => [(∀ w1,S w1 → (loadVar 25 ⟨gb,0,none⟩).run Tryz.prog w1 = .ok (.agg (gc m).toArray) w1),(cE S eb 1 (.int .u32 ((m.es.getD k ez).2.1 : Int)))])) kr (fun _ => kr) ⟨(fun w1 h => load_list Tryz.underlying25 rfl kr rfl (fun j v hj => h.ocell 1 rfl (by rw [List.getElem?_toArray]; exact (fun j v hj => by rw [Nat.zero_add]; exact hj) j v hj))),(oC 0 rfl rfl),trivial⟩ ?_
        refine Lu (Eff.callA (.int .i64 (ixA (((m.es.getD k ez).2.1)) m.vs 0)) rfl Tryz.func98 rfl rfl kr (fun w1 h => gVert m (((m.es.getD k ez).2.1)) Rl w1 hM (h.hasR (fun e he => he)) om)) ?_
        refine Lq 2 [1,3,8,39,40,41,67] ?_
        by_cases c7 : (decide ((ixA (((m.es.getD k ez).2.1)) m.vs 0) < (0 : Int))) = true
        ·have c7k : (decide ((ixA (((m.es.getD k ez).2.1)) m.vs 0) < (0 : Int))) = true := c7
         have c7q := (dT c7k)
         refine CfgL.known 67 (b := (decide ((ixA (((m.es.getD k ez).2.1)) m.vs 0) < (0 : Int)))) kr true c7k ?_
         refine Lp 6 [(2,false,none),(2,false,none),(2,false,none),(2,false,none),(2,false,none)] (some [1,3,39,40,41,73]) (fun _ => [((.bool true : Value) ≠ .bool false),((.bool true : Value) ≠ .bool false),((.bool true : Value) ≠ .bool false),((.bool true : Value) ≠ .bool false),((.bool true : Value) ≠ .bool false)]) ⟨(by simp),(by simp),(by simp),(by simp),(by simp),trivial⟩ ?_
         refine CfgL.done rfl ?_
         refine Cfg.condT rfl (b := true) kr rfl ?_
         refine Rq [2] ?_
         refine Cfg.ret rfl (rs := [.tmp 2]) rfl [.int .i64 21] ⟨kr,trivial⟩ (fun w1 hp => ?_)
         have hfin : graphF m.vs m.es = (21 : Int) := (if_neg om).trans ((if_neg (fun h9 => h9 hv0)).trans (hrb.symm.trans (gE_end om om om om)))
         rw [hfin]
         exact ⟨rfl,hp.ext⟩
        ·have c7k : (decide ((ixA (((m.es.getD k ez).2.1)) m.vs 0) < (0 : Int))) = false := (by simpa using c7)
         have c7q := (dF c7k)
         refine CfgL.known 67 (b := (decide ((ixA (((m.es.getD k ez).2.1)) m.vs 0) < (0 : Int)))) kr false c7k ?_
         refine Lp 3 [(1,false,some (.agg (gc m).toArray)),(1,false,none),(1,false,some (.int .u32 ((m.es.getD k ez).2.2 : Int)))] (some [1,3,39,40,41,67,68,70]) (fun S => [((.bool false : Value) = .bool false),(∀ w1,S w1 → (loadVar 25 ⟨gb,0,none⟩).run Tryz.prog w1 = .ok (.agg (gc m).toArray) w1),((.bool false : Value) = .bool false),((.bool false : Value) = .bool false),(cE S eb 2 (.int .u32 ((m.es.getD k ez).2.2 : Int)))]) ⟨rfl,(fun w1 h => load_list Tryz.underlying25 rfl kr rfl (fun j v hj => h.ocell 1 rfl (by rw [List.getElem?_toArray]; exact (fun j v hj => by rw [Nat.zero_add]; exact hj) j v hj))),rfl,rfl,(oC 0 rfl rfl),trivial⟩ ?_
         refine Lu (Eff.callA (.int .i64 (ixA (((m.es.getD k ez).2.2)) m.vs 0)) rfl Tryz.func98 rfl rfl kr (fun w1 h => gVert m (((m.es.getD k ez).2.2)) Rl w1 hM (h.hasR (fun e he => he)) om)) ?_
         refine Lp 2 [(1,false,none)] (some [1,3,39,40,41,73]) (fun _ => [((.bool false : Value) = .bool false)]) ⟨rfl,trivial⟩ ?_
         refine CfgL.done rfl ?_
         refine Cfg.cond rfl (b := (decide ((ixA (((m.es.getD k ez).2.2)) m.vs 0) < (0 : Int)))) kr (fun c9r => ?_) (fun c9r => ?_)
         ·have c9 := (dT c9r)
          refine Rq [2] ?_
          refine Cfg.ret rfl (rs := [.tmp 2]) rfl [.int .i64 21] ⟨kr,trivial⟩ (fun w1 hp => ?_)
          have hfin : graphF m.vs m.es = (21 : Int) := (if_neg om).trans ((if_neg (fun h9 => h9 hv0)).trans (hrb.symm.trans (gE_end om om om om)))
          rw [hfin]
          exact ⟨rfl,hp.ext⟩
         ·have c9 := (dF c9r)
          refine Rg [1,3,39,40,41] [] (fun _ => [(i6 ((k : Int) + 1))]) ⟨om,trivial⟩ ?_
          refine Cfg.setS 39 (show .slice (some ⟨sb2,offb2,none⟩) m.es.length m.ec = .slice m.ea m.es.length m.ec from congrArg (fun z => Value.slice z m.es.length m.ec) hvb2.symm) ?_
          refine Cfg.again rfl (k + 1,(m.es.getD k ez).1) ⟨by omega,by rw [show (((k + 1 : Nat) : Int) == (0 : Int)) = false from beq_eq_false_iff_ne.2 om]; exact (gE_go om om om ⟨by omega,by omega⟩).symm.trans hrb⟩ (by show m.es.length - (k + 1) < m.es.length - k; omega) (Conv.mk kr) (.cons _ (.cons_cons _ .slnil))
     ·have c4 := (dF c4r)
      refine Rq [2] ?_
      refine Cfg.ret rfl (rs := [.tmp 2]) rfl [.int .i64 0] ⟨kr,trivial⟩ (fun w1 hp => ?_)
      have hfin : graphF m.vs m.es = (0 : Int) := (if_neg om).trans ((if_neg (fun h9 => h9 hv0)).trans (by rw [← hrb,List.drop_eq_nil_of_le om]; rfl))
      rw [hfin]
      exact ⟨rfl,hp.ext⟩
set_option maxRecDepth 100000 in
set_option maxHeartbeats 4000000 in
theorem gEnds (m : MM) (v : Nat) (Rl : List (Nat × Obj)) (w : World) (hM : InM Rl m) (hR : Has w Rl) (hl : m.es.length ≤ 160) (hs : EdS m.es) :
  Calls Tryz.prog 85 #[.agg (gc m).toArray,.int .u32 (v : Int)] w fun e w' => ∃ o : K.Own,OwnOk o 1 (endsF m.es v).length ((endsF m.es v).flatMap u32c) ∧ e = .returned (.slice o.a (endsF m.es v).length o.c) ∧ Has w' (o.o 73 ((endsF m.es v).flatMap u32c)) ∧ (∀ x ∈ o.o 73 ((endsF m.es v).flatMap u32c),w.heap.size ≤ x.1) ∧ Ext [] w w' := by
 refine enter [] Rl [] Tryz.func85 rfl kr (HP.ofHas hR) ?_
 refine Cfg.begL rfl ?_
 refine Le (Eff.box (v := .agg (gc m).toArray) rfl kr) ?_
 rintro gb ⟨hgb,ngb⟩
 refine Ld 1 [1,2] ?_
 refine Rq [1,2,5] ?_
 refine Rg [1,5,9,10,11] [dZ,(dS (.slice m.ea m.es.length m.ec))] (fun S => [(cE S gb 1 (.slice m.ea m.es.length m.ec))]) ⟨(fun w1 h => h.ocell 0 rfl (by rw [List.getElem?_toArray]; exact rfl)),trivial⟩ ?_
 refine Cfg.loop rfl (ι := Nat × K.Own) (fun (xz : Nat × K.Own) => match xz with | (i,oo) => [(11,[],iN i),(10,[],iN m.es.length),(9,[],.slice m.ea m.es.length m.ec),(5,[],.slice (Own.a oo) ((endsF (m.es.take i) v).length) (Own.c oo)),(1,[],uN v)]) (fun (xz : Nat × K.Own) => match xz with | (i,oo) => ([(gb,.cells ((gc m).toArray) 25 (0,0))] ++ (Own.o 73 ((endsF (m.es.take i) v).flatMap u32c) oo ++ []))) (fun (xz : Nat × K.Own) => match xz with | (i,oo) => (i ≤ m.es.length) ∧ ((endsF (m.es.take i) v).length ≤ 2 * i) ∧ (OwnOk oo 1 (endsF (m.es.take i) v).length ((endsF (m.es.take i) v).flatMap u32c))) (fun (xz : Nat × K.Own) => match xz with | (i,oo) => m.es.length - i) (0,none) ?_ (Conv.mk kr) slr ?_
 ·exact ⟨Nat.zero_le _,Nat.le_refl _,OwnOk.none _⟩
 ·rintro ⟨i,oo⟩ ⟨hi,hll,hoo⟩
  refine Rq [1,5,9,10,11,12] ?_
  refine Cfg.cond rfl (b := (decide ((i : Int) < (m.es.length : Int)))) kr (fun c1r => ?_) (fun c1r => ?_)
  ·have c1 := (dT c1r)
   obtain ⟨sb1,offb1,csb1,teb1,freb1,hvb1,hmb1,hcb1⟩ := hM.e om
   refine Cg (Γ' := [(12,[],.bool (decide ((i : Int) < (m.es.length : Int)))),(11,[],iN i),(10,[],iN m.es.length),(9,[],.slice m.ea m.es.length m.ec),(5,[],.slice (Own.a oo) ((endsF (m.es.take i) v).length) (Own.c oo)),(1,[],uN v)]) ?_
   refine Cfg.setG (Γ' := [(12,[],.bool (decide ((i : Int) < (m.es.length : Int)))),(11,[],iN i),(10,[],iN m.es.length),(9,[],.slice (some ⟨sb1,offb1,none⟩) m.es.length m.ec),(5,[],.slice (Own.a oo) ((endsF (m.es.take i) v).length) (Own.c oo)),(1,[],uN v)]) (congrArg (fun (xq : Option Addr) => ([(12,[],.bool (decide ((i : Int) < (m.es.length : Int)))),(11,[],iN i),(10,[],iN m.es.length),(9,[],.slice xq m.es.length m.ec),(5,[],.slice (Own.a oo) ((endsF (m.es.take i) v).length) (Own.c oo)),(1,[],uN v)] : Env)) hvb1) ?_
   refine Cfg.begL rfl ?_
   refine Lp 2 [dZ,(dS (.agg (edc (m.es.getD i ez)).toArray))] (some [1,5,9,10,11,14]) (fun S => [(0 ≤ (i : Int) ∧ (i : Int) < (m.es.length : Int)),(∀ w1,S w1 → (loadVar 76 ⟨sb1,(addO offb1 (i * 3)),none⟩).run Tryz.prog w1 = .ok (.agg (edc (m.es.getD i ez)).toArray) w1)]) ⟨om,(fun w1 h => load_list Tryz.underlying76 rfl kr (edc_len _) (fun j v hj => by rw [addO_eq]; exact (cell_cells (h.ro _ hmb1)).trans (fl_cell ez (fun x _ => edc_len x) hcb1 om hj))),trivial⟩ ?_
   refine Le (Eff.alloc (z := (.agg #[.int .u32 0,.int .u32 0,.int .u32 0])) rfl kr) ?_
   rintro eb ⟨heb,neb⟩
   refine Lu (Eff.storeN (b := eb) (off := 0) (vs := (edc (m.es.getD i ez)).toArray) (n := 3) rfl kr kr kr rfl (one_edc _) 0 (cs := #[.int .u32 0,.int .u32 0,.int .u32 0]) (e := 76) kr (by decide)) ?_
   refine CfgL.setO (congrArg (fun (xq : Array Value) => (([(eb,.cells xq 76 (0,0)),(gb,.cells ((gc m).toArray) 25 (0,0))] ++ (Own.o 73 ((endsF (m.es.take i) v).flatMap u32c) oo ++ [])) : LO)) (show _ = #[.int .u32 ((m.es.getD i ez).1 : Int),.int .u32 ((m.es.getD i ez).2.1 : Int),.int .u32 ((m.es.getD i ez).2.2 : Int)] from rfl)) ?_
   refine CfgL.done rfl ?_
   refine Cg (Γ' := [(7,[],pT eb),(11,[],iN i),(10,[],iN m.es.length),(9,[],.slice (some ⟨sb1,offb1,none⟩) m.es.length m.ec),(5,[],.slice (Own.a oo) ((endsF (m.es.take i) v).length) (Own.c oo)),(1,[],uN v)]) ?_
   refine Rg [1,5,7,9,10,11,18] [dZ,(dS (.int .u32 ((m.es.getD i ez).2.1 : Int)))] (fun S => [(cE S eb 1 (.int .u32 ((m.es.getD i ez).2.1 : Int)))]) ⟨(oC 0 rfl rfl),trivial⟩ ?_
   refine Cfg.cond rfl (b := (((m.es.getD i ez).2.1 : Int) == (v : Int))) kr (fun c2r => ?_) (fun c2r => ?_)
   ·have c2 := (beq_iff_eq.1 c2r)
    refine Cfg.begL rfl ?_
    refine Lp 3 [dZ,dZ,(dS (.int .u32 ((m.es.getD i ez).1 : Int)))] (some [1,5,7,9,10,11,19,21]) (fun S => [(cE S eb 0 (.int .u32 ((m.es.getD i ez).1 : Int)))]) ⟨(oC 0 rfl rfl),trivial⟩ ?_
    refine Lu (Eff.callA (uN ((2 * (m.es.getD i ez).1 + 0))) rfl Tryz.func80 rfl rfl kr (fun w1 _ => dOf (m.es.getD i ez).1 0 w1 (hs _ (K.getD_mem om)) (by decide))) ?_
    refine Le (Eff.buildSlice (e := 73) (cells := #[uN ((2 * (m.es.getD i ez).1 + 0))]) (parts := #[(0,uN ((2 * (m.es.getD i ez).1 + 0)))]) rfl kr (fun _ => kr)) ?_
    rintro rb23 ⟨hrb23,nrb23⟩
    refine Le (Eff.appendF rfl 1 4 Tryz.underlying22 kr (z := (.int .u32 0)) kr kr oo (xs := ((endsF (m.es.take i) v).flatMap u32c)) hoo kr (b2 := rb23) (off2 := 0) (m := 1) (c2 := 1) kr ([uN ((2 * (m.es.getD i ez).1 + 0))]) rfl (by intro q hq; rw [List.mem_singleton.1 hq]; rfl) [(rb23,.cells #[uN ((2 * (m.es.getD i ez).1 + 0))] 73 (0,0)),(eb,.cells #[.int .u32 ((m.es.getD i ez).1 : Int),.int .u32 ((m.es.getD i ez).2.1 : Int),.int .u32 ((m.es.getD i ez).2.2 : Int)] 76 (0,0)),(gb,.cells ((gc m).toArray) 25 (0,0))] [] (by rfl) (fun w1 h j v hj => by rw [Nat.zero_add]; exact h.ocell 0 rfl (by rw [List.getElem?_toArray]; exact hj)) om om) ?_
    rintro o2 ko2
    refine Ld 1 [1,5,7,9,10,11] ?_
    refine Rg [1,5,7,9,10,11,28] [dZ,(dS (.int .u32 ((m.es.getD i ez).2.2 : Int)))] (fun S => [(cE S eb 2 (.int .u32 ((m.es.getD i ez).2.2 : Int)))]) ⟨(oC 1 rfl rfl),trivial⟩ ?_
    refine Cfg.cond rfl (b := (((m.es.getD i ez).2.2 : Int) == (v : Int))) kr (fun c3r => ?_) (fun c3r => ?_)
    ·have c3 := (beq_iff_eq.1 c3r)
     refine Cfg.begL rfl ?_
     refine Lp 3 [dZ,dZ,(dS (.int .u32 ((m.es.getD i ez).1 : Int)))] (some [1,5,9,10,11,29,31]) (fun S => [(cE S eb 0 (.int .u32 ((m.es.getD i ez).1 : Int)))]) ⟨(oC 1 rfl rfl),trivial⟩ ?_
     refine Lu (Eff.callA (uN ((2 * (m.es.getD i ez).1 + 1))) rfl Tryz.func80 rfl rfl kr (fun w1 _ => dOf (m.es.getD i ez).1 1 w1 (hs _ (K.getD_mem om)) (by decide))) ?_
     refine Le (Eff.buildSlice (e := 73) (cells := #[uN ((2 * (m.es.getD i ez).1 + 1))]) (parts := #[(0,uN ((2 * (m.es.getD i ez).1 + 1)))]) rfl kr (fun _ => kr)) ?_
     rintro rb33 ⟨hrb33,nrb33⟩
     refine Le (Eff.appendF rfl 1 4 Tryz.underlying22 kr (z := (.int .u32 0)) kr kr o2 (xs := (((endsF (m.es.take i) v).flatMap u32c) ++ [uN ((2 * (m.es.getD i ez).1 + 0))])) ko2 kr (b2 := rb33) (off2 := 0) (m := 1) (c2 := 1) kr ([uN ((2 * (m.es.getD i ez).1 + 1))]) rfl (by intro q hq; rw [List.mem_singleton.1 hq]; rfl) [(rb33,.cells #[uN ((2 * (m.es.getD i ez).1 + 1))] 73 (0,0)),(rb23,.cells #[uN ((2 * (m.es.getD i ez).1 + 0))] 73 (0,0)),(eb,.cells #[.int .u32 ((m.es.getD i ez).1 : Int),.int .u32 ((m.es.getD i ez).2.1 : Int),.int .u32 ((m.es.getD i ez).2.2 : Int)] 76 (0,0)),(gb,.cells ((gc m).toArray) 25 (0,0))] [] (by rfl) (fun w1 h j v hj => by rw [Nat.zero_add]; exact h.ocell 0 rfl (by rw [List.getElem?_toArray]; exact hj)) om om) ?_
     rintro o4 ko4
     refine Ld 1 [1,5,9,10,11] ?_
     refine Rg [1,5,9,10,11] [] (fun _ => [(i6 ((i : Int) + 1))]) ⟨om,trivial⟩ ?_
     have hst : (endsF (m.es.take (i + 1)) v) = (endsF (m.es.take i) v) ++ [2 * (m.es.getD i ez).1,2 * (m.es.getD i ez).1 + 1] := by rw [endsF_go om]; rw [if_pos om,if_pos om]; rfl
     have hsl : (endsF (m.es.take (i + 1)) v).length = (endsF (m.es.take i) v).length + 2 := by rw [hst,List.length_append]; rfl
     have hsf : (endsF (m.es.take (i + 1)) v).flatMap u32c = ((((endsF (m.es.take i) v).flatMap u32c) ++ [.int .u32 (((2 * (m.es.getD i ez).1 + 0) : Nat) : Int)]) ++ [.int .u32 (((2 * (m.es.getD i ez).1 + 1) : Nat) : Int)]) := by rw [hst,List.flatMap_append]; first | rfl | exact List.append_nil _ | simp [u32c]
     refine Cfg.setO (congrArg (fun (xq : List Value) => (([(rb33,.cells #[uN ((2 * (m.es.getD i ez).1 + 1))] 73 (0,0)),(rb23,.cells #[uN ((2 * (m.es.getD i ez).1 + 0))] 73 (0,0)),(eb,.cells #[.int .u32 ((m.es.getD i ez).1 : Int),.int .u32 ((m.es.getD i ez).2.1 : Int),.int .u32 ((m.es.getD i ez).2.2 : Int)] 76 (0,0)),(gb,.cells ((gc m).toArray) 25 (0,0))] ++ (Own.o 73 xq o4 ++ [])) : LO)) (show _ = ((endsF (m.es.take (i + 1)) v).flatMap u32c) from hsf.symm)) ?_
     refine Cfg.setS 9 (show .slice (some ⟨sb1,offb1,none⟩) m.es.length m.ec = .slice m.ea m.es.length m.ec from congrArg (fun z => Value.slice z m.es.length m.ec) hvb1.symm) ?_
     refine Cfg.setS 5 (congrArg (fun (xq : Nat) => (.slice (Own.a o4) xq (Own.c o4) : Value)) (show ((((endsF (m.es.take i) v).length + 1) + 1)) = ((endsF (m.es.take (i + 1)) v).length) from hsl.symm)) ?_
     refine Cfg.again rfl (i + 1,o4) ⟨by omega,by rw [hsl]; omega,by rw [hsl,hsf]; exact ko4⟩ (by show m.es.length - (i + 1) < m.es.length - i; omega) (Conv.mk kr) (.cons _ (.cons _ (.cons _ slr)))
    ·have c3 := (beq_eq_false_iff_ne.1 c3r)
     refine Rg [1,5,9,10,11] [] (fun _ => [(i6 ((i : Int) + 1))]) ⟨om,trivial⟩ ?_
     have hst : (endsF (m.es.take (i + 1)) v) = (endsF (m.es.take i) v) ++ [2 * (m.es.getD i ez).1] := by rw [endsF_go om]; rw [if_pos om,if_neg om]; rfl
     have hsl : (endsF (m.es.take (i + 1)) v).length = (endsF (m.es.take i) v).length + 1 := by rw [hst,List.length_append]; rfl
     have hsf : (endsF (m.es.take (i + 1)) v).flatMap u32c = (((endsF (m.es.take i) v).flatMap u32c) ++ [.int .u32 (((2 * (m.es.getD i ez).1 + 0) : Nat) : Int)]) := by rw [hst,List.flatMap_append]; first | rfl | exact List.append_nil _ | simp [u32c]
     refine Cfg.setO (congrArg (fun (xq : List Value) => (([(rb23,.cells #[uN ((2 * (m.es.getD i ez).1 + 0))] 73 (0,0)),(eb,.cells #[.int .u32 ((m.es.getD i ez).1 : Int),.int .u32 ((m.es.getD i ez).2.1 : Int),.int .u32 ((m.es.getD i ez).2.2 : Int)] 76 (0,0)),(gb,.cells ((gc m).toArray) 25 (0,0))] ++ (Own.o 73 xq o2 ++ [])) : LO)) (show _ = ((endsF (m.es.take (i + 1)) v).flatMap u32c) from hsf.symm)) ?_
     refine Cfg.setS 9 (show .slice (some ⟨sb1,offb1,none⟩) m.es.length m.ec = .slice m.ea m.es.length m.ec from congrArg (fun z => Value.slice z m.es.length m.ec) hvb1.symm) ?_
     refine Cfg.setS 5 (congrArg (fun (xq : Nat) => (.slice (Own.a o2) xq (Own.c o2) : Value)) (show (((endsF (m.es.take i) v).length + 1)) = ((endsF (m.es.take (i + 1)) v).length) from hsl.symm)) ?_
     refine Cfg.again rfl (i + 1,o2) ⟨by omega,by rw [hsl]; omega,by rw [hsl,hsf]; exact ko2⟩ (by show m.es.length - (i + 1) < m.es.length - i; omega) (Conv.mk kr) (.cons _ (.cons _ slr))
   ·have c2 := (beq_eq_false_iff_ne.1 c2r)
    refine Rg [1,5,7,9,10,11,28] [dZ,(dS (.int .u32 ((m.es.getD i ez).2.2 : Int)))] (fun S => [(cE S eb 2 (.int .u32 ((m.es.getD i ez).2.2 : Int)))]) ⟨(oC 0 rfl rfl),trivial⟩ ?_
    refine Cfg.cond rfl (b := (((m.es.getD i ez).2.2 : Int) == (v : Int))) kr (fun c4r => ?_) (fun c4r => ?_)
    ·have c4 := (beq_iff_eq.1 c4r)
     refine Cfg.begL rfl ?_
     refine Lp 3 [dZ,dZ,(dS (.int .u32 ((m.es.getD i ez).1 : Int)))] (some [1,5,9,10,11,29,31]) (fun S => [(cE S eb 0 (.int .u32 ((m.es.getD i ez).1 : Int)))]) ⟨(oC 0 rfl rfl),trivial⟩ ?_
     refine Lu (Eff.callA (uN ((2 * (m.es.getD i ez).1 + 1))) rfl Tryz.func80 rfl rfl kr (fun w1 _ => dOf (m.es.getD i ez).1 1 w1 (hs _ (K.getD_mem om)) (by decide))) ?_
     refine Le (Eff.buildSlice (e := 73) (cells := #[uN ((2 * (m.es.getD i ez).1 + 1))]) (parts := #[(0,uN ((2 * (m.es.getD i ez).1 + 1)))]) rfl kr (fun _ => kr)) ?_
     rintro rb33 ⟨hrb33,nrb33⟩
     refine Le (Eff.appendF rfl 1 4 Tryz.underlying22 kr (z := (.int .u32 0)) kr kr oo (xs := ((endsF (m.es.take i) v).flatMap u32c)) hoo kr (b2 := rb33) (off2 := 0) (m := 1) (c2 := 1) kr ([uN ((2 * (m.es.getD i ez).1 + 1))]) rfl (by intro q hq; rw [List.mem_singleton.1 hq]; rfl) [(rb33,.cells #[uN ((2 * (m.es.getD i ez).1 + 1))] 73 (0,0)),(eb,.cells #[.int .u32 ((m.es.getD i ez).1 : Int),.int .u32 ((m.es.getD i ez).2.1 : Int),.int .u32 ((m.es.getD i ez).2.2 : Int)] 76 (0,0)),(gb,.cells ((gc m).toArray) 25 (0,0))] [] (by rfl) (fun w1 h j v hj => by rw [Nat.zero_add]; exact h.ocell 0 rfl (by rw [List.getElem?_toArray]; exact hj)) om om) ?_
     rintro o6 ko6
     refine Ld 1 [1,5,9,10,11] ?_
     refine Rg [1,5,9,10,11] [] (fun _ => [(i6 ((i : Int) + 1))]) ⟨om,trivial⟩ ?_
     have hst : (endsF (m.es.take (i + 1)) v) = (endsF (m.es.take i) v) ++ [2 * (m.es.getD i ez).1 + 1] := by rw [endsF_go om]; rw [if_neg om,if_pos om]; rfl
     have hsl : (endsF (m.es.take (i + 1)) v).length = (endsF (m.es.take i) v).length + 1 := by rw [hst,List.length_append]; rfl
     have hsf : (endsF (m.es.take (i + 1)) v).flatMap u32c = (((endsF (m.es.take i) v).flatMap u32c) ++ [.int .u32 (((2 * (m.es.getD i ez).1 + 1) : Nat) : Int)]) := by rw [hst,List.flatMap_append]; first | rfl | exact List.append_nil _ | simp [u32c]
     refine Cfg.setO (congrArg (fun (xq : List Value) => (([(rb33,.cells #[uN ((2 * (m.es.getD i ez).1 + 1))] 73 (0,0)),(eb,.cells #[.int .u32 ((m.es.getD i ez).1 : Int),.int .u32 ((m.es.getD i ez).2.1 : Int),.int .u32 ((m.es.getD i ez).2.2 : Int)] 76 (0,0)),(gb,.cells ((gc m).toArray) 25 (0,0))] ++ (Own.o 73 xq o6 ++ [])) : LO)) (show _ = ((endsF (m.es.take (i + 1)) v).flatMap u32c) from hsf.symm)) ?_
     refine Cfg.setS 9 (show .slice (some ⟨sb1,offb1,none⟩) m.es.length m.ec = .slice m.ea m.es.length m.ec from congrArg (fun z => Value.slice z m.es.length m.ec) hvb1.symm) ?_
     refine Cfg.setS 5 (congrArg (fun (xq : Nat) => (.slice (Own.a o6) xq (Own.c o6) : Value)) (show (((endsF (m.es.take i) v).length + 1)) = ((endsF (m.es.take (i + 1)) v).length) from hsl.symm)) ?_
     refine Cfg.again rfl (i + 1,o6) ⟨by omega,by rw [hsl]; omega,by rw [hsl,hsf]; exact ko6⟩ (by show m.es.length - (i + 1) < m.es.length - i; omega) (Conv.mk kr) (.cons _ (.cons _ slr))
    ·have c4 := (beq_eq_false_iff_ne.1 c4r)
     refine Rg [1,5,9,10,11] [] (fun _ => [(i6 ((i : Int) + 1))]) ⟨om,trivial⟩ ?_
     have hst : (endsF (m.es.take (i + 1)) v) = (endsF (m.es.take i) v) ++ [] := by rw [endsF_go om]; rw [if_neg om,if_neg om]; rfl
     have hsl : (endsF (m.es.take (i + 1)) v).length = (endsF (m.es.take i) v).length + 0 := by rw [hst,List.length_append]; rfl
     have hsf : (endsF (m.es.take (i + 1)) v).flatMap u32c = ((endsF (m.es.take i) v).flatMap u32c) := by rw [hst,List.flatMap_append]; first | rfl | exact List.append_nil _ | simp [u32c]
     refine Cfg.setO (congrArg (fun (xq : List Value) => (([(eb,.cells #[.int .u32 ((m.es.getD i ez).1 : Int),.int .u32 ((m.es.getD i ez).2.1 : Int),.int .u32 ((m.es.getD i ez).2.2 : Int)] 76 (0,0)),(gb,.cells ((gc m).toArray) 25 (0,0))] ++ (Own.o 73 xq oo ++ [])) : LO)) (show _ = ((endsF (m.es.take (i + 1)) v).flatMap u32c) from hsf.symm)) ?_
     refine Cfg.setS 9 (show .slice (some ⟨sb1,offb1,none⟩) m.es.length m.ec = .slice m.ea m.es.length m.ec from congrArg (fun z => Value.slice z m.es.length m.ec) hvb1.symm) ?_
     refine Cfg.setS 5 (congrArg (fun (xq : Nat) => (.slice (Own.a oo) xq (Own.c oo) : Value)) (show ((endsF (m.es.take i) v).length) = ((endsF (m.es.take (i + 1)) v).length) from hsl.symm)) ?_
     refine Cfg.again rfl (i + 1,oo) ⟨by omega,by rw [hsl]; omega,by rw [hsl,hsf]; exact hoo⟩ (by show m.es.length - (i + 1) < m.es.length - i; omega) (Conv.mk kr) (.cons _ slr)
  ·have c1 := (dF c1r)
   refine Rq [4] ?_
   refine Cfg.ret rfl (rs := [.tmp 4]) rfl [.slice (Own.a oo) ((endsF (m.es.take i) v).length) (Own.c oo)] ⟨kr,trivial⟩ (fun w1 hp => ?_)
   have hE : endsF (m.es.take i) v = endsF m.es v := by rw [show i = m.es.length by omega,List.take_length]
   rw [← hE]
   exact ⟨oo,hoo,rfl,fun x hx => hp.own x (by simp [hx]),fun x hx => (hp.mine x (by simp [hx])).resolve_right (fun h => by cases h),hp.ext⟩
end Go.Proofs.YtbeeelgfhfmgbaaGreatDoor
namespace Go.Proofs.YtbeeelgfhfmgbaaGreatDoor
namespace K
open Go.MapKept
def mfind (k : Int) : List (Int × Value) → Nat → Option (Nat × Value)
 | [],_ => none
 | p :: W,i => if k = p.1 then some (i,p.2) else mfind k W (i + 1)
def mget (W : List (Int × Value)) (k : Int) : Option Value := match W with
 | [] => none
 | p :: W => if k = p.1 then some p.2 else mget W k
def mset (W : List (Int × Value)) (k : Int) (v : Value) : List (Int × Value) := match W with
 | [] => [(k,v)]
 | p :: W => if k = p.1 then (k,v) :: W else p :: mset W k v
theorem mfind_get (k : Int) : ∀ (W : List (Int × Value)) (i : Nat),(mfind k W i).map (·.2) = mget W k
 | [],_ => rfl
 | p :: W,i => by
  unfold mfind mget
  split
  ·rfl
  ·exact mfind_get k W (i + 1)
theorem mget_set (W : List (Int × Value)) (k : Int) (v : Value) (j : Int) : mget (mset W k v) j = if j = k then some v else mget W j := by
 induction W with
 | nil => simp [mset,mget]
 | cons p W ih =>
  unfold mset
  by_cases h : k = p.1
  ·rw [if_pos h]
   unfold mget
   by_cases hj : j = k
   ·rw [if_pos hj,if_pos hj]
   ·simp only [if_neg hj]
    rw [if_neg (show ¬ j = p.1 from fun e => hj (by rw [e,h]))]
  ·rw [if_neg h]
   unfold mget
   by_cases hj : j = p.1
   ·rw [if_pos hj,if_neg (fun e => h (by rw [← e,hj])),if_pos hj]
   ·rw [if_neg hj,if_neg hj,ih]
theorem mfind_some {k : Int} : ∀ {W : List (Int × Value)} {i j : Nat} {v : Value},mfind k W i = some (j,v) → i ≤ j ∧ W[j - i]? = some (k,v)
 | [],_,_,_,h => by cases h
 | p :: W,i,j,v,h => by
  unfold mfind at h
  split at h
  ·rename_i hk
   simp only [Option.some.injEq,Prod.mk.injEq] at h
   obtain ⟨rfl,rfl⟩ := h
   refine ⟨Nat.le_refl _,?_⟩
   rw [Nat.sub_self,List.getElem?_cons_zero,hk]
  ·obtain ⟨h1,h2⟩ := mfind_some h
   refine ⟨by omega,?_⟩
   rw [show j - i = (j - (i + 1)) + 1 by omega,List.getElem?_cons_succ]; exact h2
theorem mfind_set {k : Int} (u : Value) : ∀ {W : List (Int × Value)} {i j : Nat} {v : Value},mfind k W i = some (j,v) → mset W k u = W.set (j - i) (k,u)
 | [],_,_,_,h => by cases h
 | p :: W,i,j,v,h => by
  unfold mfind at h
  unfold mset
  split at h
  ·rename_i hk
   simp only [Option.some.injEq,Prod.mk.injEq] at h
   obtain ⟨rfl,rfl⟩ := h
   rw [if_pos hk,Nat.sub_self,List.set_cons_zero]
  ·rename_i hk
   have h1 := (mfind_some h).1
   rw [if_neg hk,mfind_set u h,show j - i = (j - (i + 1)) + 1 by omega,List.set_cons_succ]
theorem mfind_none {k : Int} (u : Value) : ∀ {W : List (Int × Value)} {i : Nat},mfind k W i = none → mset W k u = W ++ [(k,u)] ∧ ∀ p ∈ W,p.1 ≠ k
 | [],_,_ => ⟨rfl,fun p h => by cases h⟩
 | p :: W,i,h => by
  unfold mfind at h
  unfold mset
  split at h
  ·cases h
  ·rename_i hk
   obtain ⟨h1,h2⟩ := mfind_none u h
   rw [if_neg hk,h1]
   refine ⟨rfl,fun q hq => ?_⟩
   rcases List.mem_cons.1 hq with rfl | hq
   ·exact fun e => hk e.symm
   ·exact h2 q hq
section
variable {P : Program} {w : World}
end
section
variable {C : Cx} {R O : List (Nat × Obj)} {Γ : Env} {op : Oper}
theorem Eff.mapNew {t : TypeId} (ho : op.op = .makeMap t none) : Eff C R O Γ op Nat (fun b => .map (some b)) (fun b => (b,.map #[] 0) :: O) (fun b => C.w0.heap.size ≤ b ∧ b ∉ O.map (·.1)) := by
 refine Eff.of_run fun a w hs hp => ⟨w.heap.size,w.alloc (.map #[] 0),⟨hp.ext.size,hp.fresh (Nat.le_refl _)⟩,?_,hp.alloc _⟩
 simp [execOp,ho,Instr.makeMap,newObj,Sem.run]
end
end K
end Go.Proofs.YtbeeelgfhfmgbaaGreatDoor
namespace Go.Proofs.YtbeeelgfhfmgbaaGreatDoor
namespace K
open Go.MapKept
section
variable {P : Program} {w : World}
end
section
variable {C : Cx} {R O : List (Nat × Obj)} {Γ : Env} {op : Oper}
end
section
variable {P : Program} {w : World}
end
section
variable {C : Cx} {R O : List (Nat × Obj)} {Γ : Env} {op : Oper}
end
section
variable {P : Program} {w : World}
end
section
variable {C : Cx} {R O : List (Nat × Obj)} {Γ : Env} {op : Oper}
end
section
variable {C : Cx} {R O : List (Nat × Obj)} {Γ : Env}
end
section
variable {C : Cx} {R Os O : List (Nat × Obj)} {Γ : Env} {ops : Array Oper} {fuel : Nat} {l : Array Bool} {ks : List KI}
theorem CfgA.join {ι : Type} (O2 : ι → List (Nat × Obj)) (Γ2 : ι → Env) (h1 : ∀ i,Cfg C R (O2 i) (Γ2 i) ks) (h2 : (∀ i,Cfg C R (O2 i) (Γ2 i) ks) → CfgA C R Os O Γ ops fuel l ks) : CfgA C R Os O Γ ops fuel l ks := h2 h1
end
end K
end Go.Proofs.YtbeeelgfhfmgbaaGreatDoor
namespace Go.Proofs.YtbeeelgfhfmgbaaGreatDoor
open K
set_option linter.unusedVariables false
def nv (L : List Nat) : List Value := L.map fun (n : Nat) => Value.int .u32 (n : Int)
theorem nv_len (L : List Nat) : (nv L).length = L.length := List.length_map ..
theorem nv_size (L : List Nat) (jk : List Value) : ((nv L ++ jk).toArray).size = L.length + jk.length := by rw [List.size_toArray,List.length_append,nv_len]
theorem nv_at {L : List Nat} (jk : List Value) {e i : Nat} (he : e = i) (hi : i < L.length) : (nv L ++ jk).toArray[e]? = some (.int .u32 (L.getD i 0 : Int)) := by
 rw [he,List.getElem?_toArray,List.getElem?_append_left (by rw [nv_len]; exact hi)]
 unfold nv
 rw [List.getElem?_map,List.getElem?_eq_getElem hi,List.getD_eq_getElem?_getD,List.getElem?_eq_getElem hi]; rfl
theorem nv_set {L : List Nat} (jk : List Value) {e i x : Nat} (he : e = i) (hi : i < L.length) : (nv L ++ jk).toArray.setIfInBounds e (.int .u32 (x : Int)) = (nv (L.set i x) ++ jk).toArray := by
 rw [he,List.setIfInBounds_toArray,List.set_append_left _ _ (by rw [nv_len]; exact hi)]
 unfold nv
 rw [List.map_set]
theorem nv_swp {L : List Nat} (jk : List Value) {e f i j : Nat} (he : e = i) (hf : f = j) (hi : i < L.length) (hj : j < L.length) : ((nv L ++ jk).toArray.setIfInBounds e (.int .u32 (L.getD j 0 : Int))).setIfInBounds f (.int .u32 (L.getD i 0 : Int)) = (nv (swpN L i j) ++ jk).toArray := by
 rw [nv_set jk he hi,nv_set jk hf (by rw [List.length_set]; exact hj)]; rfl
theorem insJ_go {a j : Nat} {L : List Nat} (h : a < j) (h2 : L.getD j 0 < L.getD (j - 1) 0) : insJ a j L = insJ a (j - 1) (swpN L j (j - 1)) := by
 obtain ⟨k,rfl⟩ : ∃ k,j = k + 1 := ⟨j - 1,by omega⟩
 rw [insJ,if_pos ⟨h,h2⟩]; rfl
theorem insJ_stop {a j : Nat} {L : List Nat} (h : ¬ (a < j ∧ L.getD j 0 < L.getD (j - 1) 0)) : insJ a j L = L := by
 cases j with
 | zero => rfl
 | succ k => rw [insJ]; exact if_neg h
theorem insO_go {a b i : Nat} {L : List Nat} (h : i < b) : insO a (b - i) i L = insO a (b - (i + 1)) (i + 1) (insJ a i L) := by
 rw [show b - i = (b - (i + 1)) + 1 by omega,insO]
theorem siftF_go {hi first n r : Nat} {L : List Nat} (h : ¬ hi ≤ 2 * r + 1) (h2 : L.getD (first + r) 0 < L.getD (first + childF L hi first (2 * r + 1)) 0) : siftF hi first (n + 1) r L = siftF hi first n (childF L hi first (2 * r + 1)) (swpN L (first + r) (first + childF L hi first (2 * r + 1))) := by
 rw [siftF,if_neg h,if_pos h2]
theorem siftF_stop {hi first n r : Nat} {L : List Nat} (h : hi ≤ 2 * r + 1 ∨ ¬ L.getD (first + r) 0 < L.getD (first + childF L hi first (2 * r + 1)) 0) : siftF hi first (n + 1) r L = L := by
 rw [siftF]
 split
 ·rfl
 ·rename_i h1
  rw [if_neg (h.resolve_left h1)]
theorem childF_in (L : List Nat) {hi first c : Nat} (h : ¬ hi ≤ c) : c ≤ childF L hi first c ∧ childF L hi first c < hi := by
 unfold childF
 split
 ·rename_i h1; have := h1.1; omega
 ·omega
set_option maxRecDepth 100000 in
theorem cNaN (x : Nat) (w : World) :
  Calls Tryz.prog 140 #[.int .u32 (x : Int)] w fun e w' => e = .returned (.bool false) ∧ Ext [] w w' := by
 refine enter [] [] [] Tryz.func140 rfl kr (HP.start w) ?_
 refine Rq [0] ?_
 refine Rq [2] ?_
 refine Cfg.ret rfl (rs := [.tmp 2]) rfl [.bool ((x : Int) != (x : Int))] ⟨kr,trivial⟩ (fun w1 hp => ?_)
 exact ⟨by simp [resOf],hp.ext⟩
set_option maxRecDepth 100000 in
theorem cLess (x y : Nat) (w : World) :
  Calls Tryz.prog 119 #[.int .u32 (x : Int),.int .u32 (y : Int)] w fun e w' => e = .returned (.bool (decide ((x : Int) < (y : Int)))) ∧ Ext [] w w' := by
 refine enter [] [] [] Tryz.func119 rfl kr (HP.start w) ?_
 refine Rq [0,1] ?_
 refine Cfg.begL rfl ?_
 refine Lp 1 [] none n0 trivial ?_
 refine Lu (Eff.callA (.bool false) rfl Tryz.func140 rfl rfl kr (fun w1 _ => cNaN x w1)) ?_
 refine Lp 11 [dZ,(2,false,none),(2,false,none),(2,false,none),dZ,dZ,(1,false,none),(1,false,none),(1,false,none)] (some [4]) (fun _ => [((.bool false : Value) ≠ .bool true),((.bool false : Value) ≠ .bool true),((.bool false : Value) ≠ .bool true),((.bool false : Value) = .bool false),((.bool false : Value) = .bool false),((.bool false : Value) = .bool false)]) ⟨(by simp),(by simp),(by simp),rfl,rfl,rfl,trivial⟩ ?_
 refine CfgL.done rfl ?_
 refine Cfg.ret rfl (rs := [.tmp 4]) rfl [.bool (decide ((x : Int) < (y : Int)))] ⟨kr,trivial⟩ (fun w1 hp => ?_)
 exact ⟨rfl,hp.ext⟩
set_option maxRecDepth 100000 in
set_option maxHeartbeats 1000000 in
theorem sIns (bk cp : Nat) (jk : List Value) (L : List Nat) (a b : Nat) (w : World) (hB : w.heap[bk]? = some (.cells (nv L ++ jk).toArray 73 (0,0))) (hL : L.length ≤ 1000000) (hab : b ≤ L.length) (ha : a ≤ L.length) :
  Calls Tryz.prog 113 #[.slice (some ⟨bk,0,none⟩) L.length cp,.int .i64 (a : Int),.int .i64 (b : Int)] w fun e w' => e = .returned (.tuple #[]) ∧ Ext [bk] w w' ∧ w'.heap[bk]? = some (.cells (nv (insF L a b) ++ jk).toArray 73 (0,0)) := by
 refine enter [bk] [] [(bk,.cells ((nv L ++ jk).toArray) 73 (0,0))] Tryz.func113 rfl kr (HP.startM (R := []) (fun _ h => by cases h) hB (by simp)) ?_
 refine Rg [0,1,2,6] [] (fun _ => [(i6 ((a : Int) + 1))]) ⟨om,trivial⟩ ?_
 refine Cfg.loop rfl (ι := Nat × List Nat) (fun (xz : Nat × List Nat) => match xz with | (i,L1) => [(6,[],iN i),(0,[],.slice (some ⟨bk,0,none⟩) L.length cp),(1,[],iN a),(2,[],iN b)]) (fun (xz : Nat × List Nat) => match xz with | (i,L1) => [(bk,.cells ((nv L1 ++ jk).toArray) 73 (0,0))]) (fun (xz : Nat × List Nat) => match xz with | (i,L1) => (a + 1 ≤ i) ∧ (i ≤ b ∨ i = a + 1) ∧ (L1.length = L.length) ∧ (insO a (b - i) i L1 = insF L a b)) (fun (xz : Nat × List Nat) => match xz with | (i,L1) => b - i) (a + 1,L) ?_ (Conv.mk kr) (.cons_cons _ .slnil) ?_
 ·exact ⟨Nat.le_refl _,.inr rfl,rfl,rfl⟩
 ·rintro ⟨i,L1⟩ ⟨hi,hib,hl1,hra⟩
  refine Rq [0,1,2,6,12] ?_
  refine Cfg.cond rfl (b := (decide ((i : Int) < (b : Int)))) kr (fun c1r => ?_) (fun c1r => ?_)
  ·have c1 := (dT c1r)
   refine Rq [0,1,2,6,7] ?_
   refine Cfg.loop rfl (ι := Nat × List Nat) (fun (xz : Nat × List Nat) => match xz with | (j,L2) => [(7,[],iN j),(6,[],iN i),(0,[],.slice (some ⟨bk,0,none⟩) L.length cp),(1,[],iN a),(2,[],iN b)]) (fun (xz : Nat × List Nat) => match xz with | (j,L2) => [(bk,.cells ((nv L2 ++ jk).toArray) 73 (0,0))]) (fun (xz : Nat × List Nat) => match xz with | (j,L2) => (j ≤ i) ∧ (L2.length = L.length) ∧ (insJ a j L2 = insJ a i L1)) (fun (xz : Nat × List Nat) => match xz with | (j,L2) => j) (i,L1) ?_ (Conv.mk kr) (.cons_cons _ .slnil) ?_
   ·exact ⟨Nat.le_refl _,hl1,rfl⟩
   ·rintro ⟨j,L2⟩ ⟨hj,hl2,hj2⟩
    refine Cfg.begA rfl kr [(bk,.cells ((nv L2 ++ jk).toArray) 73 (0,0))] ?_
    refine Ap [0,1,2,3] [] (some [0,1,2,6,7,19]) (tF 4 11) (.cons_cons _ .slnil) 11 n0 trivial ?_
    by_cases c2 : (decide ((j : Int) > (a : Int))) = true
    ·have c2k : (decide ((j : Int) > (a : Int))) = true := c2
     have c2q := (dT c2k)
     refine CfgA.known 19 (b := (decide ((j : Int) > (a : Int)))) kr true c2k ?_
     refine Ap [4,5,6,7,8,9,10,11,12] [(1,false,none),(1,false,none),(1,false,none),(1,false,some (uN (L2.getD j 0))),(1,false,none),(1,false,none),(1,false,none),(1,false,none),(1,false,some (uN ((L2.getD ((j - 1)) 0))))] (some [0,1,2,6,7,19,23,28]) (tF 13 2) (.cons_cons _ .slnil) 2 (fun S => [((.bool true : Value) = .bool true),((.bool true : Value) = .bool true),((.bool true : Value) = .bool true),(0 ≤ (j : Int) ∧ (j : Int) < (L.length : Int)),((.bool true : Value) = .bool true),(cE S bk j (uN (L2.getD j 0))),((.bool true : Value) = .bool true),((.bool true : Value) = .bool true),((.bool true : Value) = .bool true),(i6 ((j : Int) - 1)),((.bool true : Value) = .bool true),(0 ≤ ((j : Int) - 1) ∧ ((j : Int) - 1) < (L.length : Int)),((.bool true : Value) = .bool true),(cE S bk ((((j : Int) - 1)).toNat) (uN ((L2.getD ((j - 1)) 0))))]) ⟨rfl,rfl,rfl,om,rfl,(fun w1 h => h.ocell 0 rfl (nv_at jk om om)),rfl,rfl,rfl,om,rfl,om,rfl,(fun w1 h => h.ocell 0 rfl (nv_at jk om om)),trivial⟩ ?_
     refine Au 13 rfl 1  (Eff.callA (.bool (decide (((L2.getD j 0) : Int) < (((L2.getD ((j - 1)) 0) : Nat) : Int)))) rfl Tryz.func119 rfl rfl kr (fun w1 _ => cLess ((L2.getD j 0)) ((L2.getD ((j - 1)) 0)) w1)) (fun _ _ => (.cons_cons _ .slnil)) ?_
     refine Ap [14] [] (some [0,1,2,6,7,30]) (tF 15 0) (.cons_cons _ .slnil) 0 n0 trivial ?_
     refine CfgA.done kr ?_
     refine Cfg.cond rfl (b := (decide (((L2.getD j 0) : Int) < (((L2.getD ((j - 1)) 0) : Nat) : Int)))) kr (fun c3r => ?_) (fun c3r => ?_)
     ·have c3 := (dT c3r)
      refine Cfg.begA rfl kr [] ?_
      refine CfgA.join (ι := Unit) (fun (_ : Unit) => [(bk,.cells (((nv L2 ++ jk).toArray.setIfInBounds j (uN ((L2.getD ((j - 1)) 0)))).setIfInBounds ((((j : Int) - 1)).toNat) (uN (L2.getD j 0))) 73 (0,0))]) (fun (_ : Unit) => [(7,[],iN j),(6,[],iN i),(0,[],.slice (some ⟨bk,0,none⟩) L.length cp),(1,[],iN a),(2,[],iN b)]) ?_ ?_
      ·rintro ⟨⟩
       refine oB 0 rfl (show _ = ((nv (swpN L2 j ((j - 1))) ++ jk).toArray) from nv_swp jk om om om om) ?_
       refine Rg [0,1,2,6,7] [] (fun _ => [(i6 ((j : Int) - 1))]) ⟨om,trivial⟩ ?_
       refine sI 7 (show ((j : Int) - 1) = (((j - 1) : Nat) : Int) from by omega) ?_
       refine Cfg.again rfl (j - 1,swpN L2 j (j - 1)) ⟨by omega,by rw [swpN_len]; exact hl2,(insJ_go om om).symm.trans hj2⟩ (by show j - 1 < j; omega) (Conv.mk kr) (.cons_cons _ .slnil)
      ·intro hj
       refine CfgA.pure [0,1,2,3,4,5,6,7,8,10,11,12] [] (some [0,1,2,6,7,33,34,35,37,41,45]) (l' := (bF 7679 18)) kr kr (.cons _ .slnil) 6 rfl (Γ' := [(45,[],.pointer (some ⟨bk,j,none⟩)),(41,[],.pointer (some ⟨bk,(((j : Int) - 1)).toNat,none⟩)),(37,[],.int .i64 ((j : Int) - 1)),(35,[],.slice (some ⟨bk,0,none⟩) L.length cp),(34,[],iN j),(33,[],.slice (some ⟨bk,0,none⟩) L.length cp),(7,[],iN j),(6,[],iN i),(0,[],.slice (some ⟨bk,0,none⟩) L.length cp),(1,[],iN a),(2,[],iN b)]) (nd := (fun _ => [(i6 ((j : Int) - 1)),(i6 ((j : Int) - 1)),(0 ≤ ((j : Int) - 1) ∧ ((j : Int) - 1) < (L.length : Int)),(0 ≤ (j : Int) ∧ (j : Int) < (L.length : Int))])) (fun _ => kr) ⟨om,om,om,om,trivial⟩ ?_
       refine CfgA.two 9 13 kr (fuel' := 5) rfl ?_ ?_
       ·
        refine Iu rfl  (Eff.quiet (raw := false) (orc := some (uN ((L2.getD ((j - 1)) 0)))) (v := uN ((L2.getD ((j - 1)) 0))) (nd := (fun S => [(cE S bk ((((j : Int) - 1)).toNat) (uN ((L2.getD ((j - 1)) 0))))])) (fun _ => kr) ⟨(fun w1 h => h.ocell 0 rfl (nv_at jk om om)),trivial⟩ kr) (fun _ _ => List.nil_sublist _) ?_
        refine Au 13 rfl 4  (Eff.quiet (raw := false) (orc := some (uN (L2.getD j 0))) (v := uN (L2.getD j 0)) (nd := (fun S => [(cE S bk j (uN (L2.getD j 0)))])) (fun _ => kr) ⟨(fun w1 h => h.ocell 0 rfl (nv_at jk om om)),trivial⟩ kr) (fun _ _ => List.nil_sublist _) ?_
        refine Ap [14] [] (some [0,1,2,6,7,35,37,42,46,47]) (tF 15 3) (.cons _ .slnil) 3 (fun _ => [(0 ≤ (j : Int) ∧ (j : Int) < (L.length : Int))]) ⟨om,trivial⟩ ?_
        refine Au 15 rfl 2  (Eff.store1 (b := bk) (off := j) (v := uN ((L2.getD ((j - 1)) 0))) rfl kr kr rfl kr 0 (cs := (nv L2 ++ jk).toArray) (e := 73) kr (by rw [nv_size]; omega)) (fun _ _ => List.nil_sublist _) ?_
        refine Ap [16] [] (some [0,1,2,6,7,46,48]) (tF 17 1) (.cons _ .slnil) 1 (fun _ => [(0 ≤ ((j : Int) - 1) ∧ ((j : Int) - 1) < (L.length : Int))]) ⟨om,trivial⟩ ?_
        refine Au 17 rfl 0  (Eff.store1 (b := bk) (off := (((j : Int) - 1)).toNat) (v := uN (L2.getD j 0)) rfl kr kr rfl kr 0 (cs := ((nv L2 ++ jk).toArray.setIfInBounds j (uN ((L2.getD ((j - 1)) 0))))) (e := 73) kr (by rw [Array.size_setIfInBounds,nv_size]; omega)) (fun _ _ => List.nil_sublist _) ?_
        refine CfgA.done kr ?_
        refine Cg (Γ' := [(7,[],iN j),(6,[],iN i),(0,[],.slice (some ⟨bk,0,none⟩) L.length cp),(1,[],iN a),(2,[],iN b)]) ?_
        refine Cg (Γ' := [(7,[],iN j),(6,[],iN i),(0,[],.slice (some ⟨bk,0,none⟩) L.length cp),(1,[],iN a),(2,[],iN b)]) ?_
        exact hj ()
       ·
        refine Iu rfl  (Eff.quiet (raw := false) (orc := some (uN (L2.getD j 0))) (v := uN (L2.getD j 0)) (nd := (fun S => [(cE S bk j (uN (L2.getD j 0)))])) (fun _ => kr) ⟨(fun w1 h => h.ocell 0 rfl (nv_at jk om om)),trivial⟩ kr) (fun _ _ => List.nil_sublist _) ?_
        refine Au 9 rfl 4  (Eff.quiet (raw := false) (orc := some (uN ((L2.getD ((j - 1)) 0)))) (v := uN ((L2.getD ((j - 1)) 0))) (nd := (fun S => [(cE S bk ((((j : Int) - 1)).toNat) (uN ((L2.getD ((j - 1)) 0))))])) (fun _ => kr) ⟨(fun w1 h => h.ocell 0 rfl (nv_at jk om om)),trivial⟩ kr) (fun _ _ => List.nil_sublist _) ?_
        refine Ap [14] [] (some [0,1,2,6,7,35,37,42,46,47]) (tF 15 3) (.cons _ .slnil) 3 (fun _ => [(0 ≤ (j : Int) ∧ (j : Int) < (L.length : Int))]) ⟨om,trivial⟩ ?_
        refine Au 15 rfl 2  (Eff.store1 (b := bk) (off := j) (v := uN ((L2.getD ((j - 1)) 0))) rfl kr kr rfl kr 0 (cs := (nv L2 ++ jk).toArray) (e := 73) kr (by rw [nv_size]; omega)) (fun _ _ => List.nil_sublist _) ?_
        refine Ap [16] [] (some [0,1,2,6,7,46,48]) (tF 17 1) (.cons _ .slnil) 1 (fun _ => [(0 ≤ ((j : Int) - 1) ∧ ((j : Int) - 1) < (L.length : Int))]) ⟨om,trivial⟩ ?_
        refine Au 17 rfl 0  (Eff.store1 (b := bk) (off := (((j : Int) - 1)).toNat) (v := uN (L2.getD j 0)) rfl kr kr rfl kr 0 (cs := ((nv L2 ++ jk).toArray.setIfInBounds j (uN ((L2.getD ((j - 1)) 0))))) (e := 73) kr (by rw [Array.size_setIfInBounds,nv_size]; omega)) (fun _ _ => List.nil_sublist _) ?_
        refine CfgA.done kr ?_
        refine Cg (Γ' := [(7,[],iN j),(6,[],iN i),(0,[],.slice (some ⟨bk,0,none⟩) L.length cp),(1,[],iN a),(2,[],iN b)]) ?_
        refine Cg (Γ' := [(7,[],iN j),(6,[],iN i),(0,[],.slice (some ⟨bk,0,none⟩) L.length cp),(1,[],iN a),(2,[],iN b)]) ?_
        exact hj ()
     ·have c3 := (dF c3r)
      refine Rg [0,1,2,6] [] (fun _ => [(i6 ((i : Int) + 1))]) ⟨om,trivial⟩ ?_
      have hst : insJ a i L1 = L2 := hj2.symm.trans (insJ_stop (fun h9 => by have := h9.1; have := h9.2; omega))
      refine Cfg.again rfl (i + 1,L2) ⟨by omega,by omega,by omega,by rw [← hst]; exact (insO_go om).symm.trans hra⟩ (by show b - (i + 1) < b - i; omega) (Conv.mk kr) (.cons_cons _ .slnil)
    ·have c2k : (decide ((j : Int) > (a : Int))) = false := (by simpa using c2)
     have c2q := (dF c2k)
     refine CfgA.known 19 (b := (decide ((j : Int) > (a : Int)))) kr false c2k ?_
     refine Ap [4,5,6,7,8,9,10,11,12,13,14] [(2,false,none),(2,false,none),(2,false,none),(2,false,none),(2,false,none),(2,false,none),(2,false,none),(2,false,none),(2,false,none),(2,false,none)] (some [0,1,2,6,7,30]) (tF 15 0) (.cons_cons _ .slnil) 0 (fun _ => [((.bool false : Value) ≠ .bool true),((.bool false : Value) ≠ .bool true),((.bool false : Value) ≠ .bool true),((.bool false : Value) ≠ .bool true),((.bool false : Value) ≠ .bool true),((.bool false : Value) ≠ .bool true),((.bool false : Value) ≠ .bool true),((.bool false : Value) ≠ .bool true),((.bool false : Value) ≠ .bool true),((.bool false : Value) ≠ .bool true)]) ⟨(by simp),(by simp),(by simp),(by simp),(by simp),(by simp),(by simp),(by simp),(by simp),(by simp),trivial⟩ ?_
     refine CfgA.done kr ?_
     refine Cfg.condF rfl (b := false) kr rfl ?_
     refine Rg [0,1,2,6] [] (fun _ => [(i6 ((i : Int) + 1))]) ⟨om,trivial⟩ ?_
     have hst : insJ a i L1 = L2 := hj2.symm.trans (insJ_stop (fun h9 => by have := h9.1; have := h9.2; omega))
     refine Cfg.again rfl (i + 1,L2) ⟨by omega,by omega,by omega,by rw [← hst]; exact (insO_go om).symm.trans hra⟩ (by show b - (i + 1) < b - i; omega) (Conv.mk kr) (.cons_cons _ .slnil)
  ·have c1 := (dF c1r)
   refine Cfg.fin rfl (rs := []) rfl [] trivial (fun w1 hp => ?_)
   have hfin : L1 = insF L a b := by rw [← hra,show b - i = 0 by omega]; rfl
   rw [← hfin]
   exact ⟨rfl,hp.ext,hp.own (bk,_) mH⟩
set_option maxRecDepth 100000 in
set_option maxHeartbeats 1000000 in
theorem sSift (bk cp : Nat) (jk : List Value) (L : List Nat) (lo hi first : Nat) (w : World) (hB : w.heap[bk]? = some (.cells (nv L ++ jk).toArray 73 (0,0))) (hL : L.length ≤ 1000000) (hh : first + hi ≤ L.length) (hlo : lo ≤ hi) :
  Calls Tryz.prog 135 #[.slice (some ⟨bk,0,none⟩) L.length cp,.int .i64 (lo : Int),.int .i64 (hi : Int),.int .i64 (first : Int)] w fun e w' => e = .returned (.tuple #[]) ∧ Ext [bk] w w' ∧ w'.heap[bk]? = some (.cells (nv (siftF hi first (hi + 1) lo L) ++ jk).toArray 73 (0,0)) := by
 refine enter [bk] [] [(bk,.cells ((nv L ++ jk).toArray) 73 (0,0))] Tryz.func135 rfl kr (HP.startM (R := []) (fun _ h => by cases h) hB (by simp)) ?_
 refine Rq [0,2,3,8] ?_
 refine Cfg.loop rfl (ι := Nat × List Nat × Nat) (fun (xz : Nat × List Nat × Nat) => match xz with | (r,L1,n9) => [(8,[],iN r),(0,[],.slice (some ⟨bk,0,none⟩) L.length cp),(2,[],iN hi),(3,[],iN first)]) (fun (xz : Nat × List Nat × Nat) => match xz with | (r,L1,n9) => [(bk,.cells ((nv L1 ++ jk).toArray) 73 (0,0))]) (fun (xz : Nat × List Nat × Nat) => match xz with | (r,L1,n9) => (r ≤ hi) ∧ (L1.length = L.length) ∧ (hi + 1 ≤ n9 + r) ∧ (siftF hi first n9 r L1 = siftF hi first (hi + 1) lo L)) (fun (xz : Nat × List Nat × Nat) => match xz with | (r,L1,n9) => n9) (lo,L,hi + 1) ?_ (Conv.mk kr) (.cons_cons _ .slnil) ?_
 ·exact ⟨hlo,rfl,Nat.le_add_right ..,rfl⟩
 ·rintro ⟨r,L1,n9⟩ ⟨hr,hl1,hn,hra⟩
  refine Rg [0,2,3,8,9] [] (fun _ => [(i6 (2 * (r : Int))),(i6 ((2 * (r : Int)) + 1))]) ⟨om,om,trivial⟩ ?_
  refine Rq [0,2,3,8,9,16] ?_
  refine Cfg.cond rfl (b := (decide (((2 * (r : Int)) + 1) ≥ (hi : Int)))) kr (fun c1r => ?_) (fun c1r => ?_)
  ·have c1 := (dT c1r)
   refine Cfg.fin rfl (rs := []) rfl [] trivial (fun w1 hp => ?_)
   have hfin : L1 = siftF hi first (hi + 1) lo L := by rw [← hra,show n9 = (n9 - 1) + 1 by omega]; exact (siftF_stop (.inl om)).symm
   rw [← hfin]
   exact ⟨rfl,hp.ext,hp.own (bk,_) mH⟩
  ·have c1 := (dF c1r)
   refine Cfg.begA rfl kr [(bk,.cells ((nv L1 ++ jk).toArray) 73 (0,0))] ?_
   refine Ap [0,1,2,3,4] [] (some [0,2,3,8,9,21]) (tF 5 15) (.cons_cons _ .slnil) 15 (fun _ => [(i6 (((2 * (r : Int)) + 1) + 1))]) ⟨om,trivial⟩ ?_
   by_cases c2 : (decide ((((2 * (r : Int)) + 1) + 1) < (hi : Int))) = true
   ·have c2k : (decide ((((2 * (r : Int)) + 1) + 1) < (hi : Int))) = true := c2
    have c2q := (dT c2k)
    refine CfgA.known 21 (b := (decide ((((2 * (r : Int)) + 1) + 1) < (hi : Int)))) kr true c2k ?_
    refine Ap [5,6,7,8,9,10,11,12,13,14,15,16,17] [(1,false,none),(1,false,none),(1,false,none),(1,false,none),(1,false,none),(1,false,some (uN ((L1.getD ((first + ((2 * r) + 1))) 0)))),(1,false,none),(1,false,none),(1,false,none),(1,false,none),(1,false,none),(1,false,none),(1,false,some (uN ((L1.getD (((first + ((2 * r) + 1)) + 1)) 0))))] (some [0,2,3,8,9,21,27,34]) (tF 18 2) (.cons_cons _ .slnil) 2 (fun S => [((.bool true : Value) = .bool true),((.bool true : Value) = .bool true),((.bool true : Value) = .bool true),((.bool true : Value) = .bool true),(i6 ((first : Int) + ((2 * (r : Int)) + 1))),((.bool true : Value) = .bool true),(0 ≤ ((first : Int) + ((2 * (r : Int)) + 1)) ∧ ((first : Int) + ((2 * (r : Int)) + 1)) < (L.length : Int)),((.bool true : Value) = .bool true),(cE S bk (first + ((2 * r) + 1)) (uN ((L1.getD ((first + ((2 * r) + 1))) 0)))),((.bool true : Value) = .bool true),((.bool true : Value) = .bool true),((.bool true : Value) = .bool true),((.bool true : Value) = .bool true),(i6 ((first : Int) + ((2 * (r : Int)) + 1))),((.bool true : Value) = .bool true),(i6 (((first : Int) + ((2 * (r : Int)) + 1)) + 1)),((.bool true : Value) = .bool true),(0 ≤ (((first : Int) + ((2 * (r : Int)) + 1)) + 1) ∧ (((first : Int) + ((2 * (r : Int)) + 1)) + 1) < (L.length : Int)),((.bool true : Value) = .bool true),(cE S bk ((first + ((2 * r) + 1)) + 1) (uN ((L1.getD (((first + ((2 * r) + 1)) + 1)) 0))))]) ⟨rfl,rfl,rfl,rfl,om,rfl,om,rfl,(fun w1 h => h.ocell 0 rfl (nv_at jk om om)),rfl,rfl,rfl,rfl,om,rfl,om,rfl,om,rfl,(fun w1 h => h.ocell 0 rfl (nv_at jk om om)),trivial⟩ ?_
    refine Au 18 rfl 1  (Eff.callA (.bool (decide ((((L1.getD ((first + ((2 * r) + 1))) 0) : Nat) : Int) < (((L1.getD (((first + ((2 * r) + 1)) + 1)) 0) : Nat) : Int)))) rfl Tryz.func119 rfl rfl kr (fun w1 _ => cLess ((L1.getD ((first + ((2 * r) + 1))) 0)) ((L1.getD (((first + ((2 * r) + 1)) + 1)) 0)) w1)) (fun _ _ => (.cons_cons _ .slnil)) ?_
    refine Ap [19] [] (some [0,2,3,8,9,36]) (tF 20 0) (.cons_cons _ .slnil) 0 n0 trivial ?_
    refine CfgA.done kr ?_
    refine Cfg.cond rfl (b := (decide ((((L1.getD ((first + ((2 * r) + 1))) 0) : Nat) : Int) < (((L1.getD (((first + ((2 * r) + 1)) + 1)) 0) : Nat) : Int)))) kr (fun c3r => ?_) (fun c3r => ?_)
    ·have c3 := (dT c3r)
     refine Rg [0,2,3,8,9] [] (fun _ => [(i6 (((2 * (r : Int)) + 1) + 1))]) ⟨om,trivial⟩ ?_
     have hch : childF L1 hi first (2 * r + 1) = 2 * r + 1 + 1 := by unfold childF; rw [if_pos ⟨by omega,by omega⟩]
     obtain ⟨c,hc⟩ : ∃ c,c = childF L1 hi first (2 * r + 1) := ⟨_,rfl⟩
     have hci := childF_in L1 (hi := hi) (first := first) (c := 2 * r + 1) om
     rw [← hc] at hci hch
     refine sI 9 (show (((2 * (r : Int)) + 1) + 1) = (c : Int) from by rw [hch]; omega) ?_
     refine Cfg.begA rfl kr [(bk,.cells ((nv L1 ++ jk).toArray) 73 (0,0))] ?_
     refine Ap (List.range 12) [dZ,dZ,dZ,dZ,dZ,(dS (uN ((L1.getD ((first + r)) 0)))),dZ,dZ,dZ,dZ,dZ,(dS (uN ((L1.getD ((first + c)) 0))))] (some [0,2,3,8,9,44,50]) (tF 12 2) (.cons_cons _ .slnil) 2 (fun S => [(i6 ((first : Int) + (r : Int))),(0 ≤ ((first : Int) + (r : Int)) ∧ ((first : Int) + (r : Int)) < (L.length : Int)),(cE S bk (first + r) (uN ((L1.getD ((first + r)) 0)))),(i6 ((first : Int) + (c : Int))),(0 ≤ ((first : Int) + (c : Int)) ∧ ((first : Int) + (c : Int)) < (L.length : Int)),(cE S bk (first + c) (uN ((L1.getD ((first + c)) 0))))]) ⟨om,om,(fun w1 h => h.ocell 0 rfl (nv_at jk om om)),om,om,(fun w1 h => h.ocell 0 rfl (nv_at jk om om)),trivial⟩ ?_
     refine Au 12 rfl 1  (Eff.callA (.bool (decide ((((L1.getD ((first + r)) 0) : Nat) : Int) < (((L1.getD ((first + c)) 0) : Nat) : Int)))) rfl Tryz.func119 rfl rfl kr (fun w1 _ => cLess ((L1.getD ((first + r)) 0)) ((L1.getD ((first + c)) 0)) w1)) (fun _ _ => (.cons_cons _ .slnil)) ?_
     refine Ap [13] [] (some [0,2,3,8,9,52]) (tF 14 0) (.cons_cons _ .slnil) 0 n0 trivial ?_
     refine CfgA.done kr ?_
     refine Cfg.cond rfl (b := (!(decide ((((L1.getD ((first + r)) 0) : Nat) : Int) < (((L1.getD ((first + c)) 0) : Nat) : Int))))) kr (fun c4r => ?_) (fun c4r => ?_)
     ·have c4 := (dF (notT c4r))
      refine Cfg.ret rfl (rs := []) rfl [] trivial (fun w1 hp => ?_)
      have hfin : L1 = siftF hi first (hi + 1) lo L := by rw [← hra,show n9 = (n9 - 1) + 1 by omega]; exact (siftF_stop (.inr (by rw [← hc]; omega))).symm
      rw [← hfin]
      exact ⟨rfl,hp.ext,hp.own (bk,_) mH⟩
     ·have c4 := (dT (notF c4r))
      refine Cfg.begA rfl kr [] ?_
      refine CfgA.join (ι := Unit) (fun (_ : Unit) => [(bk,.cells (((nv L1 ++ jk).toArray.setIfInBounds ((first + r)) (uN ((L1.getD ((first + c)) 0)))).setIfInBounds ((first + c)) (uN ((L1.getD ((first + r)) 0)))) 73 (0,0))]) (fun (_ : Unit) => [(9,[],iN c),(0,[],.slice (some ⟨bk,0,none⟩) L.length cp),(2,[],iN hi),(3,[],iN first)]) ?_ ?_
      ·rintro ⟨⟩
       refine oB 0 rfl (show _ = ((nv (swpN L1 ((first + r)) ((first + c))) ++ jk).toArray) from nv_swp jk om om om om) ?_
       refine Rq [0,2,3,8] ?_
       refine Cfg.again rfl (c,swpN L1 (first + r) (first + c),n9 - 1) ⟨by omega,by rw [swpN_len]; exact hl1,by omega,by have h9 := siftF_go (hi := hi) (first := first) (n := n9 - 1) (r := r) (L := L1) om (by rw [← hc]; omega); rw [← hc,show n9 - 1 + 1 = n9 by omega] at h9; exact h9.symm.trans hra⟩ (by show n9 - 1 < n9; omega) (Conv.mk kr) (.cons_cons _ .slnil)
      ·intro hj
       refine CfgA.pure [0,1,2,3,4,5,6,7,8,9,10,11,12,14,15,16,17,18] [] (some [0,2,3,9,53,56,57,60,65,71]) (l' := (bF 516095 24)) kr kr (.cons _ .slnil) 6 rfl (Γ' := [(71,[],.pointer (some ⟨bk,(first + r),none⟩)),(65,[],.pointer (some ⟨bk,(first + c),none⟩)),(60,[],.int .i64 ((first : Int) + (c : Int))),(57,[],.slice (some ⟨bk,0,none⟩) L.length cp),(56,[],.int .i64 ((first : Int) + (r : Int))),(53,[],.slice (some ⟨bk,0,none⟩) L.length cp),(9,[],iN c),(0,[],.slice (some ⟨bk,0,none⟩) L.length cp),(2,[],iN hi),(3,[],iN first)]) (nd := (fun _ => [(i6 ((first : Int) + (r : Int))),(i6 ((first : Int) + (c : Int))),(i6 ((first : Int) + (c : Int))),(0 ≤ ((first : Int) + (c : Int)) ∧ ((first : Int) + (c : Int)) < (L.length : Int)),(i6 ((first : Int) + (r : Int))),(0 ≤ ((first : Int) + (r : Int)) ∧ ((first : Int) + (r : Int)) < (L.length : Int))])) (fun _ => kr) ⟨om,om,om,om,om,om,trivial⟩ ?_
       refine CfgA.two 13 19 kr (fuel' := 5) rfl ?_ ?_
       ·
        refine Iu rfl  (Eff.quiet (raw := false) (orc := some (uN ((L1.getD ((first + c)) 0)))) (v := uN ((L1.getD ((first + c)) 0))) (nd := (fun S => [(cE S bk (first + c) (uN ((L1.getD ((first + c)) 0))))])) (fun _ => kr) ⟨(fun w1 h => h.ocell 0 rfl (nv_at jk om om)),trivial⟩ kr) (fun _ _ => List.nil_sublist _) ?_
        refine Au 19 rfl 4  (Eff.quiet (raw := false) (orc := some (uN ((L1.getD ((first + r)) 0)))) (v := uN ((L1.getD ((first + r)) 0))) (nd := (fun S => [(cE S bk (first + r) (uN ((L1.getD ((first + r)) 0))))])) (fun _ => kr) ⟨(fun w1 h => h.ocell 0 rfl (nv_at jk om om)),trivial⟩ kr) (fun _ _ => List.nil_sublist _) ?_
        refine Ap [20] [] (some [0,2,3,9,57,60,66,72,73]) (tF 21 3) (.cons _ .slnil) 3 (fun _ => [(0 ≤ ((first : Int) + (r : Int)) ∧ ((first : Int) + (r : Int)) < (L.length : Int))]) ⟨om,trivial⟩ ?_
        refine Au 21 rfl 2  (Eff.store1 (b := bk) (off := (first + r)) (v := uN ((L1.getD ((first + c)) 0))) rfl kr kr rfl kr 0 (cs := (nv L1 ++ jk).toArray) (e := 73) kr (by rw [nv_size]; omega)) (fun _ _ => List.nil_sublist _) ?_
        refine Ap [22] [] (some [0,2,3,9,72,74]) (tF 23 1) (.cons _ .slnil) 1 (fun _ => [(0 ≤ ((first : Int) + (c : Int)) ∧ ((first : Int) + (c : Int)) < (L.length : Int))]) ⟨om,trivial⟩ ?_
        refine Au 23 rfl 0  (Eff.store1 (b := bk) (off := (first + c)) (v := uN ((L1.getD ((first + r)) 0))) rfl kr kr rfl kr 0 (cs := ((nv L1 ++ jk).toArray.setIfInBounds ((first + r)) (uN ((L1.getD ((first + c)) 0))))) (e := 73) kr (by rw [Array.size_setIfInBounds,nv_size]; omega)) (fun _ _ => List.nil_sublist _) ?_
        refine CfgA.done kr ?_
        refine Cg (Γ' := [(9,[],iN c),(0,[],.slice (some ⟨bk,0,none⟩) L.length cp),(2,[],iN hi),(3,[],iN first)]) ?_
        refine Cg (Γ' := [(9,[],iN c),(0,[],.slice (some ⟨bk,0,none⟩) L.length cp),(2,[],iN hi),(3,[],iN first)]) ?_
        exact hj ()
       ·
        refine Iu rfl  (Eff.quiet (raw := false) (orc := some (uN ((L1.getD ((first + r)) 0)))) (v := uN ((L1.getD ((first + r)) 0))) (nd := (fun S => [(cE S bk (first + r) (uN ((L1.getD ((first + r)) 0))))])) (fun _ => kr) ⟨(fun w1 h => h.ocell 0 rfl (nv_at jk om om)),trivial⟩ kr) (fun _ _ => List.nil_sublist _) ?_
        refine Au 13 rfl 4  (Eff.quiet (raw := false) (orc := some (uN ((L1.getD ((first + c)) 0)))) (v := uN ((L1.getD ((first + c)) 0))) (nd := (fun S => [(cE S bk (first + c) (uN ((L1.getD ((first + c)) 0))))])) (fun _ => kr) ⟨(fun w1 h => h.ocell 0 rfl (nv_at jk om om)),trivial⟩ kr) (fun _ _ => List.nil_sublist _) ?_
        refine Ap [20] [] (some [0,2,3,9,57,60,66,72,73]) (tF 21 3) (.cons _ .slnil) 3 (fun _ => [(0 ≤ ((first : Int) + (r : Int)) ∧ ((first : Int) + (r : Int)) < (L.length : Int))]) ⟨om,trivial⟩ ?_
        refine Au 21 rfl 2  (Eff.store1 (b := bk) (off := (first + r)) (v := uN ((L1.getD ((first + c)) 0))) rfl kr kr rfl kr 0 (cs := (nv L1 ++ jk).toArray) (e := 73) kr (by rw [nv_size]; omega)) (fun _ _ => List.nil_sublist _) ?_
        refine Ap [22] [] (some [0,2,3,9,72,74]) (tF 23 1) (.cons _ .slnil) 1 (fun _ => [(0 ≤ ((first : Int) + (c : Int)) ∧ ((first : Int) + (c : Int)) < (L.length : Int))]) ⟨om,trivial⟩ ?_
        refine Au 23 rfl 0  (Eff.store1 (b := bk) (off := (first + c)) (v := uN ((L1.getD ((first + r)) 0))) rfl kr kr rfl kr 0 (cs := ((nv L1 ++ jk).toArray.setIfInBounds ((first + r)) (uN ((L1.getD ((first + c)) 0))))) (e := 73) kr (by rw [Array.size_setIfInBounds,nv_size]; omega)) (fun _ _ => List.nil_sublist _) ?_
        refine CfgA.done kr ?_
        refine Cg (Γ' := [(9,[],iN c),(0,[],.slice (some ⟨bk,0,none⟩) L.length cp),(2,[],iN hi),(3,[],iN first)]) ?_
        refine Cg (Γ' := [(9,[],iN c),(0,[],.slice (some ⟨bk,0,none⟩) L.length cp),(2,[],iN hi),(3,[],iN first)]) ?_
        exact hj ()
    ·have c3 := (dF c3r)
     have hch : childF L1 hi first (2 * r + 1) = 2 * r + 1 := by unfold childF; rw [if_neg (fun h9 => by have := h9.1; have := h9.2; omega)]
     obtain ⟨c,hc⟩ : ∃ c,c = childF L1 hi first (2 * r + 1) := ⟨_,rfl⟩
     have hci := childF_in L1 (hi := hi) (first := first) (c := 2 * r + 1) om
     rw [← hc] at hci hch
     refine sI 9 (show ((2 * (r : Int)) + 1) = (c : Int) from by rw [hch]; omega) ?_
     refine Cfg.begA rfl kr [(bk,.cells ((nv L1 ++ jk).toArray) 73 (0,0))] ?_
     refine Ap (List.range 12) [dZ,dZ,dZ,dZ,dZ,(dS (uN ((L1.getD ((first + r)) 0)))),dZ,dZ,dZ,dZ,dZ,(dS (uN ((L1.getD ((first + c)) 0))))] (some [0,2,3,8,9,44,50]) (tF 12 2) (.cons_cons _ .slnil) 2 (fun S => [(i6 ((first : Int) + (r : Int))),(0 ≤ ((first : Int) + (r : Int)) ∧ ((first : Int) + (r : Int)) < (L.length : Int)),(cE S bk (first + r) (uN ((L1.getD ((first + r)) 0)))),(i6 ((first : Int) + (c : Int))),(0 ≤ ((first : Int) + (c : Int)) ∧ ((first : Int) + (c : Int)) < (L.length : Int)),(cE S bk (first + c) (uN ((L1.getD ((first + c)) 0))))]) ⟨om,om,(fun w1 h => h.ocell 0 rfl (nv_at jk om om)),om,om,(fun w1 h => h.ocell 0 rfl (nv_at jk om om)),trivial⟩ ?_
     refine Au 12 rfl 1  (Eff.callA (.bool (decide ((((L1.getD ((first + r)) 0) : Nat) : Int) < (((L1.getD ((first + c)) 0) : Nat) : Int)))) rfl Tryz.func119 rfl rfl kr (fun w1 _ => cLess ((L1.getD ((first + r)) 0)) ((L1.getD ((first + c)) 0)) w1)) (fun _ _ => (.cons_cons _ .slnil)) ?_
     refine Ap [13] [] (some [0,2,3,8,9,52]) (tF 14 0) (.cons_cons _ .slnil) 0 n0 trivial ?_
     refine CfgA.done kr ?_
     refine Cfg.cond rfl (b := (!(decide ((((L1.getD ((first + r)) 0) : Nat) : Int) < (((L1.getD ((first + c)) 0) : Nat) : Int))))) kr (fun c5r => ?_) (fun c5r => ?_)
     ·have c5 := (dF (notT c5r))
      refine Cfg.ret rfl (rs := []) rfl [] trivial (fun w1 hp => ?_)
      have hfin : L1 = siftF hi first (hi + 1) lo L := by rw [← hra,show n9 = (n9 - 1) + 1 by omega]; exact (siftF_stop (.inr (by rw [← hc]; omega))).symm
      rw [← hfin]
      exact ⟨rfl,hp.ext,hp.own (bk,_) mH⟩
     ·have c5 := (dT (notF c5r))
      refine Cfg.begA rfl kr [] ?_
      refine CfgA.join (ι := Unit) (fun (_ : Unit) => [(bk,.cells (((nv L1 ++ jk).toArray.setIfInBounds ((first + r)) (uN ((L1.getD ((first + c)) 0)))).setIfInBounds ((first + c)) (uN ((L1.getD ((first + r)) 0)))) 73 (0,0))]) (fun (_ : Unit) => [(9,[],iN c),(0,[],.slice (some ⟨bk,0,none⟩) L.length cp),(2,[],iN hi),(3,[],iN first)]) ?_ ?_
      ·rintro ⟨⟩
       refine oB 0 rfl (show _ = ((nv (swpN L1 ((first + r)) ((first + c))) ++ jk).toArray) from nv_swp jk om om om om) ?_
       refine Rq [0,2,3,8] ?_
       refine Cfg.again rfl (c,swpN L1 (first + r) (first + c),n9 - 1) ⟨by omega,by rw [swpN_len]; exact hl1,by omega,by have h9 := siftF_go (hi := hi) (first := first) (n := n9 - 1) (r := r) (L := L1) om (by rw [← hc]; omega); rw [← hc,show n9 - 1 + 1 = n9 by omega] at h9; exact h9.symm.trans hra⟩ (by show n9 - 1 < n9; omega) (Conv.mk kr) (.cons_cons _ .slnil)
      ·intro hj
       refine CfgA.pure [0,1,2,3,4,5,6,7,8,9,10,11,12,14,15,16,17,18] [] (some [0,2,3,9,53,56,57,60,65,71]) (l' := (bF 516095 24)) kr kr (.cons _ .slnil) 6 rfl (Γ' := [(71,[],.pointer (some ⟨bk,(first + r),none⟩)),(65,[],.pointer (some ⟨bk,(first + c),none⟩)),(60,[],.int .i64 ((first : Int) + (c : Int))),(57,[],.slice (some ⟨bk,0,none⟩) L.length cp),(56,[],.int .i64 ((first : Int) + (r : Int))),(53,[],.slice (some ⟨bk,0,none⟩) L.length cp),(9,[],iN c),(0,[],.slice (some ⟨bk,0,none⟩) L.length cp),(2,[],iN hi),(3,[],iN first)]) (nd := (fun _ => [(i6 ((first : Int) + (r : Int))),(i6 ((first : Int) + (c : Int))),(i6 ((first : Int) + (c : Int))),(0 ≤ ((first : Int) + (c : Int)) ∧ ((first : Int) + (c : Int)) < (L.length : Int)),(i6 ((first : Int) + (r : Int))),(0 ≤ ((first : Int) + (r : Int)) ∧ ((first : Int) + (r : Int)) < (L.length : Int))])) (fun _ => kr) ⟨om,om,om,om,om,om,trivial⟩ ?_
       refine CfgA.two 13 19 kr (fuel' := 5) rfl ?_ ?_
       ·
        refine Iu rfl  (Eff.quiet (raw := false) (orc := some (uN ((L1.getD ((first + c)) 0)))) (v := uN ((L1.getD ((first + c)) 0))) (nd := (fun S => [(cE S bk (first + c) (uN ((L1.getD ((first + c)) 0))))])) (fun _ => kr) ⟨(fun w1 h => h.ocell 0 rfl (nv_at jk om om)),trivial⟩ kr) (fun _ _ => List.nil_sublist _) ?_
        refine Au 19 rfl 4  (Eff.quiet (raw := false) (orc := some (uN ((L1.getD ((first + r)) 0)))) (v := uN ((L1.getD ((first + r)) 0))) (nd := (fun S => [(cE S bk (first + r) (uN ((L1.getD ((first + r)) 0))))])) (fun _ => kr) ⟨(fun w1 h => h.ocell 0 rfl (nv_at jk om om)),trivial⟩ kr) (fun _ _ => List.nil_sublist _) ?_
        refine Ap [20] [] (some [0,2,3,9,57,60,66,72,73]) (tF 21 3) (.cons _ .slnil) 3 (fun _ => [(0 ≤ ((first : Int) + (r : Int)) ∧ ((first : Int) + (r : Int)) < (L.length : Int))]) ⟨om,trivial⟩ ?_
        refine Au 21 rfl 2  (Eff.store1 (b := bk) (off := (first + r)) (v := uN ((L1.getD ((first + c)) 0))) rfl kr kr rfl kr 0 (cs := (nv L1 ++ jk).toArray) (e := 73) kr (by rw [nv_size]; omega)) (fun _ _ => List.nil_sublist _) ?_
        refine Ap [22] [] (some [0,2,3,9,72,74]) (tF 23 1) (.cons _ .slnil) 1 (fun _ => [(0 ≤ ((first : Int) + (c : Int)) ∧ ((first : Int) + (c : Int)) < (L.length : Int))]) ⟨om,trivial⟩ ?_
        refine Au 23 rfl 0  (Eff.store1 (b := bk) (off := (first + c)) (v := uN ((L1.getD ((first + r)) 0))) rfl kr kr rfl kr 0 (cs := ((nv L1 ++ jk).toArray.setIfInBounds ((first + r)) (uN ((L1.getD ((first + c)) 0))))) (e := 73) kr (by rw [Array.size_setIfInBounds,nv_size]; omega)) (fun _ _ => List.nil_sublist _) ?_
        refine CfgA.done kr ?_
        refine Cg (Γ' := [(9,[],iN c),(0,[],.slice (some ⟨bk,0,none⟩) L.length cp),(2,[],iN hi),(3,[],iN first)]) ?_
        refine Cg (Γ' := [(9,[],iN c),(0,[],.slice (some ⟨bk,0,none⟩) L.length cp),(2,[],iN hi),(3,[],iN first)]) ?_
        exact hj ()
       ·
        refine Iu rfl  (Eff.quiet (raw := false) (orc := some (uN ((L1.getD ((first + r)) 0)))) (v := uN ((L1.getD ((first + r)) 0))) (nd := (fun S => [(cE S bk (first + r) (uN ((L1.getD ((first + r)) 0))))])) (fun _ => kr) ⟨(fun w1 h => h.ocell 0 rfl (nv_at jk om om)),trivial⟩ kr) (fun _ _ => List.nil_sublist _) ?_
        refine Au 13 rfl 4  (Eff.quiet (raw := false) (orc := some (uN ((L1.getD ((first + c)) 0)))) (v := uN ((L1.getD ((first + c)) 0))) (nd := (fun S => [(cE S bk (first + c) (uN ((L1.getD ((first + c)) 0))))])) (fun _ => kr) ⟨(fun w1 h => h.ocell 0 rfl (nv_at jk om om)),trivial⟩ kr) (fun _ _ => List.nil_sublist _) ?_
        refine Ap [20] [] (some [0,2,3,9,57,60,66,72,73]) (tF 21 3) (.cons _ .slnil) 3 (fun _ => [(0 ≤ ((first : Int) + (r : Int)) ∧ ((first : Int) + (r : Int)) < (L.length : Int))]) ⟨om,trivial⟩ ?_
        refine Au 21 rfl 2  (Eff.store1 (b := bk) (off := (first + r)) (v := uN ((L1.getD ((first + c)) 0))) rfl kr kr rfl kr 0 (cs := (nv L1 ++ jk).toArray) (e := 73) kr (by rw [nv_size]; omega)) (fun _ _ => List.nil_sublist _) ?_
        refine Ap [22] [] (some [0,2,3,9,72,74]) (tF 23 1) (.cons _ .slnil) 1 (fun _ => [(0 ≤ ((first : Int) + (c : Int)) ∧ ((first : Int) + (c : Int)) < (L.length : Int))]) ⟨om,trivial⟩ ?_
        refine Au 23 rfl 0  (Eff.store1 (b := bk) (off := (first + c)) (v := uN ((L1.getD ((first + r)) 0))) rfl kr kr rfl kr 0 (cs := ((nv L1 ++ jk).toArray.setIfInBounds ((first + r)) (uN ((L1.getD ((first + c)) 0))))) (e := 73) kr (by rw [Array.size_setIfInBounds,nv_size]; omega)) (fun _ _ => List.nil_sublist _) ?_
        refine CfgA.done kr ?_
        refine Cg (Γ' := [(9,[],iN c),(0,[],.slice (some ⟨bk,0,none⟩) L.length cp),(2,[],iN hi),(3,[],iN first)]) ?_
        refine Cg (Γ' := [(9,[],iN c),(0,[],.slice (some ⟨bk,0,none⟩) L.length cp),(2,[],iN hi),(3,[],iN first)]) ?_
        exact hj ()
   ·have c2k : (decide ((((2 * (r : Int)) + 1) + 1) < (hi : Int))) = false := (by simpa using c2)
    have c2q := (dF c2k)
    refine CfgA.known 21 (b := (decide ((((2 * (r : Int)) + 1) + 1) < (hi : Int)))) kr false c2k ?_
    refine Ap [5,6,7,8,9,10,11,12,13,14,15,16,17,18,19] [(2,false,none),(2,false,none),(2,false,none),(2,false,none),(2,false,none),(2,false,none),(2,false,none),(2,false,none),(2,false,none),(2,false,none),(2,false,none),(2,false,none),(2,false,none),(2,false,none)] (some [0,2,3,8,9,36]) (tF 20 0) (.cons_cons _ .slnil) 0 (fun _ => [((.bool false : Value) ≠ .bool true),((.bool false : Value) ≠ .bool true),((.bool false : Value) ≠ .bool true),((.bool false : Value) ≠ .bool true),((.bool false : Value) ≠ .bool true),((.bool false : Value) ≠ .bool true),((.bool false : Value) ≠ .bool true),((.bool false : Value) ≠ .bool true),((.bool false : Value) ≠ .bool true),((.bool false : Value) ≠ .bool true),((.bool false : Value) ≠ .bool true),((.bool false : Value) ≠ .bool true),((.bool false : Value) ≠ .bool true),((.bool false : Value) ≠ .bool true)]) ⟨(by simp),(by simp),(by simp),(by simp),(by simp),(by simp),(by simp),(by simp),(by simp),(by simp),(by simp),(by simp),(by simp),(by simp),trivial⟩ ?_
    refine CfgA.done kr ?_
    refine Cfg.condF rfl (b := false) kr rfl ?_
    have hch : childF L1 hi first (2 * r + 1) = 2 * r + 1 := by unfold childF; rw [if_neg (fun h9 => by have := h9.1; have := h9.2; omega)]
    obtain ⟨c,hc⟩ : ∃ c,c = childF L1 hi first (2 * r + 1) := ⟨_,rfl⟩
    have hci := childF_in L1 (hi := hi) (first := first) (c := 2 * r + 1) om
    rw [← hc] at hci hch
    refine sI 9 (show ((2 * (r : Int)) + 1) = (c : Int) from by rw [hch]; omega) ?_
    refine Cfg.begA rfl kr [(bk,.cells ((nv L1 ++ jk).toArray) 73 (0,0))] ?_
    refine Ap (List.range 12) [dZ,dZ,dZ,dZ,dZ,(dS (uN ((L1.getD ((first + r)) 0)))),dZ,dZ,dZ,dZ,dZ,(dS (uN ((L1.getD ((first + c)) 0))))] (some [0,2,3,8,9,44,50]) (tF 12 2) (.cons_cons _ .slnil) 2 (fun S => [(i6 ((first : Int) + (r : Int))),(0 ≤ ((first : Int) + (r : Int)) ∧ ((first : Int) + (r : Int)) < (L.length : Int)),(cE S bk (first + r) (uN ((L1.getD ((first + r)) 0)))),(i6 ((first : Int) + (c : Int))),(0 ≤ ((first : Int) + (c : Int)) ∧ ((first : Int) + (c : Int)) < (L.length : Int)),(cE S bk (first + c) (uN ((L1.getD ((first + c)) 0))))]) ⟨om,om,(fun w1 h => h.ocell 0 rfl (nv_at jk om om)),om,om,(fun w1 h => h.ocell 0 rfl (nv_at jk om om)),trivial⟩ ?_
    refine Au 12 rfl 1  (Eff.callA (.bool (decide ((((L1.getD ((first + r)) 0) : Nat) : Int) < (((L1.getD ((first + c)) 0) : Nat) : Int)))) rfl Tryz.func119 rfl rfl kr (fun w1 _ => cLess ((L1.getD ((first + r)) 0)) ((L1.getD ((first + c)) 0)) w1)) (fun _ _ => (.cons_cons _ .slnil)) ?_
    refine Ap [13] [] (some [0,2,3,8,9,52]) (tF 14 0) (.cons_cons _ .slnil) 0 n0 trivial ?_
    refine CfgA.done kr ?_
    refine Cfg.cond rfl (b := (!(decide ((((L1.getD ((first + r)) 0) : Nat) : Int) < (((L1.getD ((first + c)) 0) : Nat) : Int))))) kr (fun c7r => ?_) (fun c7r => ?_)
    ·have c7 := (dF (notT c7r))
     refine Cfg.ret rfl (rs := []) rfl [] trivial (fun w1 hp => ?_)
     have hfin : L1 = siftF hi first (hi + 1) lo L := by rw [← hra,show n9 = (n9 - 1) + 1 by omega]; exact (siftF_stop (.inr (by rw [← hc]; omega))).symm
     rw [← hfin]
     exact ⟨rfl,hp.ext,hp.own (bk,_) mH⟩
    ·have c7 := (dT (notF c7r))
     refine Cfg.begA rfl kr [] ?_
     refine CfgA.join (ι := Unit) (fun (_ : Unit) => [(bk,.cells (((nv L1 ++ jk).toArray.setIfInBounds ((first + r)) (uN ((L1.getD ((first + c)) 0)))).setIfInBounds ((first + c)) (uN ((L1.getD ((first + r)) 0)))) 73 (0,0))]) (fun (_ : Unit) => [(9,[],iN c),(0,[],.slice (some ⟨bk,0,none⟩) L.length cp),(2,[],iN hi),(3,[],iN first)]) ?_ ?_
     ·rintro ⟨⟩
      refine oB 0 rfl (show _ = ((nv (swpN L1 ((first + r)) ((first + c))) ++ jk).toArray) from nv_swp jk om om om om) ?_
      refine Rq [0,2,3,8] ?_
      refine Cfg.again rfl (c,swpN L1 (first + r) (first + c),n9 - 1) ⟨by omega,by rw [swpN_len]; exact hl1,by omega,by have h9 := siftF_go (hi := hi) (first := first) (n := n9 - 1) (r := r) (L := L1) om (by rw [← hc]; omega); rw [← hc,show n9 - 1 + 1 = n9 by omega] at h9; exact h9.symm.trans hra⟩ (by show n9 - 1 < n9; omega) (Conv.mk kr) (.cons_cons _ .slnil)
     ·intro hj
      refine CfgA.pure [0,1,2,3,4,5,6,7,8,9,10,11,12,14,15,16,17,18] [] (some [0,2,3,9,53,56,57,60,65,71]) (l' := (bF 516095 24)) kr kr (.cons _ .slnil) 6 rfl (Γ' := [(71,[],.pointer (some ⟨bk,(first + r),none⟩)),(65,[],.pointer (some ⟨bk,(first + c),none⟩)),(60,[],.int .i64 ((first : Int) + (c : Int))),(57,[],.slice (some ⟨bk,0,none⟩) L.length cp),(56,[],.int .i64 ((first : Int) + (r : Int))),(53,[],.slice (some ⟨bk,0,none⟩) L.length cp),(9,[],iN c),(0,[],.slice (some ⟨bk,0,none⟩) L.length cp),(2,[],iN hi),(3,[],iN first)]) (nd := (fun _ => [(i6 ((first : Int) + (r : Int))),(i6 ((first : Int) + (c : Int))),(i6 ((first : Int) + (c : Int))),(0 ≤ ((first : Int) + (c : Int)) ∧ ((first : Int) + (c : Int)) < (L.length : Int)),(i6 ((first : Int) + (r : Int))),(0 ≤ ((first : Int) + (r : Int)) ∧ ((first : Int) + (r : Int)) < (L.length : Int))])) (fun _ => kr) ⟨om,om,om,om,om,om,trivial⟩ ?_
      refine CfgA.two 13 19 kr (fuel' := 5) rfl ?_ ?_
      ·
       refine Iu rfl  (Eff.quiet (raw := false) (orc := some (uN ((L1.getD ((first + c)) 0)))) (v := uN ((L1.getD ((first + c)) 0))) (nd := (fun S => [(cE S bk (first + c) (uN ((L1.getD ((first + c)) 0))))])) (fun _ => kr) ⟨(fun w1 h => h.ocell 0 rfl (nv_at jk om om)),trivial⟩ kr) (fun _ _ => List.nil_sublist _) ?_
       refine Au 19 rfl 4  (Eff.quiet (raw := false) (orc := some (uN ((L1.getD ((first + r)) 0)))) (v := uN ((L1.getD ((first + r)) 0))) (nd := (fun S => [(cE S bk (first + r) (uN ((L1.getD ((first + r)) 0))))])) (fun _ => kr) ⟨(fun w1 h => h.ocell 0 rfl (nv_at jk om om)),trivial⟩ kr) (fun _ _ => List.nil_sublist _) ?_
       refine Ap [20] [] (some [0,2,3,9,57,60,66,72,73]) (tF 21 3) (.cons _ .slnil) 3 (fun _ => [(0 ≤ ((first : Int) + (r : Int)) ∧ ((first : Int) + (r : Int)) < (L.length : Int))]) ⟨om,trivial⟩ ?_
       refine Au 21 rfl 2  (Eff.store1 (b := bk) (off := (first + r)) (v := uN ((L1.getD ((first + c)) 0))) rfl kr kr rfl kr 0 (cs := (nv L1 ++ jk).toArray) (e := 73) kr (by rw [nv_size]; omega)) (fun _ _ => List.nil_sublist _) ?_
       refine Ap [22] [] (some [0,2,3,9,72,74]) (tF 23 1) (.cons _ .slnil) 1 (fun _ => [(0 ≤ ((first : Int) + (c : Int)) ∧ ((first : Int) + (c : Int)) < (L.length : Int))]) ⟨om,trivial⟩ ?_
       refine Au 23 rfl 0  (Eff.store1 (b := bk) (off := (first + c)) (v := uN ((L1.getD ((first + r)) 0))) rfl kr kr rfl kr 0 (cs := ((nv L1 ++ jk).toArray.setIfInBounds ((first + r)) (uN ((L1.getD ((first + c)) 0))))) (e := 73) kr (by rw [Array.size_setIfInBounds,nv_size]; omega)) (fun _ _ => List.nil_sublist _) ?_
       refine CfgA.done kr ?_
       refine Cg (Γ' := [(9,[],iN c),(0,[],.slice (some ⟨bk,0,none⟩) L.length cp),(2,[],iN hi),(3,[],iN first)]) ?_
       refine Cg (Γ' := [(9,[],iN c),(0,[],.slice (some ⟨bk,0,none⟩) L.length cp),(2,[],iN hi),(3,[],iN first)]) ?_
       exact hj ()
      ·
       refine Iu rfl  (Eff.quiet (raw := false) (orc := some (uN ((L1.getD ((first + r)) 0)))) (v := uN ((L1.getD ((first + r)) 0))) (nd := (fun S => [(cE S bk (first + r) (uN ((L1.getD ((first + r)) 0))))])) (fun _ => kr) ⟨(fun w1 h => h.ocell 0 rfl (nv_at jk om om)),trivial⟩ kr) (fun _ _ => List.nil_sublist _) ?_
       refine Au 13 rfl 4  (Eff.quiet (raw := false) (orc := some (uN ((L1.getD ((first + c)) 0)))) (v := uN ((L1.getD ((first + c)) 0))) (nd := (fun S => [(cE S bk (first + c) (uN ((L1.getD ((first + c)) 0))))])) (fun _ => kr) ⟨(fun w1 h => h.ocell 0 rfl (nv_at jk om om)),trivial⟩ kr) (fun _ _ => List.nil_sublist _) ?_
       refine Ap [20] [] (some [0,2,3,9,57,60,66,72,73]) (tF 21 3) (.cons _ .slnil) 3 (fun _ => [(0 ≤ ((first : Int) + (r : Int)) ∧ ((first : Int) + (r : Int)) < (L.length : Int))]) ⟨om,trivial⟩ ?_
       refine Au 21 rfl 2  (Eff.store1 (b := bk) (off := (first + r)) (v := uN ((L1.getD ((first + c)) 0))) rfl kr kr rfl kr 0 (cs := (nv L1 ++ jk).toArray) (e := 73) kr (by rw [nv_size]; omega)) (fun _ _ => List.nil_sublist _) ?_
       refine Ap [22] [] (some [0,2,3,9,72,74]) (tF 23 1) (.cons _ .slnil) 1 (fun _ => [(0 ≤ ((first : Int) + (c : Int)) ∧ ((first : Int) + (c : Int)) < (L.length : Int))]) ⟨om,trivial⟩ ?_
       refine Au 23 rfl 0  (Eff.store1 (b := bk) (off := (first + c)) (v := uN ((L1.getD ((first + r)) 0))) rfl kr kr rfl kr 0 (cs := ((nv L1 ++ jk).toArray.setIfInBounds ((first + r)) (uN ((L1.getD ((first + c)) 0))))) (e := 73) kr (by rw [Array.size_setIfInBounds,nv_size]; omega)) (fun _ _ => List.nil_sublist _) ?_
       refine CfgA.done kr ?_
       refine Cg (Γ' := [(9,[],iN c),(0,[],.slice (some ⟨bk,0,none⟩) L.length cp),(2,[],iN hi),(3,[],iN first)]) ?_
       refine Cg (Γ' := [(9,[],iN c),(0,[],.slice (some ⟨bk,0,none⟩) L.length cp),(2,[],iN hi),(3,[],iN first)]) ?_
       exact hj ()
set_option maxRecDepth 100000 in
set_option maxHeartbeats 1000000 in
theorem sHeap (bk cp : Nat) (jk : List Value) (L : List Nat) (a b : Nat) (w : World) (hB : w.heap[bk]? = some (.cells (nv L ++ jk).toArray 73 (0,0))) (hL : L.length ≤ 1000000) (hb : b ≤ L.length) (hab : a < b) :
  Calls Tryz.prog 114 #[.slice (some ⟨bk,0,none⟩) L.length cp,.int .i64 (a : Int),.int .i64 (b : Int)] w fun e w' => e = .returned (.tuple #[]) ∧ Ext [bk] w w' ∧ w'.heap[bk]? = some (.cells (nv (heapF L a b) ++ jk).toArray 73 (0,0)) := by
 refine enter [bk] [] [(bk,.cells ((nv L ++ jk).toArray) 73 (0,0))] Tryz.func114 rfl kr (HP.startM (R := []) (fun _ h => by cases h) hB (by simp)) ?_
 refine Rq [0,1,2,6] ?_
 refine Rq [0,1,2,6,7] ?_
 refine Rg [0,6,7,8] [] (fun _ => [(i6 ((b : Int) - (a : Int)))]) ⟨om,trivial⟩ ?_
 refine Rg [0,6,7,8,9] [] (fun _ => [(i6 (((b : Int) - (a : Int)) - 1)),(0 ≤ (((b : Int) - (a : Int)) - 1) ∧ (((b : Int) - (a : Int)) - 1) ≤ 9223372036854775807 ∧ 0 < (2 : Int))]) ⟨om,om,trivial⟩ ?_
 refine sI 8 (show ((b : Int) - (a : Int)) = (((b - a) : Nat) : Int) from by omega) ?_
 refine sI 9 (show ((((b : Int) - (a : Int)) - 1) / 2) = (((((b - a + 1) / 2) : Nat) : Int) - 1) from by omega) ?_
 refine Cfg.loop rfl (ι := Nat × List Nat) (fun (xz : Nat × List Nat) => match xz with | (i,L1) => [(9,[],.int .i64 ((i : Int) - 1)),(8,[],iN ((b - a))),(7,[],.int .i64 0),(6,[],iN a),(0,[],.slice (some ⟨bk,0,none⟩) L.length cp)]) (fun (xz : Nat × List Nat) => match xz with | (i,L1) => [(bk,.cells ((nv L1 ++ jk).toArray) 73 (0,0))]) (fun (xz : Nat × List Nat) => match xz with | (i,L1) => (i ≤ (b - a + 1) / 2) ∧ (L1.length = L.length) ∧ (heapB (b - a) a i L1 = heapB (b - a) a ((b - a + 1) / 2) L)) (fun (xz : Nat × List Nat) => match xz with | (i,L1) => i) ((b - a + 1) / 2,L) ?_ (Conv.mk kr) (.cons_cons _ .slnil) ?_
 ·exact ⟨Nat.le_refl _,rfl,rfl⟩
 ·rintro ⟨i,L1⟩ ⟨hi,hl1,hra⟩
  refine Rq [0,6,7,8,9,19] ?_
  refine Cfg.cond rfl (b := (decide (((i : Int) - 1) ≥ (0 : Int)))) kr (fun c1r => ?_) (fun c1r => ?_)
  ·have c1 := (dT c1r)
   refine sI 9 (show ((i : Int) - 1) = (((i - 1) : Nat) : Int) from by omega) ?_
   refine Cfg.begL rfl ?_
   refine Lq 4 [0,6,7,8,9,22,23,24,25] ?_
   refine Lu (Eff.callM (vs := [.slice (some ⟨bk,0,none⟩) L.length cp,iN ((i - 1)),iN ((b - a)),iN a]) (.tuple #[]) 0 (b := bk) (ob := .cells (nv L1 ++ jk).toArray 73 (0,0)) (.cells (nv (siftF (b - a) a (b - a + 1) (i - 1) L1) ++ jk).toArray 73 (0,0)) rfl Tryz.func135 rfl rfl kr kr (fun w1 h => by have h9 := sSift bk cp jk L1 (i - 1) (b - a) a w1 (h.own (bk,_) (mG 0 rfl)) om om om; rw [hl1] at h9; exact h9)) ?_
   refine CfgL.done rfl ?_
   refine Cg (Γ' := [(9,[],iN ((i - 1))),(8,[],iN ((b - a))),(7,[],.int .i64 0),(6,[],iN a),(0,[],.slice (some ⟨bk,0,none⟩) L.length cp)]) ?_
   refine Rg [0,6,7,8,9] [] (fun _ => [(i6 ((((i - 1) : Nat) : Int) - 1))]) ⟨om,trivial⟩ ?_
   refine sI 9 (show ((((i - 1) : Nat) : Int) - 1) = ((((i - 1) : Nat) : Int) - 1) from by omega) ?_
   refine Cfg.again rfl (i - 1,siftF (b - a) a (b - a + 1) (i - 1) L1) ⟨by omega,by rw [siftF_len]; exact hl1,by have h9 := hra; rw [show i = (i - 1) + 1 by omega,heapB] at h9; exact h9⟩ (by show i - 1 < i; omega) (Conv.mk kr) (.cons_cons _ .slnil)
  ·have c1 := (dF c1r)
   have hL1e : L1 = heapB (b - a) a ((b - a + 1) / 2) L := by rw [← hra,show i = 0 by omega]; rfl
   refine Rg [0,6,7,10] [] (fun _ => [(i6 ((((b - a) : Nat) : Int) - 1))]) ⟨om,trivial⟩ ?_
   refine sI 10 (show ((((b - a) : Nat) : Int) - 1) = ((((b - a) : Nat) : Int) - 1) from rfl) ?_
   refine Cfg.loop rfl (ι := Nat × List Nat) (fun (xz : Nat × List Nat) => match xz with | (i,L2) => [(10,[],.int .i64 ((i : Int) - 1)),(7,[],.int .i64 0),(6,[],iN a),(0,[],.slice (some ⟨bk,0,none⟩) L.length cp)]) (fun (xz : Nat × List Nat) => match xz with | (i,L2) => [(bk,.cells ((nv L2 ++ jk).toArray) 73 (0,0))]) (fun (xz : Nat × List Nat) => match xz with | (i,L2) => (i ≤ b - a) ∧ (L2.length = L.length) ∧ (heapP a i L2 = heapF L a b)) (fun (xz : Nat × List Nat) => match xz with | (i,L2) => i) (b - a,L1) ?_ (Conv.mk kr) (.cons_cons _ .slnil) ?_
   ·exact ⟨Nat.le_refl _,hl1,by rw [hL1e]; rfl⟩
   ·rintro ⟨i,L2⟩ ⟨hi2,hl2,hrb⟩
    refine Rq [0,6,7,10,30] ?_
    refine Cfg.cond rfl (b := (decide (((i : Int) - 1) ≥ (0 : Int)))) kr (fun c2r => ?_) (fun c2r => ?_)
    ·have c2 := (dT c2r)
     refine sI 10 (show ((i : Int) - 1) = (((i - 1) : Nat) : Int) from by omega) ?_
     refine Cfg.begA rfl kr [] ?_
     refine CfgA.join (ι := Unit) (fun (_ : Unit) => [(bk,.cells (((nv L2 ++ jk).toArray.setIfInBounds a (uN ((L2.getD ((a + ((i - 1)))) 0)))).setIfInBounds ((a + ((i - 1)))) (uN (L2.getD a 0))) 73 (0,0))]) (fun (_ : Unit) => [(10,[],iN ((i - 1))),(7,[],.int .i64 0),(6,[],iN a),(0,[],.slice (some ⟨bk,0,none⟩) L.length cp)]) ?_ ?_
     ·rintro ⟨⟩
      refine oB 0 rfl (show _ = ((nv (swpN L2 a ((a + ((i - 1))))) ++ jk).toArray) from nv_swp jk om om om om) ?_
      refine Cfg.begL rfl ?_
      refine Lp 4 [] none n0 trivial ?_
      refine Lu (Eff.callM (vs := [.slice (some ⟨bk,0,none⟩) L.length cp,.int .i64 0,iN ((i - 1)),iN a]) (.tuple #[]) 0 (b := bk) (ob := .cells (nv (swpN L2 a ((a + ((i - 1))))) ++ jk).toArray 73 (0,0)) (.cells (nv (siftF (i - 1) a (i - 1 + 1) 0 (swpN L2 a (a + (i - 1)))) ++ jk).toArray 73 (0,0)) rfl Tryz.func135 rfl rfl kr kr (fun w1 h => by have h9 := sSift bk cp jk (swpN L2 a (a + (i - 1))) 0 (i - 1) a w1 (h.own (bk,_) (mG 0 rfl)) (by rw [swpN_len]; omega) (by rw [swpN_len]; omega) om; rw [swpN_len,hl2] at h9; exact h9)) ?_
      refine CfgL.done rfl ?_
      refine Cg (Γ' := [(10,[],iN ((i - 1))),(7,[],.int .i64 0),(6,[],iN a),(0,[],.slice (some ⟨bk,0,none⟩) L.length cp)]) ?_
      refine Rg [0,6,7,10] [] (fun _ => [(i6 ((((i - 1) : Nat) : Int) - 1))]) ⟨om,trivial⟩ ?_
      refine sI 10 (show ((((i - 1) : Nat) : Int) - 1) = ((((i - 1) : Nat) : Int) - 1) from by omega) ?_
      refine Cfg.again rfl (i - 1,siftF (i - 1) a (i - 1 + 1) 0 (swpN L2 a (a + (i - 1)))) ⟨by omega,by rw [siftF_len,swpN_len]; exact hl2,by have h9 := hrb; rw [show i = (i - 1) + 1 by omega,heapP] at h9; exact h9⟩ (by show i - 1 < i; omega) (Conv.mk kr) (.cons_cons _ .slnil)
     ·intro hj
      refine CfgA.pure [0,1,2,3,4,5,6,7,8,9,10,12,13,14] [] (some [0,6,7,10,33,34,35,38,43,47]) (l' := (bF 30719 20)) kr kr (.cons _ .slnil) 6 rfl (Γ' := [(47,[],.pointer (some ⟨bk,a,none⟩)),(43,[],.pointer (some ⟨bk,(a + ((i - 1))),none⟩)),(38,[],.int .i64 ((a : Int) + (((i - 1) : Nat) : Int))),(35,[],.slice (some ⟨bk,0,none⟩) L.length cp),(34,[],iN a),(33,[],.slice (some ⟨bk,0,none⟩) L.length cp),(10,[],iN ((i - 1))),(7,[],.int .i64 0),(6,[],iN a),(0,[],.slice (some ⟨bk,0,none⟩) L.length cp)]) (nd := (fun _ => [(i6 ((a : Int) + (((i - 1) : Nat) : Int))),(i6 ((a : Int) + (((i - 1) : Nat) : Int))),(0 ≤ ((a : Int) + (((i - 1) : Nat) : Int)) ∧ ((a : Int) + (((i - 1) : Nat) : Int)) < (L.length : Int)),(0 ≤ (a : Int) ∧ (a : Int) < (L.length : Int))])) (fun _ => kr) ⟨om,om,om,om,trivial⟩ ?_
      refine CfgA.two 11 15 kr (fuel' := 5) rfl ?_ ?_
      ·
       refine Iu rfl  (Eff.quiet (raw := false) (orc := some (uN ((L2.getD ((a + ((i - 1)))) 0)))) (v := uN ((L2.getD ((a + ((i - 1)))) 0))) (nd := (fun S => [(cE S bk (a + ((i - 1))) (uN ((L2.getD ((a + ((i - 1)))) 0))))])) (fun _ => kr) ⟨(fun w1 h => h.ocell 0 rfl (nv_at jk om om)),trivial⟩ kr) (fun _ _ => List.nil_sublist _) ?_
       refine Au 15 rfl 4  (Eff.quiet (raw := false) (orc := some (uN (L2.getD a 0))) (v := uN (L2.getD a 0)) (nd := (fun S => [(cE S bk a (uN (L2.getD a 0)))])) (fun _ => kr) ⟨(fun w1 h => h.ocell 0 rfl (nv_at jk om om)),trivial⟩ kr) (fun _ _ => List.nil_sublist _) ?_
       refine Ap [16] [] (some [0,6,7,10,35,38,44,48,49]) (tF 17 3) (.cons _ .slnil) 3 (fun _ => [(0 ≤ (a : Int) ∧ (a : Int) < (L.length : Int))]) ⟨om,trivial⟩ ?_
       refine Au 17 rfl 2  (Eff.store1 (b := bk) (off := a) (v := uN ((L2.getD ((a + ((i - 1)))) 0))) rfl kr kr rfl kr 0 (cs := (nv L2 ++ jk).toArray) (e := 73) kr (by rw [nv_size]; omega)) (fun _ _ => List.nil_sublist _) ?_
       refine Ap [18] [] (some [0,6,7,10,48,50]) (tF 19 1) (.cons _ .slnil) 1 (fun _ => [(0 ≤ ((a : Int) + (((i - 1) : Nat) : Int)) ∧ ((a : Int) + (((i - 1) : Nat) : Int)) < (L.length : Int))]) ⟨om,trivial⟩ ?_
       refine Au 19 rfl 0  (Eff.store1 (b := bk) (off := (a + ((i - 1)))) (v := uN (L2.getD a 0)) rfl kr kr rfl kr 0 (cs := ((nv L2 ++ jk).toArray.setIfInBounds a (uN ((L2.getD ((a + ((i - 1)))) 0))))) (e := 73) kr (by rw [Array.size_setIfInBounds,nv_size]; omega)) (fun _ _ => List.nil_sublist _) ?_
       refine CfgA.done kr ?_
       refine Cg (Γ' := [(10,[],iN ((i - 1))),(7,[],.int .i64 0),(6,[],iN a),(0,[],.slice (some ⟨bk,0,none⟩) L.length cp)]) ?_
       refine Cg (Γ' := [(10,[],iN ((i - 1))),(7,[],.int .i64 0),(6,[],iN a),(0,[],.slice (some ⟨bk,0,none⟩) L.length cp)]) ?_
       exact hj ()
      ·
       refine Iu rfl  (Eff.quiet (raw := false) (orc := some (uN (L2.getD a 0))) (v := uN (L2.getD a 0)) (nd := (fun S => [(cE S bk a (uN (L2.getD a 0)))])) (fun _ => kr) ⟨(fun w1 h => h.ocell 0 rfl (nv_at jk om om)),trivial⟩ kr) (fun _ _ => List.nil_sublist _) ?_
       refine Au 11 rfl 4  (Eff.quiet (raw := false) (orc := some (uN ((L2.getD ((a + ((i - 1)))) 0)))) (v := uN ((L2.getD ((a + ((i - 1)))) 0))) (nd := (fun S => [(cE S bk (a + ((i - 1))) (uN ((L2.getD ((a + ((i - 1)))) 0))))])) (fun _ => kr) ⟨(fun w1 h => h.ocell 0 rfl (nv_at jk om om)),trivial⟩ kr) (fun _ _ => List.nil_sublist _) ?_
       refine Ap [16] [] (some [0,6,7,10,35,38,44,48,49]) (tF 17 3) (.cons _ .slnil) 3 (fun _ => [(0 ≤ (a : Int) ∧ (a : Int) < (L.length : Int))]) ⟨om,trivial⟩ ?_
       refine Au 17 rfl 2  (Eff.store1 (b := bk) (off := a) (v := uN ((L2.getD ((a + ((i - 1)))) 0))) rfl kr kr rfl kr 0 (cs := (nv L2 ++ jk).toArray) (e := 73) kr (by rw [nv_size]; omega)) (fun _ _ => List.nil_sublist _) ?_
       refine Ap [18] [] (some [0,6,7,10,48,50]) (tF 19 1) (.cons _ .slnil) 1 (fun _ => [(0 ≤ ((a : Int) + (((i - 1) : Nat) : Int)) ∧ ((a : Int) + (((i - 1) : Nat) : Int)) < (L.length : Int))]) ⟨om,trivial⟩ ?_
       refine Au 19 rfl 0  (Eff.store1 (b := bk) (off := (a + ((i - 1)))) (v := uN (L2.getD a 0)) rfl kr kr rfl kr 0 (cs := ((nv L2 ++ jk).toArray.setIfInBounds a (uN ((L2.getD ((a + ((i - 1)))) 0))))) (e := 73) kr (by rw [Array.size_setIfInBounds,nv_size]; omega)) (fun _ _ => List.nil_sublist _) ?_
       refine CfgA.done kr ?_
       refine Cg (Γ' := [(10,[],iN ((i - 1))),(7,[],.int .i64 0),(6,[],iN a),(0,[],.slice (some ⟨bk,0,none⟩) L.length cp)]) ?_
       refine Cg (Γ' := [(10,[],iN ((i - 1))),(7,[],.int .i64 0),(6,[],iN a),(0,[],.slice (some ⟨bk,0,none⟩) L.length cp)]) ?_
       exact hj ()
    ·have c2 := (dF c2r)
     refine Cfg.fin rfl (rs := []) rfl [] trivial (fun w1 hp => ?_)
     have hfin : L2 = heapF L a b := by rw [← hrb,show i = 0 by omega]; rfl
     rw [← hfin]
     exact ⟨rfl,hp.ext,hp.own (bk,_) mH⟩
end Go.Proofs.YtbeeelgfhfmgbaaGreatDoor
namespace Go.Proofs.YtbeeelgfhfmgbaaGreatDoor
open K
set_option linter.unusedVariables false
set_option maxRecDepth 100000 in
set_option maxHeartbeats 1000000 in
theorem sOrd (bk cp : Nat) (jk : List Value) (L : List Nat) (sp s : Nat) (a b : Nat) (w : World) (hB : w.heap[bk]? = some (.cells (nv L ++ jk).toArray 73 (0,0))) (hS : w.heap[sp]? = some (.cells #[.int .i64 (s : Int)] 3 (0,0))) (hne : sp ≠ bk) (hL : L.length ≤ 1000000) (hs : s ≤ 1100) (ha : a < L.length) (hb : b < L.length) :
  Calls Tryz.prog 143 #[.slice (some ⟨bk,0,none⟩) L.length cp,.int .i64 (a : Int),.int .i64 (b : Int),.pointer (some ⟨sp,0,none⟩)] w fun e w' => e = .returned (.tuple #[.int .i64 ((ord2 L a b s).1 : Int),.int .i64 ((ord2 L a b s).2.1 : Int)]) ∧ Ext [sp] w w' ∧ w'.heap[sp]? = some (.cells #[.int .i64 ((ord2 L a b s).2.2 : Int)] 3 (0,0)) := by
 refine enter [sp] [(bk,.cells ((nv L ++ jk).toArray) 73 (0,0))] [(sp,.cells #[iN s] 3 (0,0))] Tryz.func143 rfl kr (HP.startM (R := [(bk,.cells (nv L ++ jk).toArray 73 (0,0))]) (fun e he => by rw [List.mem_singleton.1 he]; exact hB) hS (by simpa using hne)) ?_
 refine Rq [0,1,2,3] ?_
 refine Cfg.begA rfl kr [(sp,.cells #[iN s] 3 (0,0))] ?_
 refine Ap (List.range 8) [dZ,dZ,dZ,(dS (uN (L.getD b 0))),dZ,dZ,dZ,(dS (uN (L.getD a 0)))] (some [1,2,3,13,17]) (tF 8 1) (.cons_cons _ .slnil) 1 (fun S => [(0 ≤ (b : Int) ∧ (b : Int) < (L.length : Int)),(cE S bk b (uN (L.getD b 0))),(0 ≤ (a : Int) ∧ (a : Int) < (L.length : Int)),(cE S bk a (uN (L.getD a 0)))]) ⟨om,(fun w1 h => h.rcell 0 rfl (nv_at jk om om)),om,(fun w1 h => h.rcell 0 rfl (nv_at jk om om)),trivial⟩ ?_
 refine Au 8 rfl 0  (Eff.callA (.bool (decide (((L.getD b 0) : Int) < ((L.getD a 0) : Int)))) rfl Tryz.func119 rfl rfl kr (fun w1 _ => cLess ((L.getD b 0)) ((L.getD a 0)) w1)) (fun _ _ => (.cons_cons _ .slnil)) ?_
 refine CfgA.done kr ?_
 refine Cg (Γ' := [(18,[],.bool (decide (((L.getD b 0) : Int) < ((L.getD a 0) : Int)))),(1,[],iN a),(2,[],iN b),(3,[],pT sp)]) ?_
 refine Cfg.cond rfl (b := (decide (((L.getD b 0) : Int) < ((L.getD a 0) : Int)))) kr (fun c1r => ?_) (fun c1r => ?_)
 ·have c1 := (dT c1r)
  refine Cfg.begL rfl ?_
  refine Lp 5 [dZ,dZ,(dS (iN s))] (some [1,2,22,23]) (fun S => [(cE S sp 0 (iN s)),(i6 ((s : Int) + 1))]) ⟨(oC 0 rfl rfl),om,trivial⟩ ?_
  refine Lu (Eff.store1 (b := sp) (off := 0) (v := .int .i64 ((s : Int) + 1)) rfl kr kr rfl kr 0 (cs := #[iN s]) (e := 3) kr (by show 0 < 1; decide)) ?_
  refine CfgL.done rfl ?_
  refine Cg (Γ' := [(1,[],iN a),(2,[],iN b)]) ?_
  refine Rq [8,9] ?_
  refine Cfg.ret rfl (rs := [.tmp 8,.tmp 9]) rfl [iN b,iN a] ⟨kr,by kernel_rfl,trivial⟩ (fun w1 hp => ?_)
  have hx : ord2 L a b s = (b,a,s + 1) := if_pos om
  rw [hx]
  exact ⟨rfl,hp.ext,hp.own (sp,_) mH⟩
 ·have c1 := (dF c1r)
  refine Rq [8,9] ?_
  refine Cfg.ret rfl (rs := [.tmp 8,.tmp 9]) rfl [iN a,iN b] ⟨kr,by kernel_rfl,trivial⟩ (fun w1 hp => ?_)
  have hx : ord2 L a b s = (a,b,s) := if_neg om
  rw [hx]
  exact ⟨rfl,hp.ext,hp.own (sp,_) mH⟩
set_option maxRecDepth 100000 in
set_option maxHeartbeats 1000000 in
theorem sMed (bk cp : Nat) (jk : List Value) (L : List Nat) (sp s : Nat) (a b c : Nat) (w : World) (hB : w.heap[bk]? = some (.cells (nv L ++ jk).toArray 73 (0,0))) (hS : w.heap[sp]? = some (.cells #[.int .i64 (s : Int)] 3 (0,0))) (hne : sp ≠ bk) (hL : L.length ≤ 1000000) (hs : s ≤ 1000) (ha : a < L.length) (hb : b < L.length) (hc : c < L.length) :
  Calls Tryz.prog 139 #[.slice (some ⟨bk,0,none⟩) L.length cp,.int .i64 (a : Int),.int .i64 (b : Int),.int .i64 (c : Int),.pointer (some ⟨sp,0,none⟩)] w fun e w' => e = .returned (.int .i64 ((medF L a b c s).1 : Int)) ∧ Ext [sp] w w' ∧ w'.heap[sp]? = some (.cells #[.int .i64 ((medF L a b c s).2 : Int)] 3 (0,0)) := by
 obtain ⟨x,hx⟩ : ∃ x,x = ord2 L a b s := ⟨_,rfl⟩
 obtain ⟨y,hy⟩ : ∃ y,y = ord2 L x.2.1 c x.2.2 := ⟨_,rfl⟩
 obtain ⟨z,hz⟩ : ∃ z,z = ord2 L x.1 y.1 y.2.2 := ⟨_,rfl⟩
 have hm : medF L a b c s = (z.2.1,z.2.2) := by unfold medF; simp only; rw [← hx,← hy,← hz]
 have hx1 := ord2_in (L := L) (s := s) ha hb
 rw [← hx] at hx1
 have hy1 := ord2_in (L := L) (s := x.2.2) hx1.2.1 hc
 rw [← hy] at hy1
 have hx2 := hx1.2.2
 have hy2 := hy1.2.2
 refine enter [sp] [(bk,.cells ((nv L ++ jk).toArray) 73 (0,0))] [(sp,.cells #[iN s] 3 (0,0))] Tryz.func139 rfl kr (HP.startM (R := [(bk,.cells (nv L ++ jk).toArray 73 (0,0))]) (fun e he => by rw [List.mem_singleton.1 he]; exact hB) hS (by simpa using hne)) ?_
 refine Rq [0,1,2,3,4] ?_
 refine Cfg.begL rfl ?_
 refine Lp 4 [] none n0 trivial ?_
 refine Lu (Eff.callM (vs := [.slice (some ⟨bk,0,none⟩) L.length cp,iN a,iN b,pT sp]) (.tuple #[iN x.1,iN x.2.1]) 0 (b := sp) (ob := .cells #[iN s] 3 (0,0)) (.cells #[iN x.2.2] 3 (0,0)) rfl Tryz.func143 rfl rfl kr kr (fun w1 h => by have h9 := sOrd bk cp jk L sp s a b w1 (h.ro _ mH) (h.own (sp,_) (mG 0 rfl)) hne hL om ha hb; rw [← hx] at h9; exact h9)) ?_
 refine Ld 5 [0,1,2,3,4] ?_
 refine Cfg.begL rfl ?_
 refine Lq 4 [0,1,2,4,20,21,22,23] ?_
 refine Lu (Eff.callM (vs := [.slice (some ⟨bk,0,none⟩) L.length cp,iN x.2.1,iN c,pT sp]) (.tuple #[iN y.1,iN y.2.1]) 0 (b := sp) (ob := .cells #[iN x.2.2] 3 (0,0)) (.cells #[iN y.2.2] 3 (0,0)) rfl Tryz.func143 rfl rfl kr kr (fun w1 h => by have h9 := sOrd bk cp jk L sp x.2.2 x.2.1 c w1 (h.ro _ mH) (h.own (sp,_) (mG 0 rfl)) hne hL om hx1.2.1 hc; rw [← hy] at h9; exact h9)) ?_
 refine Ld 5 [0,1,2,4] ?_
 refine Cfg.begL rfl ?_
 refine Lq 4 [2,28,29,30,31] ?_
 refine Lu (Eff.callM (vs := [.slice (some ⟨bk,0,none⟩) L.length cp,iN x.1,iN y.1,pT sp]) (.tuple #[iN z.1,iN z.2.1]) 0 (b := sp) (ob := .cells #[iN y.2.2] 3 (0,0)) (.cells #[iN z.2.2] 3 (0,0)) rfl Tryz.func143 rfl rfl kr kr (fun w1 h => by have h9 := sOrd bk cp jk L sp y.2.2 x.1 y.1 w1 (h.ro _ mH) (h.own (sp,_) (mG 0 rfl)) hne hL om hx1.1 hy1.1; rw [← hz] at h9; exact h9)) ?_
 refine Ld 5 [2] ?_
 refine Cfg.reg rfl [10] [] (Γ' := [(10,[],iN z.2.1)]) (nd := (fun _ => [])) (fun _ => kr) trivial ?_
 refine Cfg.ret rfl (rs := [.tmp 10]) rfl [iN z.2.1] ⟨kr,trivial⟩ (fun w1 hp => ?_)
 rw [hm]
 exact ⟨rfl,hp.ext,hp.own (sp,_) mH⟩
set_option maxRecDepth 100000 in
set_option maxHeartbeats 1000000 in
theorem sMedA (bk cp : Nat) (jk : List Value) (L : List Nat) (sp s : Nat) (a : Nat) (w : World) (hB : w.heap[bk]? = some (.cells (nv L ++ jk).toArray 73 (0,0))) (hS : w.heap[sp]? = some (.cells #[.int .i64 (s : Int)] 3 (0,0))) (hne : sp ≠ bk) (hL : L.length ≤ 1000000) (hs : s ≤ 1000) (h0 : 0 < a) (ha : a + 1 < L.length) :
  Calls Tryz.prog 138 #[.slice (some ⟨bk,0,none⟩) L.length cp,.int .i64 (a : Int),.pointer (some ⟨sp,0,none⟩)] w fun e w' => e = .returned (.int .i64 ((medA L a s).1 : Int)) ∧ Ext [sp] w w' ∧ w'.heap[sp]? = some (.cells #[.int .i64 ((medA L a s).2 : Int)] 3 (0,0)) := by
 refine enter [sp] [(bk,.cells ((nv L ++ jk).toArray) 73 (0,0))] [(sp,.cells #[iN s] 3 (0,0))] Tryz.func138 rfl kr (HP.startM (R := [(bk,.cells (nv L ++ jk).toArray 73 (0,0))]) (fun e he => by rw [List.mem_singleton.1 he]; exact hB) hS (by simpa using hne)) ?_
 refine Rq [0,1,2] ?_
 refine Cfg.begL rfl ?_
 refine Lp 7 [] (some [7,9,10,12,13]) (fun _ => [(i6 ((a : Int) - 1)),(i6 ((a : Int) + 1))]) ⟨om,om,trivial⟩ ?_
 refine Lu (Eff.callM (vs := [.slice (some ⟨bk,0,none⟩) L.length cp,.int .i64 ((a : Int) - 1),iN a,.int .i64 ((a : Int) + 1),pT sp]) (.int .i64 ((medA L a s).1 : Int)) 0 (b := sp) (ob := .cells #[iN s] 3 (0,0)) (.cells #[.int .i64 ((medA L a s).2 : Int)] 3 (0,0)) rfl Tryz.func139 rfl rfl kr kr (fun w1 h => by have h9 := sMed bk cp jk L sp s (a - 1) a (a + 1) w1 (h.ro _ mH) (h.own (sp,_) mH) hne hL hs om om om; rw [show ((a - 1 : Nat) : Int) = (a : Int) - 1 by omega] at h9; exact h9)) ?_
 refine Ld 1 [6] ?_
 refine Cfg.ret rfl (rs := [.tmp 6]) rfl [.int .i64 ((medA L a s).1 : Int)] ⟨kr,trivial⟩ (fun w1 hp => ?_)
 exact ⟨rfl,hp.ext,hp.own (sp,_) mH⟩
set_option maxRecDepth 100000 in
set_option maxHeartbeats 2000000 in
theorem sChp (bk cp : Nat) (jk : List Value) (L : List Nat) (a b : Nat) (w : World) (hB : w.heap[bk]? = some (.cells (nv L ++ jk).toArray 73 (0,0))) (hL : L.length ≤ 1000000) (hl : 12 < b - a) (hb : b ≤ L.length) :
  Calls Tryz.prog 116 #[.slice (some ⟨bk,0,none⟩) L.length cp,.int .i64 (a : Int),.int .i64 (b : Int)] w fun e w' => e = .returned (.tuple #[.int .i64 ((chpN L a (b - a)).1 : Int),.int .i64 (hintF (chpN L a (b - a)).2 : Int)]) ∧ Ext [] w w' := by
 obtain ⟨l,hle⟩ : ∃ l,l = b - a := ⟨_,rfl⟩
 rw [← hle] at hl ⊢
 obtain ⟨i0,hi0⟩ : ∃ i,i = a + l / 4 := ⟨_,rfl⟩
 obtain ⟨j0,hj0⟩ : ∃ i,i = a + l / 4 * 2 := ⟨_,rfl⟩
 obtain ⟨k0,hk0⟩ : ∃ i,i = a + l / 4 * 3 := ⟨_,rfl⟩
 obtain ⟨x,hx⟩ : ∃ x,x = medA L i0 0 := ⟨_,rfl⟩
 obtain ⟨y,hy⟩ : ∃ y,y = medA L j0 x.2 := ⟨_,rfl⟩
 obtain ⟨z,hz⟩ : ∃ z,z = medA L k0 y.2 := ⟨_,rfl⟩
 obtain ⟨C,hC⟩ : ∃ C,C = chpN L a l := ⟨_,rfl⟩
 have hCi := chpN_in (L := L) (a := a) hl
 rw [← hC] at hCi ⊢
 have hx1 := medF_in (L := L) (a := i0 - 1) (b := i0) (c := i0 + 1) (s := 0) (n := L.length) om om om
 have hx1 : x.1 < L.length ∧ x.2 ≤ 0 + 3 := by rw [hx]; exact hx1
 have hy1 := medF_in (L := L) (a := j0 - 1) (b := j0) (c := j0 + 1) (s := x.2) (n := L.length) om om om
 have hy1 : y.1 < L.length ∧ y.2 ≤ x.2 + 3 := by rw [hy]; exact hy1
 have hz1 := medF_in (L := L) (a := k0 - 1) (b := k0) (c := k0 + 1) (s := y.2) (n := L.length) om om om
 have hz1 : z.1 < L.length ∧ z.2 ≤ y.2 + 3 := by rw [hz]; exact hz1
 refine enter [] [(bk,.cells ((nv L ++ jk).toArray) 73 (0,0))] [] Tryz.func116 rfl kr (HP.ofHas (fun e he => by rw [List.mem_singleton.1 he]; exact hB)) ?_
 refine Rq [0,1,2] ?_
 refine Rg [0,1,8] [] (fun _ => [(i6 ((b : Int) - (a : Int)))]) ⟨om,trivial⟩ ?_
 refine Cfg.begL rfl ?_
 refine Le (Eff.alloc (z := (.int .i64 0)) rfl kr) ?_
 rintro sw ⟨hsw,nsw⟩
 refine CfgL.done rfl ?_
 refine Rg [0,1,8,9,10] [] (fun _ => [(0 ≤ ((b : Int) - (a : Int)) ∧ ((b : Int) - (a : Int)) ≤ 9223372036854775807 ∧ 0 < (4 : Int)),(i6 ((((b : Int) - (a : Int)) / 4) * 1)),(i6 ((a : Int) + ((((b : Int) - (a : Int)) / 4) * 1)))]) ⟨om,om,om,trivial⟩ ?_
 refine Rg [0,1,8,9,10,11] [] (fun _ => [(0 ≤ ((b : Int) - (a : Int)) ∧ ((b : Int) - (a : Int)) ≤ 9223372036854775807 ∧ 0 < (4 : Int)),(i6 ((((b : Int) - (a : Int)) / 4) * 2)),(i6 ((a : Int) + ((((b : Int) - (a : Int)) / 4) * 2)))]) ⟨om,om,om,trivial⟩ ?_
 refine Rg [0,8,9,10,11,12] [] (fun _ => [(0 ≤ ((b : Int) - (a : Int)) ∧ ((b : Int) - (a : Int)) ≤ 9223372036854775807 ∧ 0 < (4 : Int)),(i6 ((((b : Int) - (a : Int)) / 4) * 3)),(i6 ((a : Int) + ((((b : Int) - (a : Int)) / 4) * 3)))]) ⟨om,om,om,trivial⟩ ?_
 refine sI 8 (show ((b : Int) - (a : Int)) = (l : Int) from by omega) ?_
 refine sI 10 (show ((a : Int) + ((((b : Int) - (a : Int)) / 4) * 1)) = (i0 : Int) from by omega) ?_
 refine sI 11 (show ((a : Int) + ((((b : Int) - (a : Int)) / 4) * 2)) = (j0 : Int) from by omega) ?_
 refine sI 12 (show ((a : Int) + ((((b : Int) - (a : Int)) / 4) * 3)) = (k0 : Int) from by omega) ?_
 refine Rq [0,8,9,10,11,12,32] ?_
 refine Cfg.condT rfl (b := (decide ((l : Int) ≥ (8 : Int)))) kr (decide_eq_true om) ?_
 refine Rq [0,9,10,11,12,34] ?_
 refine Cfg.cond rfl (b := (decide ((l : Int) ≥ (50 : Int)))) kr (fun c2r => ?_) (fun c2r => ?_)
 ·have c2 := (dT c2r)
  have hCc : C = medF L x.1 y.1 z.1 z.2 := by rw [hC]; unfold chpN; rw [if_pos om]; simp only; rw [← hi0,← hj0,← hk0,← hx,← hy,← hz]
  refine Cfg.begL rfl ?_
  refine Lq 2 [0,9,10,11,12,35,36] ?_
  refine Lu (Eff.callM (vs := [.slice (some ⟨bk,0,none⟩) L.length cp,iN i0,pT sw]) (iN x.1) 0 (b := sw) (ob := .cells #[.int .i64 (0 : Int)] 3 (0,0)) (.cells #[iN x.2] 3 (0,0)) rfl Tryz.func138 rfl rfl kr kr (fun w1 h => by have h9 := sMedA bk cp jk L sw 0 i0 w1 (h.ro _ mH) (h.own (sw,_) (mG 0 rfl)) (h.away (mG 0 rfl) mH) hL om om om; rw [← hx] at h9; exact h9)) ?_
  refine Ld 1 [0,9,10,11,12] ?_
  refine Cfg.begL rfl ?_
  refine Lp 2 [] none n0 trivial ?_
  refine Lu (Eff.callM (vs := [.slice (some ⟨bk,0,none⟩) L.length cp,iN j0,pT sw]) (iN y.1) 0 (b := sw) (ob := .cells #[iN x.2] 3 (0,0)) (.cells #[iN y.2] 3 (0,0)) rfl Tryz.func138 rfl rfl kr kr (fun w1 h => by have h9 := sMedA bk cp jk L sw x.2 j0 w1 (h.ro _ mH) (h.own (sw,_) (mG 0 rfl)) (h.away (mG 0 rfl) mH) hL om om om; rw [← hy] at h9; exact h9)) ?_
  refine Ld 1 [0,9,10,11,12] ?_
  refine Cfg.begL rfl ?_
  refine Lp 2 [] none n0 trivial ?_
  refine Lu (Eff.callM (vs := [.slice (some ⟨bk,0,none⟩) L.length cp,iN k0,pT sw]) (iN z.1) 0 (b := sw) (ob := .cells #[iN y.2] 3 (0,0)) (.cells #[iN z.2] 3 (0,0)) rfl Tryz.func138 rfl rfl kr kr (fun w1 h => by have h9 := sMedA bk cp jk L sw y.2 k0 w1 (h.ro _ mH) (h.own (sw,_) (mG 0 rfl)) (h.away (mG 0 rfl) mH) hL om om om; rw [← hz] at h9; exact h9)) ?_
  refine CfgL.pure 1 [] (some [0,9,10,11,12]) (Γ' := [(12,[],iN z.1),(11,[],iN y.1),(10,[],iN x.1),(9,[],pT sw),(0,[],.slice (some ⟨bk,0,none⟩) L.length cp)]) (nd := (fun _ => [])) kr (fun _ => kr) trivial ?_
  refine CfgL.done rfl ?_
  refine Cfg.begL rfl ?_
  refine Lq 4 [9,11,44,45,46,47] ?_
  refine Lu (Eff.callM (vs := [.slice (some ⟨bk,0,none⟩) L.length cp,iN x.1,iN y.1,iN z.1,pT sw]) (iN C.1) 0 (b := sw) (ob := .cells #[iN z.2] 3 (0,0)) (.cells #[iN C.2] 3 (0,0)) rfl Tryz.func139 rfl rfl kr kr (fun w1 h => by have h9 := sMed bk cp jk L sw z.2 x.1 y.1 z.1 w1 (h.ro _ mH) (h.own (sw,_) (mG 0 rfl)) (h.away (mG 0 rfl) mH) hL om om om om; rw [← hCc] at h9; exact h9)) ?_
  refine Ld 1 [9,11] ?_
  refine Rg [11,49] [(dS (iN C.2))] (fun S => [(cE S sw 0 (iN C.2))]) ⟨(oC 0 rfl rfl),trivial⟩ ?_
  refine Rq [11,49,51] ?_
  refine Cfg.cond rfl (b := ((C.2 : Int) == (0 : Int))) kr (fun c3r => ?_) (fun c3r => ?_)
  ·have c3 := (beq_iff_eq.1 c3r)
   refine Rq [6,7] ?_
   refine Cfg.ret rfl (rs := [.tmp 6,.tmp 7]) rfl [iN C.1,.int .i64 1] ⟨kr,by kernel_rfl,trivial⟩ (fun w1 hp => ?_)
   have hh : hintF C.2 = 1 := if_pos om
   rw [hh]
   exact ⟨rfl,hp.ext⟩
  ·have c3 := (beq_eq_false_iff_ne.1 c3r)
   refine Rq [11,54] ?_
   refine Cfg.cond rfl (b := ((C.2 : Int) == (12 : Int))) kr (fun c4r => ?_) (fun c4r => ?_)
   ·have c4 := (beq_iff_eq.1 c4r)
    refine Rq [6,7] ?_
    refine Cfg.ret rfl (rs := [.tmp 6,.tmp 7]) rfl [iN C.1,.int .i64 2] ⟨kr,by kernel_rfl,trivial⟩ (fun w1 hp => ?_)
    have hh : hintF C.2 = 2 := (if_neg om).trans (if_pos om)
    rw [hh]
    exact ⟨rfl,hp.ext⟩
   ·have c4 := (beq_eq_false_iff_ne.1 c4r)
    refine Cfg.reg rfl [6,7] [] (Γ' := [(7,[],.int .i64 0),(6,[],iN C.1)]) (nd := (fun _ => [])) (fun _ => kr) trivial ?_
    refine Cfg.ret rfl (rs := [.tmp 6,.tmp 7]) rfl [iN C.1,.int .i64 0] ⟨kr,by kernel_rfl,trivial⟩ (fun w1 hp => ?_)
    have hh : hintF C.2 = 0 := (if_neg om).trans (if_neg om)
    rw [hh]
    exact ⟨rfl,hp.ext⟩
 ·have c2 := (dF c2r)
  have hCc : C = medF L i0 j0 k0 0 := by rw [hC]; unfold chpN; rw [if_neg om,← hi0,← hj0,← hk0]
  refine Cfg.begL rfl ?_
  refine Lq 4 [9,11,44,45,46,47] ?_
  refine Lu (Eff.callM (vs := [.slice (some ⟨bk,0,none⟩) L.length cp,iN i0,iN j0,iN k0,pT sw]) (iN C.1) 0 (b := sw) (ob := .cells #[.int .i64 (0 : Int)] 3 (0,0)) (.cells #[iN C.2] 3 (0,0)) rfl Tryz.func139 rfl rfl kr kr (fun w1 h => by have h9 := sMed bk cp jk L sw 0 i0 j0 k0 w1 (h.ro _ mH) (h.own (sw,_) (mG 0 rfl)) (h.away (mG 0 rfl) mH) hL om om om om; rw [← hCc] at h9; exact h9)) ?_
  refine Ld 1 [9,11] ?_
  refine Rg [11,49] [(dS (iN C.2))] (fun S => [(cE S sw 0 (iN C.2))]) ⟨(oC 0 rfl rfl),trivial⟩ ?_
  refine Rq [11,49,51] ?_
  refine Cfg.cond rfl (b := ((C.2 : Int) == (0 : Int))) kr (fun c5r => ?_) (fun c5r => ?_)
  ·have c5 := (beq_iff_eq.1 c5r)
   refine Rq [6,7] ?_
   refine Cfg.ret rfl (rs := [.tmp 6,.tmp 7]) rfl [iN C.1,.int .i64 1] ⟨kr,by kernel_rfl,trivial⟩ (fun w1 hp => ?_)
   have hh : hintF C.2 = 1 := if_pos om
   rw [hh]
   exact ⟨rfl,hp.ext⟩
  ·have c5 := (beq_eq_false_iff_ne.1 c5r)
   refine Rq [11,54] ?_
   refine Cfg.cond rfl (b := ((C.2 : Int) == (12 : Int))) kr (fun c6r => ?_) (fun c6r => ?_)
   ·have c6 := (beq_iff_eq.1 c6r)
    refine Rq [6,7] ?_
    refine Cfg.ret rfl (rs := [.tmp 6,.tmp 7]) rfl [iN C.1,.int .i64 2] ⟨kr,by kernel_rfl,trivial⟩ (fun w1 hp => ?_)
    have hh : hintF C.2 = 2 := (if_neg om).trans (if_pos om)
    rw [hh]
    exact ⟨rfl,hp.ext⟩
   ·have c6 := (beq_eq_false_iff_ne.1 c6r)
    refine Cfg.reg rfl [6,7] [] (Γ' := [(7,[],.int .i64 0),(6,[],iN C.1)]) (nd := (fun _ => [])) (fun _ => kr) trivial ?_
    refine Cfg.ret rfl (rs := [.tmp 6,.tmp 7]) rfl [iN C.1,.int .i64 0] ⟨kr,by kernel_rfl,trivial⟩ (fun w1 hp => ?_)
    have hh : hintF C.2 = 0 := (if_neg om).trans (if_neg om)
    rw [hh]
    exact ⟨rfl,hp.ext⟩
set_option maxRecDepth 100000 in
set_option maxHeartbeats 1000000 in
theorem sRev (bk cp : Nat) (jk : List Value) (L : List Nat) (a b : Nat) (w : World) (hB : w.heap[bk]? = some (.cells (nv L ++ jk).toArray 73 (0,0))) (hL : L.length ≤ 1000000) (hb : b ≤ L.length) (hab : a < b) :
  Calls Tryz.prog 117 #[.slice (some ⟨bk,0,none⟩) L.length cp,.int .i64 (a : Int),.int .i64 (b : Int)] w fun e w' => e = .returned (.tuple #[]) ∧ Ext [bk] w w' ∧ w'.heap[bk]? = some (.cells (nv (revF (b - a) a (b - 1) L) ++ jk).toArray 73 (0,0)) := by
 refine enter [bk] [] [(bk,.cells ((nv L ++ jk).toArray) 73 (0,0))] Tryz.func117 rfl kr (HP.startM (R := []) (fun _ h => by cases h) hB (by simp)) ?_
 refine Rq [0,2,6] ?_
 refine Rg [0,6,7] [] (fun _ => [(i6 ((b : Int) - 1))]) ⟨om,trivial⟩ ?_
 refine sI 7 (show ((b : Int) - 1) = (((b - 1) : Nat) : Int) from by omega) ?_
 refine Cfg.loop rfl (ι := Nat × Nat × List Nat × Nat) (fun (xz : Nat × Nat × List Nat × Nat) => match xz with | (i,j,L1,n9) => [(7,[],iN j),(6,[],iN i),(0,[],.slice (some ⟨bk,0,none⟩) L.length cp)]) (fun (xz : Nat × Nat × List Nat × Nat) => match xz with | (i,j,L1,n9) => [(bk,.cells ((nv L1 ++ jk).toArray) 73 (0,0))]) (fun (xz : Nat × Nat × List Nat × Nat) => match xz with | (i,j,L1,n9) => (j < b) ∧ (L1.length = L.length) ∧ (j < n9 + i ∨ i ≥ j) ∧ (i < j → 0 < n9) ∧ (revF n9 i j L1 = revF (b - a) a (b - 1) L)) (fun (xz : Nat × Nat × List Nat × Nat) => match xz with | (i,j,L1,n9) => n9) (a,b - 1,L,b - a) ?_ (Conv.mk kr) (.cons_cons _ .slnil) ?_
 ·exact ⟨by omega,rfl,.inl om,by omega,rfl⟩
 ·rintro ⟨i,j,L1,n9⟩ ⟨hj,hl1,hn,hnz,hra⟩
  refine Rq [0,6,7,13] ?_
  refine Cfg.cond rfl (b := (decide ((i : Int) < (j : Int)))) kr (fun c1r => ?_) (fun c1r => ?_)
  ·have c1 := (dT c1r)
   refine Cfg.begA rfl kr [] ?_
   refine CfgA.join (ι := Unit) (fun (_ : Unit) => [(bk,.cells (((nv L1 ++ jk).toArray.setIfInBounds i (uN (L1.getD j 0))).setIfInBounds j (uN (L1.getD i 0))) 73 (0,0))]) (fun (_ : Unit) => [(7,[],iN j),(6,[],iN i),(0,[],.slice (some ⟨bk,0,none⟩) L.length cp)]) ?_ ?_
   ·rintro ⟨⟩
    refine oB 0 rfl (show _ = ((nv (swpN L1 i j) ++ jk).toArray) from nv_swp jk om om om om) ?_
    refine Rg [0,6,7] [] (fun _ => [(i6 ((i : Int) + 1))]) ⟨om,trivial⟩ ?_
    refine Rg [0,6,7] [] (fun _ => [(i6 ((j : Int) - 1))]) ⟨om,trivial⟩ ?_
    refine sI 7 (show ((j : Int) - 1) = (((j - 1) : Nat) : Int) from by omega) ?_
    refine Cfg.again rfl (i + 1,j - 1,swpN L1 i j,n9 - 1) ⟨by omega,by rw [swpN_len]; exact hl1,by omega,by omega,by have h9 := hra; rw [show n9 = (n9 - 1) + 1 by omega,revF,if_pos om] at h9; exact h9⟩ (by show n9 - 1 < n9; omega) (Conv.mk kr) (.cons_cons _ .slnil)
   ·intro hj
    refine CfgA.pure [0,1,2,3,4,5,6,8,9,10] [] (some [0,6,7,14,15,16,17,20,24]) (l' := (bF 1919 16)) kr kr (.cons _ .slnil) 6 rfl (Γ' := [(24,[],.pointer (some ⟨bk,i,none⟩)),(20,[],.pointer (some ⟨bk,j,none⟩)),(17,[],iN j),(16,[],.slice (some ⟨bk,0,none⟩) L.length cp),(15,[],iN i),(14,[],.slice (some ⟨bk,0,none⟩) L.length cp),(7,[],iN j),(6,[],iN i),(0,[],.slice (some ⟨bk,0,none⟩) L.length cp)]) (nd := (fun _ => [(0 ≤ (j : Int) ∧ (j : Int) < (L.length : Int)),(0 ≤ (i : Int) ∧ (i : Int) < (L.length : Int))])) (fun _ => kr) ⟨om,om,trivial⟩ ?_
    refine CfgA.two 7 11 kr (fuel' := 5) rfl ?_ ?_
    ·
     refine Iu rfl  (Eff.quiet (raw := false) (orc := some (uN (L1.getD j 0))) (v := uN (L1.getD j 0)) (nd := (fun S => [(cE S bk j (uN (L1.getD j 0)))])) (fun _ => kr) ⟨(fun w1 h => h.ocell 0 rfl (nv_at jk om om)),trivial⟩ kr) (fun _ _ => List.nil_sublist _) ?_
     refine Au 11 rfl 4  (Eff.quiet (raw := false) (orc := some (uN (L1.getD i 0))) (v := uN (L1.getD i 0)) (nd := (fun S => [(cE S bk i (uN (L1.getD i 0)))])) (fun _ => kr) ⟨(fun w1 h => h.ocell 0 rfl (nv_at jk om om)),trivial⟩ kr) (fun _ _ => List.nil_sublist _) ?_
     refine Ap [12] [] (some [0,6,7,16,17,21,25,26]) (tF 13 3) (.cons _ .slnil) 3 (fun _ => [(0 ≤ (i : Int) ∧ (i : Int) < (L.length : Int))]) ⟨om,trivial⟩ ?_
     refine Au 13 rfl 2  (Eff.store1 (b := bk) (off := i) (v := uN (L1.getD j 0)) rfl kr kr rfl kr 0 (cs := (nv L1 ++ jk).toArray) (e := 73) kr (by rw [nv_size]; omega)) (fun _ _ => List.nil_sublist _) ?_
     refine Ap [14] [] (some [0,6,7,25,27]) (tF 15 1) (.cons _ .slnil) 1 (fun _ => [(0 ≤ (j : Int) ∧ (j : Int) < (L.length : Int))]) ⟨om,trivial⟩ ?_
     refine Au 15 rfl 0  (Eff.store1 (b := bk) (off := j) (v := uN (L1.getD i 0)) rfl kr kr rfl kr 0 (cs := ((nv L1 ++ jk).toArray.setIfInBounds i (uN (L1.getD j 0)))) (e := 73) kr (by rw [Array.size_setIfInBounds,nv_size]; omega)) (fun _ _ => List.nil_sublist _) ?_
     refine CfgA.done kr ?_
     refine Cg (Γ' := [(7,[],iN j),(6,[],iN i),(0,[],.slice (some ⟨bk,0,none⟩) L.length cp)]) ?_
     refine Cg (Γ' := [(7,[],iN j),(6,[],iN i),(0,[],.slice (some ⟨bk,0,none⟩) L.length cp)]) ?_
     exact hj ()
    ·
     refine Iu rfl  (Eff.quiet (raw := false) (orc := some (uN (L1.getD i 0))) (v := uN (L1.getD i 0)) (nd := (fun S => [(cE S bk i (uN (L1.getD i 0)))])) (fun _ => kr) ⟨(fun w1 h => h.ocell 0 rfl (nv_at jk om om)),trivial⟩ kr) (fun _ _ => List.nil_sublist _) ?_
     refine Au 7 rfl 4  (Eff.quiet (raw := false) (orc := some (uN (L1.getD j 0))) (v := uN (L1.getD j 0)) (nd := (fun S => [(cE S bk j (uN (L1.getD j 0)))])) (fun _ => kr) ⟨(fun w1 h => h.ocell 0 rfl (nv_at jk om om)),trivial⟩ kr) (fun _ _ => List.nil_sublist _) ?_
     refine Ap [12] [] (some [0,6,7,16,17,21,25,26]) (tF 13 3) (.cons _ .slnil) 3 (fun _ => [(0 ≤ (i : Int) ∧ (i : Int) < (L.length : Int))]) ⟨om,trivial⟩ ?_
     refine Au 13 rfl 2  (Eff.store1 (b := bk) (off := i) (v := uN (L1.getD j 0)) rfl kr kr rfl kr 0 (cs := (nv L1 ++ jk).toArray) (e := 73) kr (by rw [nv_size]; omega)) (fun _ _ => List.nil_sublist _) ?_
     refine Ap [14] [] (some [0,6,7,25,27]) (tF 15 1) (.cons _ .slnil) 1 (fun _ => [(0 ≤ (j : Int) ∧ (j : Int) < (L.length : Int))]) ⟨om,trivial⟩ ?_
     refine Au 15 rfl 0  (Eff.store1 (b := bk) (off := j) (v := uN (L1.getD i 0)) rfl kr kr rfl kr 0 (cs := ((nv L1 ++ jk).toArray.setIfInBounds i (uN (L1.getD j 0)))) (e := 73) kr (by rw [Array.size_setIfInBounds,nv_size]; omega)) (fun _ _ => List.nil_sublist _) ?_
     refine CfgA.done kr ?_
     refine Cg (Γ' := [(7,[],iN j),(6,[],iN i),(0,[],.slice (some ⟨bk,0,none⟩) L.length cp)]) ?_
     refine Cg (Γ' := [(7,[],iN j),(6,[],iN i),(0,[],.slice (some ⟨bk,0,none⟩) L.length cp)]) ?_
     exact hj ()
  ·have c1 := (dF c1r)
   refine Cfg.fin rfl (rs := []) rfl [] trivial (fun w1 hp => ?_)
   have hfin : L1 = revF (b - a) a (b - 1) L := by
    rw [← hra]
    cases n9 with
    | zero => rfl
    | succ n => rw [revF,if_neg om]
   rw [← hfin]
   exact ⟨rfl,hp.ext,hp.own (bk,_) mH⟩
end Go.Proofs.YtbeeelgfhfmgbaaGreatDoor
namespace Go.Proofs.YtbeeelgfhfmgbaaGreatDoor
namespace K
section
variable {C : Cx} {R O : List (Nat × Obj)} {Γ : Env} {ks ks' : List KI}
theorem Cfg.share {c : Code} (_hk : K.nrm 99 ks = .inl c :: ks') {ι : Type} (Γj : ι → Env) (Oj : ι → List (Nat × Obj)) (J : ι → Prop)
  (h2 : ∀ y,J y → Cfg C R (Oj y) (Γj y) (K.nrm 99 ks')) (h1 : (∀ y,J y → Cfg C R (Oj y) (Γj y) (K.nrm 99 ks')) → Cfg C R O Γ ks) : Cfg C R O Γ ks := h1 h2
theorem Cfg.joinS {KS : List KI} {ι : Type} {Γj : ι → Env} {Oj : ι → List (Nat × Obj)} {J : ι → Prop} (hj : ∀ y,J y → Cfg C R (Oj y) (Γj y) KS) (y : ι) (hJ : J y) (hk : K.nrm 99 ks = KS) (hΓ : Conv Γ (Γj y)) (hO : (Oj y).Sublist O) : Cfg C R O Γ ks := by
 refine Cfg.nrm ?_
 rw [hk]
 intro a w hs hp
 exact hj y hJ a w (hΓ.st hs) (hp.sub hO)
end
end K
end Go.Proofs.YtbeeelgfhfmgbaaGreatDoor
