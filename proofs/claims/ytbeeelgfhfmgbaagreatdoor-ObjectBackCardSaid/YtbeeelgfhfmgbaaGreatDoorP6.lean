/- Texts on which the proof of this claim stands: Rt6, Rt7, K42, Rt8, Ex8, Ex9, K43, Tk1, Tk2, Ex10. -/
import Derived.Test.YtbeeelgfhfmgbaaGreatDoorP5
import Derived.Test.YtbeeelgfhfmgbaaGreatDoorP1
import Derived.Test.YtbeeelgfhfmgbaaGreatDoorP3
import Derived.Test.YtbeeelgfhfmgbaaGreatDoorP2
namespace Go.Proofs.YtbeeelgfhfmgbaaGreatDoor
open K
set_option linter.unusedVariables false
theorem rowc_flat (rs : List RowU) : rs.flatMap rowc = rs.map (fun r => Value.slice r.a r.xs.length r.c) := by
 induction rs with
 | nil => rfl
 | cons r rs ih => rw [List.flatMap_cons,ih]; rfl
theorem rows_lit {rb : Nat} {e : TypeId} {cs : Array Value} {rs : List RowU} (h : ∀ j,j < rs.length → cs[j]? = some (.slice (rs.getD j rwz).a (rs.getD j rwz).xs.length (rs.getD j rwz).c)) : InF rowc 1 [(rb,.cells cs e (0,0))] (some ⟨rb,0,none⟩) rs := by
 intro _
 refine ⟨rb,0,cs,e,(0,0),rfl,mH,fun j hj => ?_⟩
 have hj : j < rs.length := by omega
 show cs[0 + j]? = some ((rs.flatMap rowc).getD j undef)
 rw [Nat.zero_add,h j hj,rowc_flat,List.getD_eq_getElem?_getD,List.getD_eq_getElem?_getD,List.getElem?_map,List.getElem?_eq_getElem hj]; rfl
theorem conc_from (rb sa offa o1 c c1 : Nat) (e : TypeId) {cs : Array Value} {t : TypeId} {fr : Nat × Nat} (xs : List Nat) (k : Nat) (Rl : List (Nat × Obj)) (w : World) (hm : (sa,Obj.cells cs t fr) ∈ Rl) (hc : ∀ j,j < xs.length * 1 → cs[offa + j]? = some ((xs.flatMap u32c).getD j undef))
  (hk : k ≤ xs.length) (ho : o1 = offa + k) (hR : Has w ((rb,Obj.cells #[.slice (some ⟨sa,o1,none⟩) (xs.length - k) c1,.slice (some ⟨sa,offa,none⟩) k c] e (0,0)) :: Rl)) (hn : xs.length ≤ 1000000) :
  Calls Tryz.prog 103 #[.slice (some ⟨rb,0,none⟩) 2 2] w fun e w' => ∃ o : K.Own,OwnOk o 1 xs.length ((rotN xs k).flatMap u32c) ∧ e = .returned (.slice o.a xs.length o.c) ∧ Has w' (o.o 73 ((rotN xs k).flatMap u32c)) ∧ (∀ x ∈ o.o 73 ((rotN xs k).flatMap u32c),w.heap.size ≤ x.1) ∧ Ext [] w w' := by
 subst ho
 have h1 : ((xs.drop k).take (xs.length - k)) = xs.drop k := List.take_of_length_le (by rw [List.length_drop]; omega)
 have h2 : ((xs.drop 0).take k) = xs.take k := rfl
 have i1 := inF_part hm hc k (xs.length - k) om
 have i2 := inF_part hm hc 0 k om
 rw [h1] at i1
 rw [h2] at i2
 have hl1 : (xs.drop k).length = xs.length - k := List.length_drop
 have hl2 : (xs.take k).length = k := by rw [List.length_take]; omega
 have he : ([⟨some ⟨sa,offa + k,none⟩,c1,xs.drop k⟩,⟨some ⟨sa,offa,none⟩,c,xs.take k⟩] : List RowU).flatMap RowU.xs = rotN xs k := by
  unfold rotN; rw [List.flatMap_cons,List.flatMap_cons,List.flatMap_nil,List.append_nil]
 have hI : InF rowc 1 ((rb,Obj.cells #[.slice (some ⟨sa,offa + k,none⟩) (xs.length - k) c1,.slice (some ⟨sa,offa,none⟩) k c] e (0,0)) :: Rl) (some ⟨rb,0,none⟩) [⟨some ⟨sa,offa + k,none⟩,c1,xs.drop k⟩,⟨some ⟨sa,offa,none⟩,c,xs.take k⟩] := by
  refine InF.mono (rows_lit (rb := rb) (e := e) (fun j hj => ?_)) (fun x hx => by rw [List.mem_singleton.1 hx]; exact mH)
  have hj : j < 2 := hj
  rcases (show j = 0 ∨ j = 1 by omega) with rfl | rfl
  ·show some (Value.slice (some ⟨sa,offa + k,none⟩) (xs.length - k) c1) = some (Value.slice (some ⟨sa,offa + k,none⟩) (xs.drop k).length c1)
   rw [hl1]
  ·show some (Value.slice (some ⟨sa,offa,none⟩) k c) = some (Value.slice (some ⟨sa,offa,none⟩) (xs.take k).length c)
   rw [hl2]
 have h9 := sConcat _ 2 _ _ w hI (fun r hr => by
  rcases List.mem_cons.1 hr with rfl | hr
  ·exact ⟨i1.mono (fun x hx => List.mem_cons_of_mem _ hx),by simp⟩
  ·rw [List.mem_singleton.1 hr]; exact ⟨i2.mono (fun x hx => List.mem_cons_of_mem _ hx),by simp⟩) hR (by show 2 ≤ 1000; decide) (by rw [he,rotN_len]; exact hn)
 rw [he,rotN_len] at h9
 exact h9
set_option maxRecDepth 100000 in
set_option maxHeartbeats 4000000 in
theorem gFrom (la : Option Addr) (c : Nat) (xs : List Nat) (k : Nat) (Rl : List (Nat × Obj)) (w : World) (hI : InF u32c 1 Rl la xs) (hR : Has w Rl) (hn : xs.length ≤ 1000000) (hk : k < xs.length) (hc : xs.length ≤ c) :
  Calls Tryz.prog 90 #[.slice la xs.length c,.int .i64 (k : Int)] w fun e w' => ∃ o : K.Own,OwnOk o 1 xs.length ((rotN xs k).flatMap u32c) ∧ e = .returned (.slice o.a xs.length o.c) ∧ Has w' (o.o 73 ((rotN xs k).flatMap u32c)) ∧ (∀ x ∈ o.o 73 ((rotN xs k).flatMap u32c),w.heap.size ≤ x.1) ∧ Ext [] w w' := by
 refine enter [] Rl [] Tryz.func90 rfl kr (HP.ofHas hR) ?_
 refine Rq [0,1] ?_
 obtain ⟨sa,offa,csa,tea,frea,rfl,hma,hca⟩ := hI om
 refine Conv.cfg (Γ' := [(0,[],.slice (some ⟨sa,offa,none⟩) xs.length c),(1,[],iN k)]) (Conv.mk kr) ?_
 refine Cfg.begA rfl kr [] ?_
 refine Ap [0,1,2,3,4,5] [] (some [7,10]) (tF 6 3) .slnil 3 (fun _ => [(0 ≤ (k : Int)),(k ≤ xs.length ∧ xs.length ≤ c),(0 ≤ (k : Int)),(k ≤ c)]) ⟨om,om,om,om,trivial⟩ ?_
 refine Ae 6 rfl 2  (Eff.buildSlice (e := 22) (cells := #[.slice (some ⟨sa,(if c = k then offa else (addO offa k)),none⟩) (xs.length - k) (c - k),.slice (some ⟨sa,offa,none⟩) k c]) (parts := #[(0,.slice (some ⟨sa,(if c = k then offa else (addO offa k)),none⟩) (xs.length - k) (c - k)),(1,.slice (some ⟨sa,offa,none⟩) k c)]) rfl kr (fun _ => kr)) (fun _ _ => List.nil_sublist _) ?_
 rintro rb ⟨hrb,nrb⟩
 refine Ae 7 rfl 1  (Eff.callOF 73 1 xs.length ((rotN xs k).flatMap u32c) [(rb,.cells #[.slice (some ⟨sa,(if c = k then offa else (addO offa k)),none⟩) (xs.length - k) (c - k),.slice (some ⟨sa,offa,none⟩) k c] 22 (0,0))] [] (by rfl) rfl Tryz.func103 rfl rfl kr (fun w1 h => conc_from rb sa offa (if c = k then offa else addO offa k) c (c - k) 22 xs k Rl w1 hma hca om (by rw [if_neg om,addO_eq]) (fun e he => (List.mem_cons.1 he).elim (fun he => by rw [he]; exact h.own _ mH) (fun he => h.ro e he)) hn)) (fun _ _ => List.nil_sublist _) ?_
 rintro oc koc
 refine Ap [8] [] (some [4]) (tF 9 0) (.cons _ (List.nil_sublist _)) 0 n0 trivial ?_
 refine CfgA.done kr ?_
 refine Cfg.ret rfl (rs := [.tmp 4]) rfl [.slice (Own.a oc) xs.length (Own.c oc)] ⟨kr,trivial⟩ (fun w1 hp => ?_)
 exact ⟨oc,koc,rfl,fun x hx => hp.own x (by simp [hx]),fun x hx => (hp.mine x (by simp [hx])).resolve_right (fun h => by cases h),hp.ext⟩
set_option maxRecDepth 100000 in
set_option maxHeartbeats 4000000 in
theorem gNormal (la : Option Addr) (c : Nat) (xs : List Nat) (Rl : List (Nat × Obj)) (w : World) (hI : InF u32c 1 Rl la xs) (hR : Has w Rl) (hn : xs.length ≤ 1000000) (hc : xs.length ≤ c) :
  Calls Tryz.prog 76 #[.slice la xs.length c] w fun e w' => ∃ o : K.Own,OwnOk o 1 xs.length ((normF xs).flatMap u32c) ∧ e = .returned (.slice o.a xs.length o.c) ∧ Has w' (o.o 73 ((normF xs).flatMap u32c)) ∧ (∀ x ∈ o.o 73 ((normF xs).flatMap u32c),w.heap.size ≤ x.1) ∧ Ext [] w w' := by
 refine enter [] Rl [] Tryz.func76 rfl kr (HP.ofHas hR) ?_
 refine Rq [0] ?_
 refine Rq [0,5] ?_
 refine Cfg.cond rfl (b := ((xs.length : Int) == (0 : Int))) kr (fun c1r => ?_) (fun c1r => ?_)
 ·have c1 := (beq_iff_eq.1 c1r)
  refine Rq [2] ?_
  refine Cfg.ret rfl (rs := [.tmp 2]) rfl [.slice none 0 0] ⟨kr,trivial⟩ (fun w1 hp => ?_)
  have hx0 : xs = [] := List.eq_nil_of_length_eq_zero om
  subst hx0
  exact ⟨none,OwnOk.none _,rfl,(fun x hx => by cases hx),(fun x hx => by cases hx),hp.ext⟩
 ·have c1 := (beq_eq_false_iff_ne.1 c1r)
  have h0 : 0 < xs.length := by omega
  have hmm := (ixA_mem _ xs 0).1 (minF_mem h0)
  have hgg := (ixA_ge (minF xs) xs 0).2
  obtain ⟨kx,hkx⟩ := Int.eq_ofNat_of_zero_le hmm
  have hkl : kx < xs.length := by omega
  refine Cfg.begL rfl ?_
  refine Lq 3 [6,7,8] ?_
  refine Lu (Eff.callA (.int .u32 (minF xs : Int)) rfl Tryz.func92 rfl rfl kr (fun w1 h => gMin la c xs Rl w1 hI (h.hasR (fun e he => he)) hn h0)) ?_
  refine Le (Eff.callA (vs := [.slice la xs.length c,.int .u32 ((minF xs) : Int)]) (.int .i64 (kx : Int)) rfl Tryz.func91 rfl rfl kr (fun w1 h => by rw [← hkx]; exact gIdx la c xs (minF xs) Rl w1 hI (h.hasR (fun e he => he)) hn)) ?_
  rintro ⟨⟩ -
  refine Le (Eff.callOF 73 1 xs.length ((rotN xs kx).flatMap u32c) [] [] (by rfl) rfl Tryz.func90 rfl rfl kr (fun w1 h => gFrom la c xs kx Rl w1 hI (h.hasR (fun e he => he)) hn hkl hc)) ?_
  rintro oc koc
  refine Ld 1 [2] ?_
  refine Cfg.ret rfl (rs := [.tmp 2]) rfl [.slice (Own.a oc) xs.length (Own.c oc)] ⟨kr,trivial⟩ (fun w1 hp => ?_)
  have hfin : normF xs = rotN xs kx := by unfold normF; rw [if_neg om,hkx]; rfl
  rw [hfin]
  exact ⟨oc,koc,rfl,fun x hx => hp.own x (by simpa using hx),fun x hx => (hp.mine x (by simpa using hx)).resolve_right (fun h => by cases h),hp.ext⟩
end Go.Proofs.YtbeeelgfhfmgbaaGreatDoor
namespace Go.Proofs.YtbeeelgfhfmgbaaGreatDoor
open K
set_option linter.unusedVariables false
theorem getA_set (d x : Nat) (A : List (Nat × Nat)) (k : Nat) : getA k (setA d x A) = if k = d then x else getA k A := by
 induction A with
 | nil =>
  show (if d = k then x else 0) = _
  by_cases h : k = d
  ·rw [if_pos h.symm,if_pos h]
  ·rw [if_neg (fun h9 => h h9.symm),if_neg h]; rfl
 | cons e A ih =>
  obtain ⟨e,y⟩ := e
  rw [setA]
  by_cases h1 : e = d
  ·rw [if_pos h1,getA,getA]
   by_cases h : k = d
   ·rw [if_pos h.symm,if_pos h]
   ·rw [if_neg (fun h9 => h h9.symm),if_neg h,if_neg (fun h9 => h (h9.symm.trans h1))]
  ·rw [if_neg h1,getA,getA,ih]
   by_cases h : e = k
   ·rw [if_pos h,if_pos h,if_neg (fun h9 => h1 (h.trans h9))]
   ·rw [if_neg h,if_neg h]
def BehOk (W : List (Int × Value)) (A : List (Nat × Nat)) : Prop := ∀ d : Nat,(mget W (d : Int)).getD (.int .u32 0) = .int .u32 (getA d A : Int)
theorem BehOk.zero : BehOk [] [] := fun d => rfl
theorem BehOk.set {W : List (Int × Value)} {A : List (Nat × Nat)} (h : BehOk W A) (u x : Nat) : BehOk (mset W (u : Int) (.int .u32 (x : Int))) (setA u x A) := fun v => by
 rw [mget_set,getA_set]
 by_cases hvu : v = u
 ·rw [if_pos om,if_pos hvu]; rfl
 ·rw [if_neg om,if_neg hvu]; exact h v
theorem turnA_go {t : List Nat} {k : Nat} {A : List (Nat × Nat)} (h : k < t.length) : turnA t (t.length - k) A = turnA t (t.length - (k + 1)) (setA (t.getD k 0) (t.getD ((k + 1) % t.length) 0) A) := by
 obtain ⟨j,hj⟩ : ∃ j,t.length - k = j + 1 := ⟨t.length - k - 1,by omega⟩
 have e1 : t.length - (k + 1) = j := by omega
 have e2 : t.length - (j + 1) = k := by omega
 rw [hj,turnA,e1,e2]
theorem behA_go {rs : List RowU} {i : Nat} {A : List (Nat × Nat)} (h : i < rs.length) : behA ((rs.drop i).map RowU.xs) A = behA ((rs.drop (i + 1)).map RowU.xs) (turnA (rs.getD i rwz).xs (rs.getD i rwz).xs.length A) := by
 rw [drop_at rwz h,List.map_cons,behA]
theorem turnA_in {U : List Nat} {t : List Nat} (ht : ∀ x ∈ t,x ∈ U) : ∀ (k : Nat) (A : List (Nat × Nat)),k ≤ t.length → (∀ d,getA d A ∈ U) → ∀ d,getA d (turnA t k A) ∈ U
 | 0,A,_,h,d => h d
 | k + 1,A,hk,h,d => by
  rw [turnA]
  refine turnA_in ht k _ om (fun d => ?_) d
  rw [getA_set]
  split
  ·exact ht _ (K.getD_mem (Nat.mod_lt _ om))
  ·exact h d
theorem behA_in {U : List Nat} : ∀ (rs : List (List Nat)) (A : List (Nat × Nat)),(∀ t ∈ rs,∀ x ∈ t,x ∈ U) → (∀ d,getA d A ∈ U) → ∀ d,getA d (behA rs A) ∈ U
 | [],A,_,h,d => h d
 | t :: rs,A,hr,h,d => behA_in rs _ (fun t h9 => hr t (List.mem_cons_of_mem _ h9)) (turnA_in (hr t mH) _ _ (Nat.le_refl _) h) d
theorem beh_univ (es : List Ed) (rs : List (List Nat)) (d : Nat) : getA d (behA rs []) ∈ univ es rs := by
 refine behA_in rs [] (fun t ht x hx => ?_) (fun d => mH) d
 exact List.mem_cons_of_mem _ (mR (List.mem_flatMap.2 ⟨t,ht,hx⟩))
theorem left_go {U s : List Nat} {d n m : Nat} (hd : d ∈ U) (hs : d ∉ s) (h : n + left U s ≤ m) : n + 1 + left U (s ++ [d]) ≤ m := by
 have := left_lt hd hs; omega
structure BQ where
 am : Nat
 x : MX
 W : List (Int × Value)
structure BQ.Ok (q : BQ) (rs : List (List Nat)) : Prop where
 m : WMapOk q.x.1 q.x.2 q.W
 b : BehOk q.W (behA rs [])
structure FQ where
 z : MX
 W : List (Int × Value)
 o : K.Own
 f : List Nat
structure FQ.Ok (q : FQ) (s : List Nat) (n : Nat) : Prop where
 m : WMapOk q.z.1 q.z.2 q.W
 s : Seen q.W s
 o : OwnOk q.o 1 q.f.length (q.f.flatMap u32c)
 n : q.f.length ≤ n
def foA (sb sm ab am : Nat) (y a : MX) : List (Nat × Obj) := [(sb,.cells #[.map (some sm)] 130 (0,0)),(sm,.map y.1 y.2),(ab,.cells #[.map (some am)] 128 (0,0)),(am,.map a.1 a.2)]
set_option maxRecDepth 100000 in
set_option maxHeartbeats 8000000 in
theorem rBehind (m : MM) (Rl : List (Nat × Obj)) (w : World) (hM : InM Rl m) (hR : Has w Rl) :
  Calls Tryz.prog 77 #[.agg (mc m).toArray] w fun e w' => ∃ q : BQ,q.Ok (m.rs.map RowU.xs) ∧ e = .returned (.map (some q.am)) ∧ ∃ R1,HP w [] R1 [(q.am,.map q.x.1 q.x.2)] w' := by
 have hmn := hM.n
 refine enter [] Rl [] Tryz.func77 rfl kr (HP.ofHas hR) ?_
 refine Cfg.begL rfl ?_
 refine Le (Eff.box (v := .agg (mc m).toArray) rfl kr) ?_
 rintro mb ⟨hmb,nmb⟩
 refine Ld 1 [1] ?_
 refine Cfg.begL rfl ?_
 refine Le (Eff.mapNew rfl) ?_
 rintro am ⟨ham,nam⟩
 refine Ld 1 [1,3] ?_
 refine Rg [3,10,11,12] [dZ,(dS (.slice m.ra m.rs.length m.rc))] (fun S => [(cE S mb 2 (.slice m.ra m.rs.length m.rc))]) ⟨(fun w1 h => h.ocell 1 rfl (by rw [List.getElem?_toArray]; exact rfl)),trivial⟩ ?_
 refine Cfg.loop rfl (ι := Nat × MX × List (Int × Value) × List (Nat × Nat)) (fun (xz : Nat × MX × List (Int × Value) × List (Nat × Nat)) => match xz with | (i,y,W,B) => [(12,[],iN i),(11,[],iN m.rs.length),(10,[],.slice m.ra m.rs.length m.rc),(3,[],.map (some am))]) (fun (xz : Nat × MX × List (Int × Value) × List (Nat × Nat)) => match xz with | (i,y,W,B) => [(am,.map y.1 y.2),(mb,.cells ((mc m).toArray) 28 (0,0))]) (fun (xz : Nat × MX × List (Int × Value) × List (Nat × Nat)) => match xz with | (i,y,W,B) => (i ≤ m.rs.length) ∧ (WMapOk y.1 y.2 W) ∧ (BehOk W B) ∧ (behA ((m.rs.drop i).map RowU.xs) B = behA (m.rs.map RowU.xs) [])) (fun (xz : Nat × MX × List (Int × Value) × List (Nat × Nat)) => match xz with | (i,y,W,B) => m.rs.length - i) (0,(#[],0),[],[]) ?_ (Conv.mk kr) (.cons_cons _ (.cons_cons _ .slnil)) ?_
 ·exact ⟨Nat.zero_le _,WMapOk.empty _,BehOk.zero,rfl⟩
 ·rintro ⟨i,y,W,B⟩ ⟨hi,hy,hw,hra⟩
  refine Rq [3,10,11,12,13] ?_
  refine Cfg.cond rfl (b := (decide ((i : Int) < (m.rs.length : Int)))) kr (fun c1r => ?_) (fun c1r => ?_)
  ·have c1 := (dT c1r)
   have hXi := hM.i _ (K.getD_mem (z := rwz) (l := m.rs) (i := i) om)
   obtain ⟨sc1,offc1,csc1,tec1,frec1,hvc1,hmc1,hcc1⟩ := hM.r om
   refine Cg (Γ' := [(13,[],.bool (decide ((i : Int) < (m.rs.length : Int)))),(12,[],iN i),(11,[],iN m.rs.length),(10,[],.slice m.ra m.rs.length m.rc),(3,[],.map (some am))]) ?_
   refine Cfg.setG (Γ' := [(13,[],.bool (decide ((i : Int) < (m.rs.length : Int)))),(12,[],iN i),(11,[],iN m.rs.length),(10,[],.slice (some ⟨sc1,offc1,none⟩) m.rs.length m.rc),(3,[],.map (some am))]) (congrArg (fun (xq : Option Addr) => ([(13,[],.bool (decide ((i : Int) < (m.rs.length : Int)))),(12,[],iN i),(11,[],iN m.rs.length),(10,[],.slice xq m.rs.length m.rc),(3,[],.map (some am))] : Env)) hvc1) ?_
   refine Rg [3,5,10,11,12] [dZ,(dS (.slice (m.rs.getD i rwz).a ((m.rs.getD i rwz).xs.length) ((m.rs.getD i rwz).c)))] (fun S => [(0 ≤ (i : Int) ∧ (i : Int) < (m.rs.length : Int)),(cE S sc1 (addO offc1 i) (.slice (m.rs.getD i rwz).a ((m.rs.getD i rwz).xs.length) ((m.rs.getD i rwz).c)))]) ⟨om,(fun w1 h => by rw [addO_eq]; exact (cell_cells (h.ro _ hmc1)).trans (fl_one (g := fun r : RowU => .slice r.a r.xs.length r.c) rwz hcc1 om)),trivial⟩ ?_
   refine Rq [3,5,10,11,12,16,17,18] ?_
   refine Cfg.setS 10 (show .slice (some ⟨sc1,offc1,none⟩) m.rs.length m.rc = .slice m.ra m.rs.length m.rc from congrArg (fun z => Value.slice z m.rs.length m.rc) hvc1.symm) ?_
   refine Cfg.loop rfl (ι := Nat × MX × List (Int × Value) × List (Nat × Nat)) (fun (xz : Nat × MX × List (Int × Value) × List (Nat × Nat)) => match xz with | (k,y,W,B2) => [(18,[],iN k),(17,[],.int .i64 ((m.rs.getD i rwz).xs.length : Int)),(16,[],.slice (m.rs.getD i rwz).a ((m.rs.getD i rwz).xs.length) ((m.rs.getD i rwz).c)),(5,[],.slice (m.rs.getD i rwz).a ((m.rs.getD i rwz).xs.length) ((m.rs.getD i rwz).c)),(12,[],iN i),(11,[],iN m.rs.length),(10,[],.slice m.ra m.rs.length m.rc),(3,[],.map (some am))]) (fun (xz : Nat × MX × List (Int × Value) × List (Nat × Nat)) => match xz with | (k,y,W,B2) => [(am,.map y.1 y.2),(mb,.cells ((mc m).toArray) 28 (0,0))]) (fun (xz : Nat × MX × List (Int × Value) × List (Nat × Nat)) => match xz with | (k,y,W,B2) => (k ≤ (m.rs.getD i rwz).xs.length) ∧ (WMapOk y.1 y.2 W) ∧ (BehOk W B2) ∧ (turnA (m.rs.getD i rwz).xs ((m.rs.getD i rwz).xs.length - k) B2 = turnA (m.rs.getD i rwz).xs (m.rs.getD i rwz).xs.length B)) (fun (xz : Nat × MX × List (Int × Value) × List (Nat × Nat)) => match xz with | (k,y,W,B2) => (m.rs.getD i rwz).xs.length - k) (0,y,W,B) ?_ (Conv.mk kr) (.cons_cons _ (.cons_cons _ .slnil)) ?_
   ·exact ⟨Nat.zero_le _,hy,hw,rfl⟩
   ·rintro ⟨k,y,W,B2⟩ ⟨hk,hy,hw,hrb⟩
    have hml : k < (m.rs.getD i rwz).xs.length → (k + 1) % (m.rs.getD i rwz).xs.length < (m.rs.getD i rwz).xs.length := fun h9 => Nat.mod_lt _ om
    have hmI : (((k : Int) + 1) % ((m.rs.getD i rwz).xs.length : Int)) = (((k + 1) % (m.rs.getD i rwz).xs.length : Nat) : Int) := by rw [Int.natCast_emod,Int.natCast_add]; rfl
    refine Rq [3,5,10,11,12,16,17,18,19] ?_
    refine Cfg.cond rfl (b := (decide ((k : Int) < ((m.rs.getD i rwz).xs.length : Int)))) kr (fun c2r => ?_) (fun c2r => ?_)
    ·have c2 := (dT c2r)
     obtain ⟨sr2,offr2,csr2,ter2,frer2,hvr2,hmr2,hcr2⟩ := hXi.1 om
     refine Cg (Γ' := [(19,[],.bool (decide ((k : Int) < ((m.rs.getD i rwz).xs.length : Int)))),(18,[],iN k),(17,[],.int .i64 ((m.rs.getD i rwz).xs.length : Int)),(16,[],.slice (m.rs.getD i rwz).a ((m.rs.getD i rwz).xs.length) ((m.rs.getD i rwz).c)),(5,[],.slice (m.rs.getD i rwz).a ((m.rs.getD i rwz).xs.length) ((m.rs.getD i rwz).c)),(12,[],iN i),(11,[],iN m.rs.length),(10,[],.slice m.ra m.rs.length m.rc),(3,[],.map (some am))]) ?_
     refine Cfg.setG (Γ' := [(19,[],.bool (decide ((k : Int) < ((m.rs.getD i rwz).xs.length : Int)))),(18,[],iN k),(17,[],.int .i64 ((m.rs.getD i rwz).xs.length : Int)),(16,[],.slice (some ⟨sr2,offr2,none⟩) (m.rs.getD i rwz).xs.length (m.rs.getD i rwz).c),(5,[],.slice (some ⟨sr2,offr2,none⟩) (m.rs.getD i rwz).xs.length (m.rs.getD i rwz).c),(12,[],iN i),(11,[],iN m.rs.length),(10,[],.slice m.ra m.rs.length m.rc),(3,[],.map (some am))]) (congrArg (fun (xq : Option Addr) => ([(19,[],.bool (decide ((k : Int) < ((m.rs.getD i rwz).xs.length : Int)))),(18,[],iN k),(17,[],.int .i64 ((m.rs.getD i rwz).xs.length : Int)),(16,[],.slice xq ((m.rs.getD i rwz).xs.length) ((m.rs.getD i rwz).c)),(5,[],.slice xq ((m.rs.getD i rwz).xs.length) ((m.rs.getD i rwz).c)),(12,[],iN i),(11,[],iN m.rs.length),(10,[],.slice m.ra m.rs.length m.rc),(3,[],.map (some am))] : Env)) hvr2) ?_
     refine Rg [3,5,6,7,10,11,12,16,17,18] [dZ,dZ,(dS (uN (((m.rs.getD i rwz).xs).getD k 0)))] (fun S => [(0 ≤ (k : Int) ∧ (k : Int) < ((m.rs.getD i rwz).xs.length : Int)),(cE S sr2 (addO offr2 k) (uN (((m.rs.getD i rwz).xs).getD k 0)))]) ⟨om,(fun w1 h => by rw [addO_eq]; exact (cell_cells (h.ro _ hmr2)).trans (fl_one (g := fun n : Nat => uN n) 0 hcr2 om)),trivial⟩ ?_
     refine Cfg.begL rfl ?_
     refine Lp 10 [dZ,dZ,dZ,dZ,dZ,dZ,dZ,dZ,dZ,(dS (uN ((((m.rs.getD i rwz).xs).getD (((k + 1) % ((m.rs.getD i rwz).xs.length))) 0))))] (some [3,5,10,11,12,16,17,18,23,24,32]) (fun S => [(i6 ((k : Int) + 1)),(0 ≤ ((k : Int) + 1) ∧ 0 < ((m.rs.getD i rwz).xs.length : Int)),(0 ≤ (((k : Int) + 1) % ((m.rs.getD i rwz).xs.length : Int)) ∧ (((k : Int) + 1) % ((m.rs.getD i rwz).xs.length : Int)) < ((m.rs.getD i rwz).xs.length : Int)),(cE S sr2 (addO offr2 ((k + 1) % ((m.rs.getD i rwz).xs.length))) (uN ((((m.rs.getD i rwz).xs).getD (((k + 1) % ((m.rs.getD i rwz).xs.length))) 0))))]) ⟨om,om,om,(fun w1 h => by rw [addO_eq]; exact (cell_cells (h.ro _ hmr2)).trans (fl_one (g := fun n : Nat => uN n) 0 hcr2 om)),trivial⟩ ?_
     refine Le (Eff.wSet (r := am) (k := (((m.rs.getD i rwz).xs).getD k 0 : Int)) (u := uN ((((m.rs.getD i rwz).xs).getD (((k + 1) % ((m.rs.getD i rwz).xs.length))) 0))) (es := y.1) (ck := y.2) rfl Tryz.underlying128 Tryz.underlying73 kr kr kr hy 0 kr) ?_
     rintro z hz
     refine CfgL.done rfl ?_
     refine Cg (Γ' := [(18,[],iN k),(17,[],.int .i64 ((m.rs.getD i rwz).xs.length : Int)),(16,[],.slice (some ⟨sr2,offr2,none⟩) (m.rs.getD i rwz).xs.length (m.rs.getD i rwz).c),(5,[],.slice (some ⟨sr2,offr2,none⟩) (m.rs.getD i rwz).xs.length (m.rs.getD i rwz).c),(12,[],iN i),(11,[],iN m.rs.length),(10,[],.slice m.ra m.rs.length m.rc),(3,[],.map (some am))]) ?_
     refine Rg [3,5,10,11,12,16,17,18] [] (fun _ => [(i6 ((k : Int) + 1))]) ⟨om,trivial⟩ ?_
     have hgo := turnA_go (t := (m.rs.getD i rwz).xs) (k := k) (A := B2) om
     have hws := hw.set (((m.rs.getD i rwz).xs).getD k 0) (((((m.rs.getD i rwz).xs).getD (((k + 1) % ((m.rs.getD i rwz).xs.length))) 0)))
     refine Cfg.setS 16 (show .slice (some ⟨sr2,offr2,none⟩) (m.rs.getD i rwz).xs.length (m.rs.getD i rwz).c = .slice (m.rs.getD i rwz).a ((m.rs.getD i rwz).xs.length) ((m.rs.getD i rwz).c) from congrArg (fun z => Value.slice z ((m.rs.getD i rwz).xs.length) ((m.rs.getD i rwz).c)) hvr2.symm) ?_
     refine Cfg.setS 5 (show .slice (some ⟨sr2,offr2,none⟩) (m.rs.getD i rwz).xs.length (m.rs.getD i rwz).c = .slice (m.rs.getD i rwz).a ((m.rs.getD i rwz).xs.length) ((m.rs.getD i rwz).c) from congrArg (fun z => Value.slice z ((m.rs.getD i rwz).xs.length) ((m.rs.getD i rwz).c)) hvr2.symm) ?_
     refine Cfg.again rfl (k + 1,z,_,setA (((m.rs.getD i rwz).xs).getD k 0) (((((m.rs.getD i rwz).xs).getD (((k + 1) % ((m.rs.getD i rwz).xs.length))) 0))) B2) ⟨by omega,hz,hws,hgo.symm.trans hrb⟩ (by show (m.rs.getD i rwz).xs.length - (k + 1) < (m.rs.getD i rwz).xs.length - k; omega) (Conv.mk kr) (.cons_cons _ (.cons_cons _ .slnil))
    ·have c2 := (dF c2r)
     refine Rg [3,10,11,12] [] (fun _ => [(i6 ((i : Int) + 1))]) ⟨om,trivial⟩ ?_
     have hgo := behA_go (rs := m.rs) (i := i) (A := B) om
     rw [show (m.rs.getD i rwz).xs.length - k = 0 by omega,turnA] at hrb
     rw [← hrb] at hgo
     refine Cfg.again rfl (i + 1,y,W,B2) ⟨by omega,hy,hw,hgo.symm.trans hra⟩ (by show m.rs.length - (i + 1) < m.rs.length - i; omega) (Conv.mk kr) (.cons_cons _ (.cons_cons _ .slnil))
  ·have c1 := (dF c1r)
   refine Rq [2] ?_
   refine Cfg.ret rfl (rs := [.tmp 2]) rfl [.map (some am)] ⟨kr,trivial⟩ (fun w1 hp => ?_)
   have hfin : B = behA (m.rs.map RowU.xs) [] := by rw [← hra,List.drop_eq_nil_of_le om]; rfl
   exact ⟨⟨am,y,W⟩,⟨hy,by rw [← hfin]; exact hw⟩,rfl,_,hp.sub (.cons_cons _ (.cons _ .slnil))⟩
set_option maxRecDepth 100000 in
set_option maxHeartbeats 8000000 in
theorem rWalk (d0 sb sm ab am : Nat) (y0 a : MX) (W0 Wa : List (Int × Value)) (s0 U : List Nat) (B : List (Nat × Nat)) (w : World) (hA : Has w (foA sb sm ab am y0 a)) (hdd : ((foA sb sm ab am y0 a).map (·.1)).Nodup) (hy0 : WMapOk y0.1 y0.2 W0) (hs0 : Seen W0 s0) (ha : WMapOk a.1 a.2 Wa) (hb : BehOk Wa B) (hU : ∀ d,getA d B ∈ U) (hUn : ∀ x ∈ U,x < 4294967296) (hUl : U.length ≤ 1000000) (hd0 : d0 ∈ U) :
  Calls Tryz.prog 78 #[.int .u32 (d0 : Int),.pointer (some ⟨sb,0,none⟩),.pointer (some ⟨ab,0,none⟩)] w fun e w' => ∃ q : FQ,q.Ok (walkF B U d0 s0) U.length ∧ e = .returned (.slice (Own.a q.o) q.f.length (Own.c q.o)) ∧ ∃ R1,HP w ((foA sb sm ab am y0 a).map (·.1)) R1 (foA sb sm ab am q.z a ++ Own.o 73 (q.f.flatMap u32c) q.o) w' := by
 have hl0 : left U s0 ≤ U.length := List.length_filter_le _ _
 refine enter ((foA sb sm ab am y0 a).map (·.1)) [] [(sb,.cells #[.map (some sm)] 130 (0,0)),(sm,.map y0.1 y0.2),(ab,.cells #[.map (some am)] 128 (0,0)),(am,.map a.1 a.2)] Tryz.func78 rfl kr (HP.ofL hA hdd (R := []) (fun e he => by cases he) (fun e he => by cases he)) ?_
 refine Rq [0,1,2] ?_
 refine Rq [0,1,2,5] ?_
 refine Cfg.loop rfl (ι := Nat × MX × List (Int × Value) × List Nat × K.Own × List Nat) (fun (xz : Nat × MX × List (Int × Value) × List Nat × K.Own × List Nat) => match xz with | (d,y,W,s,oo,f) => [(5,[],.slice (Own.a oo) f.length (Own.c oo)),(0,[],uN d),(1,[],pT sb),(2,[],pT ab)]) (fun (xz : Nat × MX × List (Int × Value) × List Nat × K.Own × List Nat) => match xz with | (d,y,W,s,oo,f) => ([(sb,.cells #[.map (some sm)] 130 (0,0)),(sm,.map y.1 y.2),(ab,.cells #[.map (some am)] 128 (0,0)),(am,.map a.1 a.2)] ++ (Own.o 73 (f.flatMap u32c) oo ++ []))) (fun (xz : Nat × MX × List (Int × Value) × List Nat × K.Own × List Nat) => match xz with | (d,y,W,s,oo,f) => (d ∈ U) ∧ (WMapOk y.1 y.2 W) ∧ (Seen W s) ∧ (OwnOk oo 1 f.length (f.flatMap u32c)) ∧ (f.length + left U s ≤ U.length) ∧ (walkF B U d s = walkF B U d0 s0)) (fun (xz : Nat × MX × List (Int × Value) × List Nat × K.Own × List Nat) => match xz with | (d,y,W,s,oo,f) => left U s) (d0,y0,W0,s0,none,[]) ?_ (Conv.mk kr) slr ?_
 ·exact ⟨hd0,hy0,hs0,OwnOk.none _,by show 0 + _ ≤ _; omega,rfl⟩
 ·rintro ⟨d,y,W,s,oo,f⟩ ⟨hd,hy,hs,hoo,hl,hwa⟩
  refine Cfg.begL rfl ?_
  refine Lp 2 [(dS (.map (some sm)))] none (fun S => [(cE S sb 0 (.map (some sm)))]) ⟨(oC 0 rfl rfl),trivial⟩ ?_
  refine Lu (Eff.reV (Eff.wGet (ok := false) (z := .int .i64 0) (r := sm) (k := (d : Int)) (es := y.1) (ck := y.2) rfl Tryz.underlying130 Tryz.underlying73 kr kr kr hy (fun w1 h => h.own (sm,_) (mG 1 rfl))) (fun _ => hs d)) ?_
  refine Ld 1 [0,1,2,5,9] ?_
  refine Cfg.cond rfl (b := ((if d ∈ s then (1 : Int) else 0) == (0 : Int))) kr (fun c1r => ?_) (fun c1r => ?_)
  ·have c1 := (beq_iff_eq.1 c1r)
   refine Cfg.begL rfl ?_
   refine Lp 2 [(dS (.map (some sm)))] (some [0,1,2,5,10,11]) (fun S => [(cE S sb 0 (.map (some sm)))]) ⟨(oC 0 rfl rfl),trivial⟩ ?_
   refine Le (Eff.wSet (r := sm) (k := (d : Int)) (u := .int .i64 1) (es := y.1) (ck := y.2) rfl Tryz.underlying130 Tryz.underlying73 kr kr kr hy 1 kr) ?_
   rintro z hz
   have hzs := hs.set d
   refine CfgL.done rfl ?_
   refine Cg (Γ' := [(5,[],.slice (Own.a oo) f.length (Own.c oo)),(0,[],uN d),(1,[],pT sb),(2,[],pT ab)]) ?_
   refine Cfg.begL rfl ?_
   refine Lp 2 [] none n0 trivial ?_
   refine Le (Eff.buildSlice (e := 73) (cells := #[uN d]) (parts := #[(0,uN d)]) rfl kr (fun _ => kr)) ?_
   rintro rb14 ⟨hrb14,nrb14⟩
   refine Le (Eff.appendF rfl 1 4 Tryz.underlying22 kr (z := (.int .u32 0)) kr kr oo (xs := (f.flatMap u32c)) hoo kr (b2 := rb14) (off2 := 0) (m := 1) (c2 := 1) kr ([uN d]) rfl (by intro q hq; rw [List.mem_singleton.1 hq]; rfl) [(rb14,.cells #[uN d] 73 (0,0)),(sb,.cells #[.map (some sm)] 130 (0,0)),(sm,.map z.1 z.2),(ab,.cells #[.map (some am)] 128 (0,0)),(am,.map a.1 a.2)] [] (by rfl) (fun w1 h j v hj => by rw [Nat.zero_add]; exact h.ocell 0 rfl (by rw [List.getElem?_toArray]; exact hj)) om om) ?_
   rintro o1 ko1
   refine Ld 1 [0,1,2,5] ?_
   refine Cfg.begA rfl kr ([(rb14,.cells #[uN d] 73 (0,0)),(sb,.cells #[.map (some sm)] 130 (0,0)),(sm,.map z.1 z.2),(ab,.cells #[.map (some am)] 128 (0,0)),(am,.map a.1 a.2)] ++ (Own.o 73 ((f.flatMap u32c) ++ [uN d]) o1 ++ [])) ?_
   refine Ap [0,1] [(dS (.map (some am)))] none (tF 2 3) slr 3 (fun S => [(cE S ab 0 (.map (some am)))]) ⟨(oC 3 rfl rfl),trivial⟩ ?_
   refine Au 2 rfl 2  (Eff.callA (.int .u32 (twin d : Int)) rfl Tryz.func79 rfl rfl kr (fun w1 _ => dTwin d w1 (hUn d hd))) (fun _ _ => slr) ?_
   refine Au 3 rfl 1  (Eff.reV (Eff.wGet (ok := false) (z := .int .u32 0) (r := am) (k := (twin d : Int)) (es := a.1) (ck := a.2) rfl Tryz.underlying128 Tryz.underlying73 kr kr kr ha (fun w1 h => h.own (am,_) (mG 4 rfl))) (fun _ => hb (twin d))) (fun _ _ => slr) ?_
   refine Ap [4] [] (some [0,1,2,5]) (tF 5 0) slr 0 n0 trivial ?_
   refine CfgA.done kr ?_
   have hni := ite10 (p := d ∈ s) om
   have hwk := walkF_step (A := B) hni hd
   have hlt := left_lt hd hni
   have hlg := left_go hd hni hl
   have hsl : (f ++ [d]).length = f.length + 1 := by rw [List.length_append]; rfl
   have hsf : (f ++ [d]).flatMap u32c = ((f.flatMap u32c) ++ [.int .u32 (d : Int)]) := by rw [List.flatMap_append]; rfl
   refine Cfg.setO (congrArg (fun (xq : List Value) => (([(rb14,.cells #[uN d] 73 (0,0)),(sb,.cells #[.map (some sm)] 130 (0,0)),(sm,.map z.1 z.2),(ab,.cells #[.map (some am)] 128 (0,0)),(am,.map a.1 a.2)] ++ (Own.o 73 xq o1 ++ [])) : LO)) (show _ = ((f ++ [d]).flatMap u32c) from hsf.symm)) ?_
   refine Cfg.setS 5 (congrArg (fun (xq : Nat) => (.slice (Own.a o1) xq (Own.c o1) : Value)) (show ((f.length + 1)) = ((f ++ [d]).length) from hsl.symm)) ?_
   refine Cfg.again rfl (getA (twin d) B,z,_,s ++ [d],o1,f ++ [d]) ⟨hU _,hz,hzs,by rw [hsl,hsf]; exact ko1,by rw [hsl]; exact hlg,hwk.symm.trans hwa⟩ (by show left U (s ++ [d]) < left U s; exact hlt) (Conv.mk kr) (.cons _ slr)
  ·have c1 := (beq_eq_false_iff_ne.1 c1r)
   refine Rq [4] ?_
   refine Cfg.ret rfl (rs := [.tmp 4]) rfl [.slice (Own.a oo) f.length (Own.c oo)] ⟨kr,trivial⟩ (fun w1 hp => ?_)
   have hfin : s = walkF B U d0 s0 := (walkF_end (ite01 om)).symm.trans hwa
   have h3 : HP w ((foA sb sm ab am y0 a).map (·.1)) [] (foA sb sm ab am y a ++ (Own.o 73 (f.flatMap u32c) oo ++ [])) w1 := hp
   rw [List.append_nil] at h3
   exact ⟨⟨y,W,oo,f⟩,⟨hy,by rw [← hfin]; exact hs,hoo,by show f.length ≤ _; omega⟩,rfl,_,h3⟩
end Go.Proofs.YtbeeelgfhfmgbaaGreatDoor
namespace Go.Proofs.YtbeeelgfhfmgbaaGreatDoor
namespace K
theorem Eff.quoI {C : Cx} {R O : List (Nat × Obj)} {Γ : Env} {op : Oper} {ty ty2 : TypeId} {x y : Operand} {k : IntKind} {a b : Int} (ho : op.op = .binOp .quo ty x y ty2) (hx : opd Γ [] x = some (.int k a)) (hy : opd Γ [] y = some (.int k b)) (hb : b ≠ 0) (hw : k.wrap (a.tdiv b) = a.tdiv b) :
  Eff C R O Γ op Unit (fun _ => .int k (a.tdiv b)) (fun _ => O) (fun _ => True) :=
 Eff.of_run fun c w hs hp => ⟨(),w,trivial,by
  simp only [execOp,ho]
  refine run_v ?_
  rw [opd_ok hs (holds_nil _) hx,opd_ok hs (holds_nil _) hy]
  simp [eqGuard,binOp,Op.intDiv,hb,hw],hp⟩
theorem tdiv2_in {a : Int} (h : -4611686018427387904 ≤ a ∧ a ≤ 4611686018427387904) : IntKind.i64.wrap (a.tdiv 2) = a.tdiv 2 := by
 refine wrap_in ?_
 have h1 : (a.tdiv 2).natAbs ≤ a.natAbs := by rw [Int.natAbs_tdiv]; exact Nat.div_le_self _ _
 show (-9223372036854775808 : Int) ≤ a.tdiv 2 ∧ a.tdiv 2 ≤ 9223372036854775807
 omega
end K
end Go.Proofs.YtbeeelgfhfmgbaaGreatDoor
namespace Go.Proofs.YtbeeelgfhfmgbaaGreatDoor
open K
set_option linter.unusedVariables false
theorem own_cap {o : K.Own} {sz n : Nat} {xs : List Value} (h : OwnOk o sz n xs) : n ≤ Own.c o := by
 cases o with
 | none => rw [h.nil rfl]; exact Nat.zero_le _
 | some p => exact (h.some p rfl).2
def darR (x k : Nat) (R : List Nat) : List Nat := (if k < 1 then [2 * x] else []) ++ ((if k < 2 then [2 * x + 1] else []) ++ R)
theorem darR_go {x k : Nat} {R : List Nat} (h : k < 2) : darR x k R = (2 * x + k) :: darR x (k + 1) R := by
 rcases (show k = 0 ∨ k = 1 by omega) with rfl | rfl <;> rfl
theorem darR_end {x : Nat} {R : List Nat} : darR x 2 R = R := rfl
theorem darts_go {es : List Ed} {i : Nat} (h : i < es.length) : dartsF (es.drop i) = darR (es.getD i ez).1 0 (dartsF (es.drop (i + 1))) := by
 rw [drop_at ez h]; unfold dartsF; rw [List.flatMap_cons]; rfl
theorem dart_in {es : List Ed} {rs : List (List Nat)} {i k : Nat} (h : i < es.length) (hk : k < 2) : 2 * (es.getD i ez).1 + k ∈ univ es rs := by
 unfold univ dartsF
 refine List.mem_cons_of_mem _ (mL (List.mem_flatMap.2 ⟨es.getD i ez,K.getD_mem h,?_⟩))
 rcases (show k = 0 ∨ k = 1 by omega) with rfl | rfl
 ·exact mH
 ·exact List.mem_cons_of_mem _ mH
theorem faceL_in {B : List (Nat × Nat)} {U l s : List Nat} {d n : Nat} (h : d ∈ s) : faceL B U (d :: l) s n = faceL B U l s n := by rw [faceL,if_pos h]
theorem faceL_go {B : List (Nat × Nat)} {U l s : List Nat} {d n : Nat} (h : d ∉ s) : faceL B U (d :: l) s n = faceL B U l (walkF B U d s) (n + 1) := by rw [faceL,if_neg h]
theorem faceL_le {B : List (Nat × Nat)} {U : List Nat} : ∀ (l s : List Nat) (n : Nat),(faceL B U l s n).1 ≤ n + l.length
 | [],s,n => Nat.le_refl _
 | d :: l,s,n => by
  rw [faceL,List.length_cons]
  split
  ·have := faceL_le l s n (B := B) (U := U); omega
  ·have := faceL_le l (walkF B U d s) (n + 1) (B := B) (U := U); omega
theorem dartsF_len (es : List Ed) : (dartsF es).length = 2 * es.length := by
 unfold dartsF
 induction es with
 | nil => rfl
 | cons x es ih => rw [List.flatMap_cons,List.length_append,ih]; show 2 + 2 * es.length = 2 * (es.length + 1); omega
theorem facesF_le (es : List Ed) (rs : List (List Nat)) : facesF es rs ≤ 2 * es.length := by
 have := faceL_le (B := behA rs []) (U := univ es rs) (dartsF es) [] 0
 rw [dartsF_len] at this
 unfold facesF; omega
theorem partsL_le {es : List Ed} {U : List Nat} : ∀ (l s : List Nat) (n : Nat),partsL es U l s n ≤ n + l.length
 | [],s,n => Nat.le_refl _
 | d :: l,s,n => by
  rw [partsL,List.length_cons]
  split
  ·have := partsL_le l s n (es := es) (U := U); omega
  ·have := partsL_le l (bfs es U 0 [d] (s ++ [d])).2 (n + 1) (es := es) (U := U); omega
theorem partsF_le (vs : List Nat) (es : List Ed) : partsF vs es ≤ vs.length := by have := partsL_le (es := es) (U := vs) vs [] 0; unfold partsF; omega
theorem aloneL_le {es : List Ed} : ∀ (l : List Nat) (n : Nat),aloneL es l n ≤ n + l.length
 | [],n => Nat.le_refl _
 | d :: l,n => by
  by_cases h9 : (nearF es d).length = 0
  ·rw [aloneL,if_pos h9,List.length_cons]; have := aloneL_le l (n + 1) (es := es); omega
  ·rw [aloneL,if_neg h9,List.length_cons]; have := aloneL_le l n (es := es); omega
theorem aloneF_le (vs : List Nat) (es : List Ed) : aloneF vs es ≤ vs.length := by have := aloneL_le (es := es) vs 0; unfold aloneF; omega
theorem univ_len {vs : List Nat} {es : List Ed} {rs : List (List Nat)} (h : MapIn vs es rs) : (univ es rs).length ≤ 30000 := by
 unfold univ
 rw [List.length_cons,List.length_append,dartsF_len]
 have h1 : ∀ l : List (List Nat),(∀ x ∈ l,x.length ≤ 320) → (l.flatMap id).length ≤ 320 * l.length := by
  intro l
  induction l with
  | nil => intro _; exact Nat.zero_le _
  | cons x l ih =>
   intro hx
   rw [List.flatMap_cons,List.length_append,List.length_cons]
   have a := hx x mH
   have b := ih (fun y hy => hx y (List.mem_cons_of_mem _ hy))
   have c : (id x).length = x.length := rfl
   omega
 have h2 := h1 rs (fun x hx => (h.rn x hx).1)
 have h3 := h.r
 have h4 := h.v
 have h5 := h.e
 omega
theorem univ_lt {es : List Ed} {rs : List (List Nat)} (he : ∀ x ∈ es,x.1 ≤ 1048576) (hu : ∀ t ∈ rs,∀ n ∈ t,n < 4294967296) : ∀ x ∈ univ es rs,x < 4294967296 := by
 intro x hx
 unfold univ at hx
 rcases List.mem_cons.1 hx with rfl | hx
 ·decide
 ·rcases List.mem_append.1 hx with hx | hx
  ·unfold dartsF at hx
   obtain ⟨e,h1,h2⟩ := List.mem_flatMap.1 hx
   have := he e h1
   rcases List.mem_cons.1 h2 with rfl | h2
   ·omega
   ·rw [List.mem_singleton.1 h2]; omega
  ·obtain ⟨t,h1,h2⟩ := List.mem_flatMap.1 hx
   exact hu t h1 x h2
set_option maxRecDepth 100000 in
set_option maxHeartbeats 8000000 in
theorem rFaces (m : MM) (Rl : List (Nat × Obj)) (w : World) (hM : InM Rl m) (hR : Has w Rl) (hg : GrOk m.vs m.es) (hUn : ∀ x ∈ univ m.es (m.rs.map RowU.xs),x < 4294967296) (hUl : (univ m.es (m.rs.map RowU.xs)).length ≤ 1000000) :
  Calls Tryz.prog 64 #[.agg (mc m).toArray] w fun e w' => ∃ q : Option Addr × Nat,True ∧ e = .returned (.slice q.1 (facesF m.es (m.rs.map RowU.xs)) q.2) ∧ ∃ R1,HP w [] R1 [] w' := by
 have hge := hg.e
 obtain ⟨B,hB⟩ : ∃ B,B = behA (m.rs.map RowU.xs) [] := ⟨_,rfl⟩
 obtain ⟨U,hU⟩ : ∃ U,U = univ m.es (m.rs.map RowU.xs) := ⟨_,rfl⟩
 have hUc : ∀ d,getA d B ∈ U := fun d => by rw [hB,hU]; exact beh_univ _ _ d
 rw [← hU] at hUn hUl
 refine enter [] Rl [] Tryz.func64 rfl kr (HP.ofHas hR) ?_
 refine Cfg.begL rfl ?_
 refine Le (Eff.box (v := .agg (mc m).toArray) rfl kr) ?_
 rintro mb ⟨hmb,nmb⟩
 refine Ld 1 [1] ?_
 refine Rq [1,3] ?_
 refine Cfg.begL rfl ?_
 refine Lp 1 [(dS (.agg (mc m).toArray))] none (fun S => [(∀ w1,S w1 → (loadVar 28 ⟨mb,0,none⟩).run Tryz.prog w1 = .ok (.agg (mc m).toArray) w1)]) ⟨(fun w1 h => load_list Tryz.underlying28 rfl kr rfl (fun j v hj => h.ocell 0 rfl (by rw [List.getElem?_toArray]; exact (fun j v hj => by rw [Nat.zero_add]; exact hj) j v hj))),trivial⟩ ?_
 refine Le (Eff.callH (fun q : BQ => .map (some q.am)) [] (fun q => [(q.am,.map q.x.1 q.x.2)]) (fun q => q.Ok (m.rs.map RowU.xs)) [] ([(mb,.cells ((mc m).toArray) 28 (0,0))]) rfl rfl Tryz.func77 rfl rfl kr (fun w1 h _ _ => rBehind m Rl w1 hM (h.hasR (fun e he => he)))) ?_
 rintro ⟨am,a,Wa⟩ ⟨ha,hb⟩
 rw [← hB] at hb
 refine Le (Eff.alloc (z := (.map none)) rfl kr) ?_
 rintro ab ⟨hab,nab⟩
 refine Lu (Eff.store1 (b := ab) (off := 0) (v := .map (some am)) rfl kr kr rfl kr 0 (cs := #[.map none]) (e := 128) kr (by show 0 < 1; decide)) ?_
 refine CfgL.done rfl ?_
 refine Cg (Γ' := [(4,[],pT ab),(3,[],.slice none 0 0),(1,[],pT mb)]) ?_
 refine oB 0 rfl (show _ = #[.map (some am)] from rfl) ?_
 refine Cfg.begL rfl ?_
 refine Le (Eff.mapNew rfl) ?_
 rintro sm ⟨hsm,nsm⟩
 refine Le (Eff.alloc (z := (.map none)) rfl kr) ?_
 rintro sb ⟨hsb,nsb⟩
 refine Lu (Eff.store1 (b := sb) (off := 0) (v := .map (some sm)) rfl kr kr rfl kr 0 (cs := #[.map none]) (e := 130) kr (by show 0 < 1; decide)) ?_
 refine CfgL.done rfl ?_
 refine Cg (Γ' := [(5,[],pT sb),(4,[],pT ab),(3,[],.slice none 0 0),(1,[],pT mb)]) ?_
 refine oB 0 rfl (show _ = #[.map (some sm)] from rfl) ?_
 refine Rq [1,3,5,6] ?_
 refine Rg [3,5,6,17,18,19] [dZ,dZ,(dS (.slice m.ea m.es.length m.ec))] (fun S => [(cE S mb 1 (.slice m.ea m.es.length m.ec))]) ⟨(fun w1 h => h.ocell 4 rfl (by rw [List.getElem?_toArray]; exact rfl)),trivial⟩ ?_
 refine Cfg.loop rfl (ι := Nat × MX × List (Int × Value) × List Nat × Nat × K.Own × List Value) (fun (xz : Nat × MX × List (Int × Value) × List Nat × Nat × K.Own × List Value) => match xz with | (i,y,W,s,n,pp,cs) => [(19,[],iN i),(18,[],iN m.es.length),(17,[],.slice m.ea m.es.length m.ec),(6,[],.func (.func 78) #[] #[pT sb,pT ab]),(5,[],pT sb),(3,[],.slice (Own.a pp) n (Own.c pp))]) (fun (xz : Nat × MX × List (Int × Value) × List Nat × Nat × K.Own × List Value) => match xz with | (i,y,W,s,n,pp,cs) => ([(sb,.cells #[.map (some sm)] 130 (0,0)),(sm,.map y.1 y.2),(ab,.cells #[.map (some am)] 128 (0,0)),(am,.map a.1 a.2)] ++ (Own.o 22 cs pp ++ []))) (fun (xz : Nat × MX × List (Int × Value) × List Nat × Nat × K.Own × List Value) => match xz with | (i,y,W,s,n,pp,cs) => (i ≤ m.es.length) ∧ (n ≤ 2 * i) ∧ (WMapOk y.1 y.2 W) ∧ (Seen W s) ∧ (cs.length = n) ∧ (OwnOk pp 1 n cs) ∧ (faceL B U (dartsF (m.es.drop i)) s n = faceL B U (dartsF m.es) [] 0)) (fun (xz : Nat × MX × List (Int × Value) × List Nat × Nat × K.Own × List Value) => match xz with | (i,y,W,s,n,pp,cs) => m.es.length - i) (0,(#[],0),[],[],0,none,[]) ?_ (Conv.mk kr) (.cons_cons _ (.cons_cons _ (.cons_cons _ (.cons_cons _ (.cons _ slr))))) ?_
 ·exact ⟨Nat.zero_le _,Nat.le_refl _,WMapOk.empty _,Seen.zero,rfl,OwnOk.none _,rfl⟩
 ·rintro ⟨i,y,W,s,n,pp,cs⟩ ⟨hi,hn,hy,hs,hcl,hpp,hra⟩
  refine Rq [3,5,6,17,18,19,20] ?_
  refine Cfg.cond rfl (b := (decide ((i : Int) < (m.es.length : Int)))) kr (fun c1r => ?_) (fun c1r => ?_)
  ·have c1 := (dT c1r)
   obtain ⟨sb1,offb1,csb1,teb1,freb1,hvb1,hmb1,hcb1⟩ := hM.e om
   refine Cg (Γ' := [(20,[],.bool (decide ((i : Int) < (m.es.length : Int)))),(19,[],iN i),(18,[],iN m.es.length),(17,[],.slice m.ea m.es.length m.ec),(6,[],.func (.func 78) #[] #[pT sb,pT ab]),(5,[],pT sb),(3,[],.slice (Own.a pp) n (Own.c pp))]) ?_
   refine Cfg.setG (Γ' := [(20,[],.bool (decide ((i : Int) < (m.es.length : Int)))),(19,[],iN i),(18,[],iN m.es.length),(17,[],.slice (some ⟨sb1,offb1,none⟩) m.es.length m.ec),(6,[],.func (.func 78) #[] #[pT sb,pT ab]),(5,[],pT sb),(3,[],.slice (Own.a pp) n (Own.c pp))]) (congrArg (fun (xq : Option Addr) => ([(20,[],.bool (decide ((i : Int) < (m.es.length : Int)))),(19,[],iN i),(18,[],iN m.es.length),(17,[],.slice xq m.es.length m.ec),(6,[],.func (.func 78) #[] #[pT sb,pT ab]),(5,[],pT sb),(3,[],.slice (Own.a pp) n (Own.c pp))] : Env)) hvb1) ?_
   refine Cfg.begL rfl ?_
   refine Lp 2 [dZ,(dS (.agg (edc (m.es.getD i ez)).toArray))] (some [3,5,6,17,18,19,22]) (fun S => [(0 ≤ (i : Int) ∧ (i : Int) < (m.es.length : Int)),(∀ w1,S w1 → (loadVar 76 ⟨sb1,(addO offb1 (i * 3)),none⟩).run Tryz.prog w1 = .ok (.agg (edc (m.es.getD i ez)).toArray) w1)]) ⟨om,(fun w1 h => load_list Tryz.underlying76 rfl kr (edc_len _) (fun j v hj => by rw [addO_eq]; exact (cell_cells (h.ro _ hmb1)).trans (fl_cell ez (fun x _ => edc_len x) hcb1 om hj))),trivial⟩ ?_
   refine Le (Eff.alloc (z := (.agg #[.int .u32 0,.int .u32 0,.int .u32 0])) rfl kr) ?_
   rintro eb ⟨heb,neb⟩
   refine Lu (Eff.storeN (b := eb) (off := 0) (vs := (edc (m.es.getD i ez)).toArray) (n := 3) rfl kr kr kr rfl (one_edc _) 0 (cs := #[.int .u32 0,.int .u32 0,.int .u32 0]) (e := 76) kr (by decide)) ?_
   refine CfgL.setO (congrArg (fun (xq : Array Value) => (([(eb,.cells xq 76 (0,0)),(sb,.cells #[.map (some sm)] 130 (0,0)),(sm,.map y.1 y.2),(ab,.cells #[.map (some am)] 128 (0,0)),(am,.map a.1 a.2)] ++ (Own.o 22 cs pp ++ [])) : LO)) (show _ = #[.int .u32 ((m.es.getD i ez).1 : Int),.int .u32 ((m.es.getD i ez).2.1 : Int),.int .u32 ((m.es.getD i ez).2.2 : Int)] from rfl)) ?_
   refine CfgL.done rfl ?_
   refine Cg (Γ' := [(8,[],pT eb),(19,[],iN i),(18,[],iN m.es.length),(17,[],.slice (some ⟨sb1,offb1,none⟩) m.es.length m.ec),(6,[],.func (.func 78) #[] #[pT sb,pT ab]),(5,[],pT sb),(3,[],.slice (Own.a pp) n (Own.c pp))]) ?_
   refine Rq [3,5,6,8,17,18,19,23] ?_
   refine Cfg.setS 17 (show .slice (some ⟨sb1,offb1,none⟩) m.es.length m.ec = .slice m.ea m.es.length m.ec from congrArg (fun z => Value.slice z m.es.length m.ec) hvb1.symm) ?_
   refine Cfg.loop rfl (ι := Nat × MX × List (Int × Value) × List Nat × Nat × K.Own × List Value) (fun (xz : Nat × MX × List (Int × Value) × List Nat × Nat × K.Own × List Value) => match xz with | (k,y2,W2,s2,n2,p2,cs2) => [(23,[],iN k),(8,[],pT eb),(19,[],iN i),(18,[],iN m.es.length),(17,[],.slice m.ea m.es.length m.ec),(6,[],.func (.func 78) #[] #[pT sb,pT ab]),(5,[],pT sb),(3,[],.slice (Own.a p2) n2 (Own.c p2))]) (fun (xz : Nat × MX × List (Int × Value) × List Nat × Nat × K.Own × List Value) => match xz with | (k,y2,W2,s2,n2,p2,cs2) => ([(eb,.cells #[.int .u32 ((m.es.getD i ez).1 : Int),.int .u32 ((m.es.getD i ez).2.1 : Int),.int .u32 ((m.es.getD i ez).2.2 : Int)] 76 (0,0)),(sb,.cells #[.map (some sm)] 130 (0,0)),(sm,.map y2.1 y2.2),(ab,.cells #[.map (some am)] 128 (0,0)),(am,.map a.1 a.2)] ++ (Own.o 22 cs2 p2 ++ []))) (fun (xz : Nat × MX × List (Int × Value) × List Nat × Nat × K.Own × List Value) => match xz with | (k,y2,W2,s2,n2,p2,cs2) => (k ≤ 2) ∧ (n2 ≤ 2 * i + k) ∧ (WMapOk y2.1 y2.2 W2) ∧ (Seen W2 s2) ∧ (cs2.length = n2) ∧ (OwnOk p2 1 n2 cs2) ∧ (faceL B U (darR (m.es.getD i ez).1 k (dartsF (m.es.drop (i + 1)))) s2 n2 = faceL B U (dartsF m.es) [] 0)) (fun (xz : Nat × MX × List (Int × Value) × List Nat × Nat × K.Own × List Value) => match xz with | (k,y2,W2,s2,n2,p2,cs2) => 2 - k) (0,y,W,s,n,pp,cs) ?_ (Conv.mk kr) slr ?_
   ·exact ⟨Nat.zero_le _,by omega,hy,hs,hcl,hpp,by rw [← darts_go om]; exact hra⟩
   ·rintro ⟨k,y2,W2,s2,n2,p2,cs2⟩ ⟨hk,hn2,hy2,hs2,hcl2,hp2,hrb⟩
    refine Rq [3,5,6,8,17,18,19,23,24] ?_
    refine Cfg.cond rfl (b := (decide ((k : Int) < (2 : Int)))) kr (fun c2r => ?_) (fun c2r => ?_)
    ·have c2 := (dT c2r)
     refine Rq [3,5,6,8,9,17,18,19,23] ?_
     refine Cfg.begL rfl ?_
     refine Lp 3 [dZ,(dS (.int .u32 ((m.es.getD i ez).1 : Int)))] (some [3,5,6,8,17,18,19,23,27,28]) (fun S => [(cE S eb 0 (.int .u32 ((m.es.getD i ez).1 : Int)))]) ⟨(oC 0 rfl rfl),trivial⟩ ?_
     refine Lu (Eff.callA (.int .u32 ((2 * (m.es.getD i ez).1 + k) : Nat)) rfl Tryz.func80 rfl rfl kr (fun w1 _ => dOf (m.es.getD i ez).1 k w1 (hg.en _ (K.getD_mem om)).1.2 om)) ?_
     refine Ld 1 [3,5,6,8,10,17,18,19,23] ?_
     refine Cfg.begL rfl ?_
     refine Lp 2 [(dS (.map (some sm)))] none (fun S => [(cE S sb 0 (.map (some sm)))]) ⟨(oC 1 rfl rfl),trivial⟩ ?_
     refine Lu (Eff.reV (Eff.wGet (ok := false) (z := .int .i64 0) (r := sm) (k := (2 * (m.es.getD i ez).1 + k : Int)) (es := y2.1) (ck := y2.2) rfl Tryz.underlying130 Tryz.underlying73 kr kr kr hy2 (fun w1 h => h.own (sm,_) (mG 2 rfl))) (fun _ => hs2 (2 * (m.es.getD i ez).1 + k))) ?_
     refine Ld 1 [3,5,6,8,10,17,18,19,23,33] ?_
     refine Cfg.cond rfl (b := ((if 2 * (m.es.getD i ez).1 + k ∈ s2 then (1 : Int) else 0) == (0 : Int))) kr (fun c3r => ?_) (fun c3r => ?_)
     ·have c3 := (beq_iff_eq.1 c3r)
      refine Cfg.begL rfl ?_
      refine Lq 3 [3,5,6,8,17,18,19,23,34,35,36] ?_
      refine Le (Eff.callHC (vs := [.int .u32 ((2 * (m.es.getD i ez).1 + k) : Nat)]) [pT sb,pT ab] (fun q : FQ => .slice (Own.a q.o) q.f.length (Own.c q.o)) (foA sb sm ab am y2 a) (fun q => foA sb sm ab am q.z a ++ Own.o 73 (q.f.flatMap u32c) q.o) (fun q => q.Ok (walkF B U (2 * (m.es.getD i ez).1 + k) s2) U.length) ([(eb,.cells #[.int .u32 ((m.es.getD i ez).1 : Int),.int .u32 ((m.es.getD i ez).2.1 : Int),.int .u32 ((m.es.getD i ez).2.2 : Int)] 76 (0,0))]) ((Own.o 22 cs2 p2 ++ [])) (by rfl) rfl kr Tryz.func78 rfl rfl kr (fun w1 h hA1 hd1 => rWalk (2 * (m.es.getD i ez).1 + k) sb sm ab am y2 a W2 Wa s2 U B w1 hA1 hd1 hy2 hs2 ha hb hUc hUn hUl (by rw [hU]; exact dart_in om om))) ?_
      rintro ⟨z,Wz,fo,f⟩ ⟨hz,hzs,hfo,hfl⟩
      simp only at hfo hfl
      refine Le (Eff.callOF 73 1 f.length ((normF f).flatMap u32c) ([(eb,.cells #[.int .u32 ((m.es.getD i ez).1 : Int),.int .u32 ((m.es.getD i ez).2.1 : Int),.int .u32 ((m.es.getD i ez).2.2 : Int)] 76 (0,0)),(sb,.cells #[.map (some sm)] 130 (0,0)),(sm,.map z.1 z.2),(ab,.cells #[.map (some am)] 128 (0,0)),(am,.map a.1 a.2)]) ((Own.o 73 (f.flatMap u32c) fo ++ (Own.o 22 cs2 p2 ++ []))) (by rfl) rfl Tryz.func76 rfl rfl kr (fun w1 h => gNormal (Own.a fo) (Own.c fo) f (Own.o 73 (f.flatMap u32c) fo) w1 (own_inf hfo) (fun e he => h.own e (show e ∈ ([(eb,Obj.cells #[.int .u32 ((m.es.getD i ez).1 : Int),.int .u32 ((m.es.getD i ez).2.1 : Int),.int .u32 ((m.es.getD i ez).2.2 : Int)] 76 (0,0)),(sb,Obj.cells #[.map (some sm)] 130 (0,0)),(sm,Obj.map z.1 z.2),(ab,Obj.cells #[.map (some am)] 128 (0,0)),(am,Obj.map a.1 a.2)] ++ (Own.o 73 (f.flatMap u32c) fo ++ (Own.o 22 cs2 p2 ++ []))) from mR (mL he))) om (own_cap hfo))) ?_
      rintro no kno
      refine Le (Eff.buildSlice (e := 22) (cells := #[.slice (Own.a no) f.length (Own.c no)]) (parts := #[(0,.slice (Own.a no) f.length (Own.c no))]) rfl kr (fun _ => kr)) ?_
      rintro rb39 ⟨hrb39,nrb39⟩
      refine Le (Eff.reO (A2 := fun (oq9 : K.Own) => ([(rb39,.cells #[.slice (Own.a no) f.length (Own.c no)] 22 (0,0)),(eb,.cells #[.int .u32 ((m.es.getD i ez).1 : Int),.int .u32 ((m.es.getD i ez).2.1 : Int),.int .u32 ((m.es.getD i ez).2.2 : Int)] 76 (0,0)),(sb,.cells #[.map (some sm)] 130 (0,0)),(sm,.map z.1 z.2),(ab,.cells #[.map (some am)] 128 (0,0)),(am,.map a.1 a.2)] ++ (Own.o 73 ((normF f).flatMap u32c) no ++ (Own.o 73 (f.flatMap u32c) fo ++ (Own.o 22 (cs2 ++ [.slice (Own.a no) f.length (Own.c no)]) oq9 ++ []))))) (Eff.appendF rfl 1 24 Tryz.underlying26 kr (z := (.slice none 0 0)) kr kr p2 (xs := cs2) hp2 kr (b2 := rb39) (off2 := 0) (m := 1) (c2 := 1) kr ([.slice (Own.a no) f.length (Own.c no)]) rfl (by intro q hq; rw [List.mem_singleton.1 hq]; rfl) ([(rb39,.cells #[.slice (Own.a no) f.length (Own.c no)] 22 (0,0)),(eb,.cells #[.int .u32 ((m.es.getD i ez).1 : Int),.int .u32 ((m.es.getD i ez).2.1 : Int),.int .u32 ((m.es.getD i ez).2.2 : Int)] 76 (0,0)),(sb,.cells #[.map (some sm)] 130 (0,0)),(sm,.map z.1 z.2),(ab,.cells #[.map (some am)] 128 (0,0)),(am,.map a.1 a.2)] ++ (Own.o 73 ((normF f).flatMap u32c) no ++ (Own.o 73 (f.flatMap u32c) fo))) [] (by simp only [List.append_assoc,List.cons_append,List.nil_append,List.append_nil]) (fun w1 h j v hj => by rw [Nat.zero_add]; exact h.ocell 0 rfl (by rw [List.getElem?_toArray]; exact hj)) om om) (fun oq9 => by simp only [List.append_assoc,List.cons_append,List.nil_append,List.append_nil])) ?_
      rintro o5 ko5
      refine CfgL.pure 1 [] (some [3,5,6,8,17,18,19,23]) (Γ' := [(3,[],.slice (Own.a o5) ((n2 + 1)) (Own.c o5)),(23,[],iN k),(8,[],pT eb),(19,[],iN i),(18,[],iN m.es.length),(17,[],.slice m.ea m.es.length m.ec),(6,[],.func (.func 78) #[] #[pT sb,pT ab]),(5,[],pT sb)]) (nd := (fun _ => [])) kr (fun _ => kr) trivial ?_
      refine CfgL.done rfl ?_
      refine Rg [3,5,6,8,17,18,19,23] [] (fun _ => [(i6 ((k : Int) + 1))]) ⟨om,trivial⟩ ?_
      have hgo := (congrArg (fun L => faceL B U L s2 n2) (darR_go (x := (m.es.getD i ez).1) (R := dartsF (m.es.drop (i + 1))) (show k < 2 by omega))).trans (faceL_go (ite10 om))
      have hcl3 : ((cs2 ++ [Value.slice (Own.a no) f.length (Own.c no)])).length = n2 + 1 := by rw [List.length_append]; show cs2.length + 1 = _; omega
      refine Cfg.again rfl (k + 1,z,Wz,walkF B U (2 * (m.es.getD i ez).1 + k) s2,n2 + 1,o5,(cs2 ++ [Value.slice (Own.a no) f.length (Own.c no)])) ⟨by omega,by omega,hz,hzs,hcl3,ko5,hgo.symm.trans hrb⟩ (by show 2 - (k + 1) < 2 - k; omega) (Conv.mk kr) (.cons _ (.cons_cons _ (.cons_cons _ (.cons_cons _ (.cons_cons _ (.cons_cons _ (show List.Sublist (Own.o 22 (cs2 ++ [.slice (Own.a no) f.length (Own.c no)]) o5 ++ []) (Own.o 73 ((normF f).flatMap u32c) no ++ (Own.o 73 (f.flatMap u32c) fo ++ (Own.o 22 (cs2 ++ [.slice (Own.a no) f.length (Own.c no)]) o5 ++ []))) from (List.Sublist.trans (List.Sublist.trans (List.Sublist.append (List.Sublist.refl (Own.o 22 (cs2 ++ [.slice (Own.a no) f.length (Own.c no)]) o5)) (List.nil_sublist _)) (List.sublist_append_right (Own.o 73 (f.flatMap u32c) fo) _)) (List.sublist_append_right (Own.o 73 ((normF f).flatMap u32c) no) _)))))))))
     ·have c3 := (beq_eq_false_iff_ne.1 c3r)
      refine Rg [3,5,6,8,17,18,19,23] [] (fun _ => [(i6 ((k : Int) + 1))]) ⟨om,trivial⟩ ?_
      have hgo := (congrArg (fun L => faceL B U L s2 n2) (darR_go (x := (m.es.getD i ez).1) (R := dartsF (m.es.drop (i + 1))) (show k < 2 by omega))).trans (faceL_in (ite01 om))
      refine Cfg.again rfl (k + 1,y2,W2,s2,n2,p2,cs2) ⟨by omega,by omega,hy2,hs2,hcl2,hp2,hgo.symm.trans hrb⟩ (by show 2 - (k + 1) < 2 - k; omega) (Conv.mk kr) slr
    ·have c2 := (dF c2r)
     refine Rg [3,5,6,17,18,19] [] (fun _ => [(i6 ((i : Int) + 1))]) ⟨om,trivial⟩ ?_
     rw [show k = 2 by omega,darR_end] at hrb
     refine Cfg.again rfl (i + 1,y2,W2,s2,n2,p2,cs2) ⟨by omega,by omega,hy2,hs2,hcl2,hp2,hrb⟩ (by show m.es.length - (i + 1) < m.es.length - i; omega) (Conv.mk kr) (.cons _ slr)
  ·have c1 := (dF c1r)
   refine Rq [2] ?_
   refine Cfg.ret rfl (rs := [.tmp 2]) rfl [.slice (Own.a pp) n (Own.c pp)] ⟨kr,trivial⟩ (fun w1 hp => ?_)
   have hfin : facesF m.es (m.rs.map RowU.xs) = n := by unfold facesF; rw [← hB,← hU,← hra,List.drop_eq_nil_of_le om]; rfl
   rw [hfin]
   exact ⟨(Own.a pp,Own.c pp),trivial,rfl,_,hp.sub (List.nil_sublist _)⟩
set_option maxRecDepth 100000 in
set_option maxHeartbeats 8000000 in
theorem rGenus (m : MM) (Rl : List (Nat × Obj)) (w : World) (hM : InM Rl m) (hR : Has w Rl) (hg : GrOk m.vs m.es) (hUn : ∀ x ∈ univ m.es (m.rs.map RowU.xs),x < 4294967296) (hUl : (univ m.es (m.rs.map RowU.xs)).length ≤ 1000000) (hnd : m.vs.Nodup) :
  Calls Tryz.prog 65 #[.agg (mc m).toArray] w fun e w' => e = .returned (.int .i64 (genusF m.vs m.es (m.rs.map RowU.xs))) ∧ Ext [] w w' := by
 have hge := hg.e
 have hgv := hg.v
 have hb1 := partsF_le m.vs m.es
 have hb2 := aloneF_le m.vs m.es
 have hb3 := facesF_le m.es (m.rs.map RowU.xs)
 refine enter [] Rl [] Tryz.func65 rfl kr (HP.ofHas hR) ?_
 refine Cfg.begL rfl ?_
 refine Le (Eff.box (v := .agg (mc m).toArray) rfl kr) ?_
 rintro mb ⟨hmb,nmb⟩
 refine Ld 1 [1] ?_
 refine Cfg.begA rfl kr [(mb,.cells ((mc m).toArray) 28 (0,0))] ?_
 refine Ap [0,1,4,5] [dZ,(dS (.agg (gc m).toArray)),dZ,(dS (.agg (gc m).toArray))] (some [1,6,10]) (bF 51 9) (.cons_cons _ .slnil) 5 (fun S => [(∀ w1,S w1 → (loadVar 25 ⟨mb,0,none⟩).run Tryz.prog w1 = .ok (.agg (gc m).toArray) w1),(∀ w1,S w1 → (loadVar 25 ⟨mb,0,none⟩).run Tryz.prog w1 = .ok (.agg (gc m).toArray) w1)]) ⟨(fun w1 h => load_list Tryz.underlying25 rfl kr rfl (fun j v hj => h.ocell 0 rfl (by rw [List.getElem?_toArray]; exact (fun j v hj => gc_mc hj) j v hj))),(fun w1 h => load_list Tryz.underlying25 rfl kr rfl (fun j v hj => h.ocell 0 rfl (by rw [List.getElem?_toArray]; exact (fun j v hj => gc_mc hj) j v hj))),trivial⟩ ?_
 refine Ae 2 rfl 4  (Eff.callH (fun q : Option Addr × Nat => .slice q.1 (partsF m.vs m.es) q.2) [] (fun _ => []) (fun _ => True) [] ([(mb,.cells ((mc m).toArray) 28 (0,0))]) rfl rfl Tryz.func81 rfl rfl kr (fun w1 h _ _ => gParts m Rl w1 hM (h.hasR (fun e he => he)) hg hnd)) (fun _ _ => (.cons_cons _ .slnil)) ?_
 rintro q1 -
 refine Ap [3] [] (some [1,8,10]) (tF 6 3) (.cons_cons _ .slnil) 3 n0 trivial ?_
 refine Au 6 rfl 2  (Eff.callA (.int .i64 (aloneF m.vs m.es : Nat)) rfl Tryz.func82 rfl rfl kr (fun w1 h => gAlone m Rl w1 hM (h.hasR (fun e he => he)) hg hnd)) (fun _ _ => (.cons_cons _ .slnil)) ?_
 refine Ap [7,8] [] (some [1,3,4]) (tF 9 0) (.cons_cons _ .slnil) 0 n0 trivial ?_
 refine CfgA.done kr ?_
 refine Cfg.begA rfl kr [(mb,.cells ((mc m).toArray) 28 (0,0))] ?_
 refine Ap (List.range 15) [dZ,dZ,dZ,dZ,dZ,dZ,(dS (.slice m.va m.vs.length m.vc)),dZ,dZ,dZ,dZ,(dS (.slice m.ea m.es.length m.ec)),dZ,dZ,(dS (.agg (mc m).toArray))] (some [25,26]) (tF 15 5) (.cons_cons _ .slnil) 5 (fun S => [(i6 (2 * ((partsF m.vs m.es) : Int))),(i6 ((2 * ((partsF m.vs m.es) : Int)) - ((aloneF m.vs m.es) : Int))),(cE S mb 0 (.slice m.va m.vs.length m.vc)),(i6 (((2 * ((partsF m.vs m.es) : Int)) - ((aloneF m.vs m.es) : Int)) - (m.vs.length : Int))),(cE S mb 1 (.slice m.ea m.es.length m.ec)),(i6 ((((2 * ((partsF m.vs m.es) : Int)) - ((aloneF m.vs m.es) : Int)) - (m.vs.length : Int)) + (m.es.length : Int))),(∀ w1,S w1 → (loadVar 28 ⟨mb,0,none⟩).run Tryz.prog w1 = .ok (.agg (mc m).toArray) w1)]) ⟨om,om,(fun w1 h => h.ocell 0 rfl (by rw [List.getElem?_toArray]; exact rfl)),om,(fun w1 h => h.ocell 0 rfl (by rw [List.getElem?_toArray]; exact rfl)),om,(fun w1 h => load_list Tryz.underlying28 rfl kr rfl (fun j v hj => h.ocell 0 rfl (by rw [List.getElem?_toArray]; exact (fun j v hj => by rw [Nat.zero_add]; exact hj) j v hj))),trivial⟩ ?_
 refine Ae 15 rfl 4  (Eff.callH (fun q : Option Addr × Nat => .slice q.1 (facesF m.es (m.rs.map RowU.xs)) q.2) [] (fun _ => []) (fun _ => True) [] ([(mb,.cells ((mc m).toArray) 28 (0,0))]) rfl rfl Tryz.func64 rfl rfl kr (fun w1 h _ _ => rFaces m Rl w1 hM (h.hasR (fun e he => he)) hg hUn hUl)) (fun _ _ => (.cons_cons _ .slnil)) ?_
 rintro q2 -
 refine Ap [16,17] [] (some [29]) (tF 18 2) (.cons_cons _ .slnil) 2 (fun _ => [(i6 (((((2 * ((partsF m.vs m.es) : Int)) - ((aloneF m.vs m.es) : Int)) - (m.vs.length : Int)) + (m.es.length : Int)) - ((facesF m.es (m.rs.map RowU.xs)) : Int)))]) ⟨om,trivial⟩ ?_
 refine Au 18 rfl 1  (Eff.quoI (k := .i64) (a := (((((2 * ((partsF m.vs m.es) : Int)) - ((aloneF m.vs m.es) : Int)) - (m.vs.length : Int)) + (m.es.length : Int)) - ((facesF m.es (m.rs.map RowU.xs)) : Int))) (b := 2) rfl kr kr (by decide) (tdiv2_in om)) (fun _ _ => (.cons_cons _ .slnil)) ?_
 refine Ap [19] [] (some [2]) (tF 20 0) (.cons_cons _ .slnil) 0 n0 trivial ?_
 refine CfgA.done kr ?_
 refine Cfg.ret rfl (rs := [.tmp 2]) rfl [.int .i64 (((((((2 * ((partsF m.vs m.es) : Int)) - ((aloneF m.vs m.es) : Int)) - (m.vs.length : Int)) + (m.es.length : Int)) - ((facesF m.es (m.rs.map RowU.xs)) : Int)) : Int).tdiv 2)] ⟨kr,trivial⟩ (fun w1 hp => ?_)
 exact ⟨rfl,hp.ext⟩
theorem checkR_g {vs : List Nat} {es : List Ed} {rs : List (List Nat)} (h : checkR vs es rs = 0) : graphF vs es = 0 := by
 unfold checkR at h
 split at h
 ·rename_i h0; exact absurd h h0
 ·rename_i h0; exact Decidable.not_not.1 h0
set_option maxRecDepth 100000 in
set_option maxHeartbeats 8000000 in
theorem rRight (m : MM) (Rl : List (Nat × Obj)) (w : World) (hM : InM Rl m) (hR : Has w Rl) (hu : ∀ r ∈ m.rs,∀ n ∈ r.xs,n < 4294967296) :
  Calls Tryz.prog 39 #[.agg (mc m).toArray] w fun e w' => e = .returned (.int .i64 (rightF m.vs m.es (m.rs.map RowU.xs))) ∧ Ext [] w w' := by
 refine enter [] Rl [] Tryz.func39 rfl kr (HP.ofHas hR) ?_
 refine Cfg.begL rfl ?_
 refine Le (Eff.box (v := .agg (mc m).toArray) rfl kr) ?_
 rintro mb ⟨hmb,nmb⟩
 refine Ld 1 [1] ?_
 refine Cfg.begL rfl ?_
 refine Lp 1 [(dS (.agg (mc m).toArray))] none (fun S => [(∀ w1,S w1 → (loadVar 28 ⟨mb,0,none⟩).run Tryz.prog w1 = .ok (.agg (mc m).toArray) w1)]) ⟨(fun w1 h => load_list Tryz.underlying28 rfl kr rfl (fun j v hj => h.ocell 0 rfl (by rw [List.getElem?_toArray]; exact (fun j v hj => by rw [Nat.zero_add]; exact hj) j v hj))),trivial⟩ ?_
 refine Lu (Eff.callA (.int .i64 (checkR m.vs m.es (m.rs.map RowU.xs))) rfl Tryz.func67 rfl rfl kr (fun w1 h => rCheck m Rl w1 hM (h.hasR (fun e he => he)))) ?_
 refine Ld 1 [1,3] ?_
 refine Rq [1,3,7] ?_
 refine Cfg.cond rfl (b := ((checkR m.vs m.es (m.rs.map RowU.xs)) != (0 : Int))) kr (fun c1r => ?_) (fun c1r => ?_)
 ·have c1 := (bne_iff_ne.1 c1r)
  refine Rq [2] ?_
  refine Cfg.ret rfl (rs := [.tmp 2]) rfl [.int .i64 (checkR m.vs m.es (m.rs.map RowU.xs))] ⟨kr,trivial⟩ (fun w1 hp => ?_)
  have hfin : rightF m.vs m.es (m.rs.map RowU.xs) = (checkR m.vs m.es (m.rs.map RowU.xs)) := if_pos om
  rw [hfin]
  exact ⟨rfl,hp.ext⟩
 ·have c1 := (bne_eq_false_iff_eq.1 c1r)
  have hc0 : (checkR m.vs m.es (m.rs.map RowU.xs)) = 0 := by omega
  have hin := checkR_in hc0 (fun t ht n hn => by obtain ⟨r,h1,rfl⟩ := List.mem_map.1 ht; exact hu r h1 n hn)
  have hg0 := checkR_g hc0
  have hg := graphF_ok hg0
  have hul := univ_len hin
  refine Cfg.begL rfl ?_
  refine Lp 1 [(dS (.agg (mc m).toArray))] (some [9]) (fun S => [(∀ w1,S w1 → (loadVar 28 ⟨mb,0,none⟩).run Tryz.prog w1 = .ok (.agg (mc m).toArray) w1)]) ⟨(fun w1 h => load_list Tryz.underlying28 rfl kr rfl (fun j v hj => h.ocell 0 rfl (by rw [List.getElem?_toArray]; exact (fun j v hj => by rw [Nat.zero_add]; exact hj) j v hj))),trivial⟩ ?_
  refine Lu (Eff.callA (.int .i64 (genusF m.vs m.es (m.rs.map RowU.xs))) rfl Tryz.func65 rfl rfl kr (fun w1 h => rGenus m Rl w1 hM (h.hasR (fun e he => he)) hg (univ_lt (fun x hx => (hg.en x hx).1.2) (fun t ht n hn => by obtain ⟨r,h1,rfl⟩ := List.mem_map.1 ht; exact hu r h1 n hn)) om (graphF_nd hg0))) ?_
  refine Ld 1 [11] ?_
  refine Cfg.cond rfl (b := ((genusF m.vs m.es (m.rs.map RowU.xs)) != (0 : Int))) kr (fun c2r => ?_) (fun c2r => ?_)
  ·have c2 := (bne_iff_ne.1 c2r)
   refine Cfg.reg rfl [2] [] (Γ' := [(2,[],.int .i64 23)]) (nd := (fun _ => [])) (fun _ => kr) trivial ?_
   refine Cfg.ret rfl (rs := [.tmp 2]) rfl [.int .i64 23] ⟨kr,trivial⟩ (fun w1 hp => ?_)
   have hfin : rightF m.vs m.es (m.rs.map RowU.xs) = 23 := (if_neg om).trans (if_pos om)
   rw [hfin]
   exact ⟨rfl,hp.ext⟩
  ·have c2 := (bne_eq_false_iff_eq.1 c2r)
   refine Rq [2] ?_
   refine Cfg.ret rfl (rs := [.tmp 2]) rfl [.int .i64 0] ⟨kr,trivial⟩ (fun w1 hp => ?_)
   have hfin : rightF m.vs m.es (m.rs.map RowU.xs) = 0 := (if_neg om).trans (if_neg om)
   rw [hfin]
   exact ⟨rfl,hp.ext⟩
end Go.Proofs.YtbeeelgfhfmgbaaGreatDoor
namespace Go.Proofs.YtbeeelgfhfmgbaaGreatDoor
open K
set_option linter.unusedVariables false
theorem lit_inf {rb : Nat} {e : TypeId} {xs : List Nat} : InF u32c 1 [(rb,.cells (nv xs).toArray e (0,0))] (some ⟨rb,0,none⟩) xs := by
 intro _
 refine ⟨rb,0,_,e,(0,0),rfl,mH,fun j hj => ?_⟩
 have hj : j < xs.length := by omega
 show (nv xs).toArray[0 + j]? = some ((xs.flatMap u32c).getD j undef)
 rw [nv_flat,Nat.zero_add,List.getElem?_toArray,List.getD_eq_getElem?_getD,List.getElem?_eq_getElem (by rw [nv_len]; exact hj)]; rfl
theorem conc_three (rb lb sb o1 c1 c2 c3 c4 : Nat) (e : TypeId) (Rl : List (Nat × Obj)) (w : World) (h1 : InF u32c 1 Rl (some ⟨lb,0,none⟩) [2,5]) (h2 : InF u32c 1 Rl (some ⟨sb,0,none⟩) [9]) (h3 : InF u32c 1 Rl (some ⟨lb,o1,none⟩) [7])
  (hR : Has w ((rb,Obj.cells #[.slice (some ⟨lb,0,none⟩) 2 c1,.slice (some ⟨sb,0,none⟩) 1 c2,.slice (some ⟨lb,o1,none⟩) 1 c3] e (0,0)) :: Rl)) :
  Calls Tryz.prog 103 #[.slice (some ⟨rb,0,none⟩) 3 c4] w fun e w' => ∃ o : K.Own,OwnOk o 1 4 (([2,5,9,7] : List Nat).flatMap u32c) ∧ e = .returned (.slice o.a 4 o.c) ∧ Has w' (o.o 73 (([2,5,9,7] : List Nat).flatMap u32c)) ∧ (∀ x ∈ o.o 73 (([2,5,9,7] : List Nat).flatMap u32c),w.heap.size ≤ x.1) ∧ Ext [] w w' := by
 refine sConcat _ c4 [⟨some ⟨lb,0,none⟩,c1,[2,5]⟩,⟨some ⟨sb,0,none⟩,c2,[9]⟩,⟨some ⟨lb,o1,none⟩,c3,[7]⟩] _ w (InF.mono (rows_lit (rb := rb) (e := e) (fun j hj => ?_)) (fun x hx => by rw [List.mem_singleton.1 hx]; exact mH)) (fun r hr => ?_) hR (by show 3 ≤ 1000; decide) (by show 4 ≤ 1000000; decide)
 ·have hj : j < 3 := hj
  rcases (show j = 0 ∨ j = 1 ∨ j = 2 by omega) with rfl | rfl | rfl <;> rfl
 ·simp only [List.mem_cons,List.not_mem_nil,or_false] at hr
  rcases hr with rfl | rfl | rfl
  ·exact ⟨h1.mono (fun x hx => List.mem_cons_of_mem _ hx),by simp⟩
  ·exact ⟨h2.mono (fun x hx => List.mem_cons_of_mem _ hx),by simp⟩
  ·exact ⟨h3.mono (fun x hx => List.mem_cons_of_mem _ hx),by simp⟩
theorem norm_ex : normF [2,5,9,7] = [2,5,9,7] := by decide
theorem ix_ex : ixA 5 [2,5,7] 0 = 1 := by decide
set_option maxRecDepth 100000 in
set_option maxHeartbeats 4000000 in
theorem eIns (lb sb : Nat) (w : World) (hR : Has w [(lb,Obj.cells (nv [2,5,7]).toArray 73 (0,0)),(sb,Obj.cells (nv [9]).toArray 73 (0,0))]) :
  Calls Tryz.prog 134 #[.slice (some ⟨lb,0,none⟩) 3 3,.int .u32 5,.slice (some ⟨sb,0,none⟩) 1 1] w fun e w' => ∃ o : K.Own,OwnOk o 1 4 (([2,5,9,7] : List Nat).flatMap u32c) ∧ e = .returned (.slice o.a 4 o.c) ∧ Has w' (o.o 73 (([2,5,9,7] : List Nat).flatMap u32c)) ∧ (∀ x ∈ o.o 73 (([2,5,9,7] : List Nat).flatMap u32c),w.heap.size ≤ x.1) ∧ Ext [] w w' := by
 have i1 : InF u32c 1 [(lb,Obj.cells (nv [2,5,7]).toArray 73 (0,0)),(sb,Obj.cells (nv [9]).toArray 73 (0,0))] (some ⟨lb,0,none⟩) [2,5,7] := lit_inf.mono (fun e he => by rw [List.mem_singleton.1 he]; exact mH)
 have i2 : InF u32c 1 [(lb,Obj.cells (nv [2,5,7]).toArray 73 (0,0)),(sb,Obj.cells (nv [9]).toArray 73 (0,0))] (some ⟨sb,0,none⟩) [9] := lit_inf.mono (fun e he => by rw [List.mem_singleton.1 he]; exact List.mem_cons_of_mem _ mH)
 have i3 : InF u32c 1 [(lb,Obj.cells (nv [2,5,7]).toArray 73 (0,0)),(sb,Obj.cells (nv [9]).toArray 73 (0,0))] (some ⟨lb,0,none⟩) [2,5] := by
  obtain ⟨s,o,cs,t,fr,hs,hm,hc⟩ := i1 (by decide)
  cases hs
  exact inF_part hm hc 0 2 (by decide)
 have i4 : InF u32c 1 [(lb,Obj.cells (nv [2,5,7]).toArray 73 (0,0)),(sb,Obj.cells (nv [9]).toArray 73 (0,0))] (some ⟨lb,2,none⟩) [7] := by
  obtain ⟨s,o,cs,t,fr,hs,hm,hc⟩ := i1 (by decide)
  cases hs
  exact inF_part hm hc 2 1 (by decide)
 refine enter [] [(lb,Obj.cells (nv [2,5,7]).toArray 73 (0,0)),(sb,Obj.cells (nv [9]).toArray 73 (0,0))] [] Tryz.func134 rfl kr (HP.ofHas hR) ?_
 refine Rq [0,1,2] ?_
 refine Cfg.begL rfl ?_
 refine Lq 2 [0,2,8,9] ?_
 refine Lu (Eff.callA (vs := [.slice (some ⟨lb,0,none⟩) 3 3,.int .u32 5]) (.int .i64 1) rfl Tryz.func91 rfl rfl kr (fun w1 h => by have h9 := gIdx (some ⟨lb,0,none⟩) 3 [2,5,7] 5 _ w1 i1 (h.hasR (fun e he => he)) (by decide); rw [ix_ex] at h9; exact h9)) ?_
 refine Lp 2 [] (some [0,2,7]) (fun _ => [(i6 (2 : Int))]) ⟨om,trivial⟩ ?_
 refine CfgL.done rfl ?_
 refine Rq [0,2,7,13] ?_
 refine Cfg.condF rfl (b := false) kr rfl ?_
 refine Cfg.begA rfl kr [] ?_
 refine Ap [0,1,2,3,4,5,6] [] (some [18,19,22]) (tF 7 4) .slnil 4 (fun _ => [(0 ≤ (2 : Int)),(2 ≤ 3),(0 ≤ (2 : Int)),(2 ≤ 3 ∧ 3 ≤ 3)]) ⟨om,om,om,om,trivial⟩ ?_
 refine Ae 7 rfl 3  (Eff.buildSlice (e := 22) (cells := #[.slice (some ⟨lb,0,none⟩) 2 3,.slice (some ⟨sb,0,none⟩) 1 1,.slice (some ⟨lb,(if 3 = 2 then 0 else 2),none⟩) (3 - 2) (3 - 2)]) (parts := #[(0,.slice (some ⟨lb,0,none⟩) 2 3),(1,.slice (some ⟨sb,0,none⟩) 1 1),(2,.slice (some ⟨lb,(if 3 = 2 then 0 else 2),none⟩) (3 - 2) (3 - 2))]) rfl kr (fun _ => kr)) (fun _ _ => List.nil_sublist _) ?_
 rintro rb ⟨hrb,nrb⟩
 refine Ae 8 rfl 2  (Eff.callOF 73 1 4 (([2,5,9,7] : List Nat).flatMap u32c) [(rb,.cells #[.slice (some ⟨lb,0,none⟩) 2 3,.slice (some ⟨sb,0,none⟩) 1 1,.slice (some ⟨lb,(if 3 = 2 then 0 else 2),none⟩) (3 - 2) (3 - 2)] 22 (0,0))] [] (by rfl) rfl Tryz.func103 rfl rfl kr (fun w1 h => conc_three rb lb sb 2 3 1 1 3 22 _ w1 i3 i2 i4 (fun e he => (List.mem_cons.1 he).elim (fun he => by rw [he]; exact h.own (rb,_) mH) (fun he => h.ro e he)))) (fun _ _ => List.nil_sublist _) ?_
 rintro oc koc
 refine Ae 9 rfl 1  (Eff.callOF (vs := [.slice (Own.a oc) 4 (Own.c oc)]) 73 1 4 (([2,5,9,7] : List Nat).flatMap u32c) [(rb,.cells #[.slice (some ⟨lb,0,none⟩) 2 3,.slice (some ⟨sb,0,none⟩) 1 1,.slice (some ⟨lb,(if 3 = 2 then 0 else 2),none⟩) (3 - 2) (3 - 2)] 22 (0,0))] ((Own.o 73 (([2,5,9,7] : List Nat).flatMap u32c) oc ++ [])) (by rfl) rfl Tryz.func76 rfl rfl kr (fun w1 h => by have h9 := gNormal (Own.a oc) (Own.c oc) [2,5,9,7] (Own.o 73 (([2,5,9,7] : List Nat).flatMap u32c) oc) w1 (own_inf koc) (fun e he => h.own e (mR (mL he))) (by decide) (own_cap koc); rw [norm_ex] at h9; exact h9)) (fun _ _ => List.nil_sublist _) ?_
 rintro on kon
 refine Ap [10] [] (some [6]) (tF 11 0) (.cons _ (List.nil_sublist _)) 0 n0 trivial ?_
 refine CfgA.done kr ?_
 refine Cfg.ret rfl (rs := [.tmp 6]) rfl [.slice (Own.a on) 4 (Own.c on)] ⟨kr,trivial⟩ (fun w1 hp => ?_)
 exact ⟨on,kon,rfl,fun x hx => hp.own x (mR (mL hx)),fun x hx => (hp.mine x (mR (mL hx))).resolve_right (fun h => by cases h),hp.ext⟩
set_option maxRecDepth 100000 in
set_option maxHeartbeats 4000000 in
theorem eSame8 (la lb : Option Addr) (ca cb : Nat) (xs : List Nat) (Rl : List (Nat × Obj)) (w : World) (hI : InF u32c 1 Rl la xs) (hJ : InF u32c 1 Rl lb xs) (hR : Has w Rl) (hn : xs.length ≤ 1000) :
  Calls Tryz.prog 133 #[.slice la xs.length ca,.slice lb xs.length cb] w fun e w' => e = .returned (.bool true) ∧ Ext [] w w' := by
 refine enter [] Rl [] Tryz.func133 rfl kr (HP.ofHas hR) ?_
 refine Rq [0,1] ?_
 refine Rq [0,1,10] ?_
 refine Cfg.condF rfl (b := ((xs.length : Int) != (xs.length : Int))) kr (by simp) ?_
 refine Rq [0,1,12,13] ?_
 refine Cfg.loop rfl (ι := Nat) (fun (i : Nat) => [(13,[],iN i),(12,[],iN xs.length),(0,[],.slice la xs.length ca),(1,[],.slice lb xs.length cb)]) (fun (i : Nat) => []) (fun (i : Nat) => (i ≤ xs.length)) (fun (i : Nat) => xs.length - i) 0 ?_ (Conv.mk kr) .slnil ?_
 ·exact Nat.zero_le _
 ·rintro i hi
  refine Rq [0,1,12,13,14] ?_
  refine Cfg.cond rfl (b := (decide ((i : Int) < (xs.length : Int)))) kr (fun c2r => ?_) (fun c2r => ?_)
  ·have c2 := (dT c2r)
   refine Rq [0,1,5,12,13] ?_
   obtain ⟨su1,offu1,csu1,teu1,freu1,hvu1,hmu1,hcu1⟩ := hI om
   refine Cg (Γ' := [(5,[],iN i),(13,[],iN i),(12,[],iN xs.length),(0,[],.slice la xs.length ca),(1,[],.slice lb xs.length cb)]) ?_
   refine Cfg.setG (Γ' := [(5,[],iN i),(13,[],iN i),(12,[],iN xs.length),(0,[],.slice (some ⟨su1,offu1,none⟩) xs.length ca),(1,[],.slice lb xs.length cb)]) (congrArg (fun (xq : Option Addr) => ([(5,[],iN i),(13,[],iN i),(12,[],iN xs.length),(0,[],.slice xq xs.length ca),(1,[],.slice lb xs.length cb)] : Env)) hvu1) ?_
   obtain ⟨sv2,offv2,csv2,tev2,frev2,hvv2,hmv2,hcv2⟩ := hJ om
   refine Cg (Γ' := [(5,[],iN i),(13,[],iN i),(12,[],iN xs.length),(0,[],.slice (some ⟨su1,offu1,none⟩) xs.length ca),(1,[],.slice lb xs.length cb)]) ?_
   refine Cfg.setG (Γ' := [(5,[],iN i),(13,[],iN i),(12,[],iN xs.length),(0,[],.slice (some ⟨su1,offu1,none⟩) xs.length ca),(1,[],.slice (some ⟨sv2,offv2,none⟩) xs.length cb)]) (congrArg (fun (xq : Option Addr) => ([(5,[],iN i),(13,[],iN i),(12,[],iN xs.length),(0,[],.slice (some ⟨su1,offu1,none⟩) xs.length ca),(1,[],.slice xq xs.length cb)] : Env)) hvv2) ?_
   refine Cfg.regD rfl kr [0,1,12,13,24] [dZ,dZ,dZ,(dS (uN (xs.getD i 0))),dZ,dZ,dZ,(dS (uN (xs.getD i 0)))] (Γ' := [(24,[],.bool (((xs.getD i 0) : Int) != ((xs.getD i 0) : Int))),(13,[],iN i),(12,[],iN xs.length),(0,[],.slice (some ⟨su1,offu1,none⟩) xs.length ca),(1,[],.slice (some ⟨sv2,offv2,none⟩) xs.length cb)]) (nd := (fun S => [(0 ≤ (i : Int) ∧ (i : Int) < (xs.length : Int)),(cE S su1 (addO offu1 i) (uN (xs.getD i 0))),(0 ≤ (i : Int) ∧ (i : Int) < (xs.length : Int)),(cE S sv2 (addO offv2 i) (uN (xs.getD i 0)))])) kr kr (fun _ => kr) ⟨om,(fun w1 h => by rw [addO_eq]; exact (cell_cells (h.ro _ hmu1)).trans (fl_one (g := fun n : Nat => uN n) 0 hcu1 om)),om,(fun w1 h => by rw [addO_eq]; exact (cell_cells (h.ro _ hmv2)).trans (fl_one (g := fun n : Nat => uN n) 0 hcv2 om)),trivial⟩ ?_
   refine Cfg.condF rfl (b := (((xs.getD i 0) : Int) != ((xs.getD i 0) : Int))) kr (by simp) ?_
   refine Rg [0,1,12,13] [] (fun _ => [(i6 ((i : Int) + 1))]) ⟨om,trivial⟩ ?_
   refine Cfg.setS 0 (show .slice (some ⟨su1,offu1,none⟩) xs.length ca = .slice la xs.length ca from congrArg (fun z => Value.slice z xs.length ca) hvu1.symm) ?_
   refine Cfg.setS 1 (show .slice (some ⟨sv2,offv2,none⟩) xs.length cb = .slice lb xs.length cb from congrArg (fun z => Value.slice z xs.length cb) hvv2.symm) ?_
   refine Cfg.again rfl (i + 1) (show i + 1 ≤ xs.length by omega) om (Conv.mk kr) .slnil
  ·have c2 := (dF c2r)
   refine Rq [4] ?_
   refine Cfg.ret rfl (rs := [.tmp 4]) rfl [.bool true] ⟨kr,trivial⟩ (fun w1 hp => ?_)
   exact ⟨rfl,hp.ext⟩
set_option maxRecDepth 100000 in
set_option maxHeartbeats 4000000 in
theorem awake8 (w : World) :
  Calls Tryz.prog 110 #[] w fun e w' => e = .returned (.bool true) ∧ Ext [] w w' := by
 refine enter [] [] [] Tryz.func110 rfl kr (HP.start w) ?_
 refine Rq [] ?_
 refine Cfg.begL rfl ?_
 refine Le (Eff.buildSlice (e := 73) (cells := #[.int .u32 2,.int .u32 5,.int .u32 7]) (parts := #[(0,.int .u32 2),(1,.int .u32 5),(2,.int .u32 7)]) rfl kr (fun _ => kr)) ?_
 rintro lb ⟨hlb,nlb⟩
 refine Le (Eff.buildSlice (e := 73) (cells := #[.int .u32 9]) (parts := #[(0,.int .u32 9)]) rfl kr (fun _ => kr)) ?_
 rintro sb ⟨hsb,nsb⟩
 refine Le (Eff.callOF 73 1 4 (([2,5,9,7] : List Nat).flatMap u32c) [(sb,.cells #[.int .u32 9] 73 (0,0)),(lb,.cells #[.int .u32 2,.int .u32 5,.int .u32 7] 73 (0,0))] [] (by rfl) rfl Tryz.func134 rfl rfl kr (fun w1 h => eIns lb sb w1 (fun e he => by simp only [List.mem_cons,List.not_mem_nil,or_false] at he; rcases he with rfl | rfl; exact h.own (lb,_) (mG 1 rfl); exact h.own (sb,_) (mG 0 rfl)))) ?_
 rintro on kon
 refine Le (Eff.buildSlice (e := 73) (cells := #[.int .u32 2,.int .u32 5,.int .u32 9,.int .u32 7]) (parts := #[(0,.int .u32 2),(1,.int .u32 5),(2,.int .u32 9),(3,.int .u32 7)]) rfl kr (fun _ => kr)) ?_
 rintro qb ⟨hqb,nqb⟩
 refine Lu (Eff.callA (.bool true) rfl Tryz.func133 rfl rfl kr (fun w1 h => eSame8 (Own.a on) (some ⟨qb,0,none⟩) (Own.c on) 4 [2,5,9,7] ((qb,Obj.cells (nv [2,5,9,7]).toArray 73 (0,0)) :: Own.o 73 (([2,5,9,7] : List Nat).flatMap u32c) on) w1 ((own_inf kon).mono (fun e he => List.mem_cons_of_mem _ he)) (lit_inf.mono (fun e he => by rw [List.mem_singleton.1 he]; exact mH)) (fun e he => h.own e (show e ∈ ([(qb,Obj.cells #[.int .u32 2,.int .u32 5,.int .u32 9,.int .u32 7] 73 (0,0)),(sb,Obj.cells #[.int .u32 9] 73 (0,0)),(lb,Obj.cells #[.int .u32 2,.int .u32 5,.int .u32 7] 73 (0,0))] ++ (Own.o 73 (([2,5,9,7] : List Nat).flatMap u32c) on ++ [])) from (List.mem_cons.1 he).elim (fun he => by rw [he]; exact mL (mG 0 rfl)) (fun he => mR (mL he)))) (by decide))) ?_
 refine Lq 1 [6] ?_
 refine Lu (Eff.callA (.int .u32 6) rfl Tryz.func80 rfl rfl kr (fun w1 _ => dOf 3 0 w1 (by decide) (by decide))) ?_
 refine Lu (Eff.callA (.int .u32 7) rfl Tryz.func79 rfl rfl kr (fun w1 _ => dTwin 6 w1 (by decide))) ?_
 refine Lp 3 [(1,false,none)] (some [0]) (fun _ => [((.bool true : Value) = .bool true)]) ⟨rfl,trivial⟩ ?_
 refine CfgL.done rfl ?_
 refine Cfg.ret rfl (rs := [.tmp 0]) rfl [.bool true] ⟨kr,trivial⟩ (fun w1 hp => ?_)
 exact ⟨rfl,hp.ext⟩
set_option maxRecDepth 100000 in
theorem awake8A (w : World) :
  Calls Tryz.prog 96 #[] w fun e w' => e = .returned (.bool true) ∧ Ext [] w w' := by
 refine enter [] [] [] Tryz.func96 rfl kr (HP.start w) ?_
 refine Rq [] ?_
 refine Cfg.begL rfl ?_
 refine Lu (Eff.callA (.bool true) rfl Tryz.func110 rfl rfl kr (fun w1 h => awake8 w1)) ?_
 refine Ld 1 [0] ?_
 refine Cfg.ret rfl (rs := [.tmp 0]) rfl [.bool true] ⟨kr,trivial⟩ (fun w1 hp => ?_)
 exact ⟨rfl,hp.ext⟩
end Go.Proofs.YtbeeelgfhfmgbaaGreatDoor
namespace Go.Proofs.YtbeeelgfhfmgbaaGreatDoor
open K
set_option linter.unusedVariables false
def RisL (xs : List Nat) : Prop := ∀ i,i + 1 < xs.length → xs.getD i 0 < xs.getD (i + 1) 0
theorem RisL.at {xs : List Nat} (h : RisL xs) {i : Nat} (h1 : 1 ≤ i) (h2 : i < xs.length) : xs.getD (i - 1) 0 < xs.getD i 0 := by
 have := h (i - 1) om
 rw [show i - 1 + 1 = i by omega] at this; exact this
theorem RisL.atI {xs : List Nat} (h : RisL xs) {i : Nat} (h1 : 1 ≤ i) (h2 : i < xs.length) : xs.getD ((i : Int) - 1).toNat 0 < xs.getD i 0 := by
 rw [show ((i : Int) - 1).toNat = i - 1 by omega]; exact h.at h1 h2
theorem ris123 : RisL [1,2,3] := fun i hi => by
 have hi : i + 1 < 3 := hi
 rcases (show i = 0 ∨ i = 1 by omega) with rfl | rfl <;> decide
def g9 (o1 o2 : K.Own) : MM := ⟨Own.a o1,Own.c o1,[1,2,3],Own.a o2,Own.c o2,[(1,1,2)],none,0,[]⟩
theorem g9_in {o1 o2 : K.Own} (h1 : OwnOk o1 1 3 (([1,2,3] : List Nat).flatMap u32c)) (h2 : OwnOk o2 3 1 (([(1,1,2)] : List Ed).flatMap edc)) : InM (Own.o 73 (([1,2,3] : List Nat).flatMap u32c) o1 ++ Own.o 76 (([(1,1,2)] : List Ed).flatMap edc) o2) (g9 o1 o2) :=
 ⟨(own_inf h1).mono (fun e he => mL he),(own_inf h2).mono (fun e he => mR he),(fun h => absurd h (Nat.lt_irrefl 0)),(fun x hx => by cases hx),by show 3 ≤ _ ∧ 1 ≤ _ ∧ 0 ≤ _; decide⟩
theorem g9_chk : graphF [1,2,3] [(1,1,2)] = 0 := by decide
theorem g9_alone : aloneF [1,2,3] [(1,1,2)] = 1 := by decide
theorem g9_bfs1 : bfs [(1,1,2)] [1,2,3] 0 [1] [1] = ([1,2],[1,2]) := by
 rw [bfs,if_pos (by decide),if_pos (by decide)]
 show bfs _ _ 1 [1,2] [1,2] = _
 rw [bfs,if_pos (by decide),if_pos (by decide)]
 show bfs _ _ 2 [1,2] [1,2] = _
 rw [bfs,if_neg (by decide)]
theorem g9_parts : partsF [1,2,3] [(1,1,2)] = 2 := by
 unfold partsF
 rw [partsL,if_neg (by decide)]
 show partsL _ _ [2,3] (bfs [(1,1,2)] [1,2,3] 0 [1] [1]).2 1 = 2
 rw [g9_bfs1,partsL,if_pos (by decide),partsL,if_neg (by decide)]
 show partsL _ _ [] (bfs [(1,1,2)] [1,2,3] 0 [3] [1,2,3]).2 2 = 2
 rw [partsL]
set_option maxRecDepth 100000 in
theorem eCmp (a b : Nat) (w : World) (hab : b < a) :
  Calls Tryz.prog 126 #[.int .u32 (a : Int),.int .u32 (b : Int)] w fun e w' => e = .returned (.int .i64 1) ∧ Ext [] w w' := by
 refine enter [] [] [] Tryz.func126 rfl kr (HP.start w) ?_
 refine Rq [0,1] ?_
 refine Cfg.begL rfl ?_
 refine Lp 1 [] none n0 trivial ?_
 refine Lu (Eff.callA (.bool false) rfl Tryz.func140 rfl rfl kr (fun w1 _ => cNaN a w1)) ?_
 refine Ld 1 [0,1,5] ?_
 refine Cfg.begL rfl ?_
 refine Lp 1 [] none n0 trivial ?_
 refine Lu (Eff.callA (.bool false) rfl Tryz.func140 rfl rfl kr (fun w1 _ => cNaN b w1)) ?_
 refine Ld 1 [0,1,5,6] ?_
 refine Rq [0,1,6,11] ?_
 refine Cfg.condF rfl (b := false) kr rfl ?_
 refine Rq [0,1,13] ?_
 refine Cfg.condF rfl (b := false) kr rfl ?_
 refine Cfg.reg rfl [0,1,16] [] (Γ' := [(16,[],.bool (decide ((a : Int) < (b : Int)))),(0,[],uN a),(1,[],uN b)]) (nd := (fun _ => [])) (fun _ => kr) trivial ?_
 refine Cfg.condF rfl (b := (decide ((a : Int) < (b : Int)))) kr (decide_eq_false om) ?_
 refine Rq [19] ?_
 refine Cfg.condT rfl (b := (decide ((a : Int) > (b : Int)))) kr (decide_eq_true om) ?_
 refine Rq [4] ?_
 refine Cfg.ret rfl (rs := [.tmp 4]) rfl [.int .i64 1] ⟨kr,trivial⟩ (fun w1 hp => ?_)
 exact ⟨rfl,hp.ext⟩
set_option maxRecDepth 100000 in
theorem eMk1 (a : Nat) (w : World) :
  Calls Tryz.prog 107 #[.int .u32 (a : Int)] w fun e w' => e = .returned (.int .u32 (a : Int)) ∧ Ext [] w w' := by
 refine enter [] [] [] Tryz.func107 rfl kr (HP.start w) ?_
 refine Rq [0] ?_
 refine Rq [2] ?_
 refine Cfg.ret rfl (rs := [.tmp 2]) rfl [uN a] ⟨kr,trivial⟩ (fun w1 hp => ?_)
 exact ⟨rfl,hp.ext⟩
set_option maxRecDepth 100000 in
set_option maxHeartbeats 4000000 in
theorem eCl1 (a b tb : Nat) (w : World) (hR : Has w [(tb,Obj.cells #[.func (.func 107) #[] #[]] 131 (0,0))]) (hab : b < a) :
  Calls Tryz.prog 125 #[.int .u32 (a : Int),.int .u32 (b : Int),.pointer (some ⟨tb,0,none⟩)] w fun e w' => e = .returned (.int .i64 1) ∧ Ext [] w w' := by
 refine enter [] [(tb,Obj.cells #[.func (.func 107) #[] #[]] 131 (0,0))] [] Tryz.func125 rfl kr (HP.ofHas hR) ?_
 refine Rq [0,1,2] ?_
 refine Cfg.begA rfl kr [] ?_
 refine Ap [1,4] [] (some [2,7,10]) (bF 18 8) .slnil 6 n0 trivial ?_
 refine CfgA.two 0 3 kr (fuel' := 5) rfl ?_ ?_
 ·
  refine Iu rfl  (Eff.quiet (raw := false) (orc := some (.func (.func 107) #[] #[])) (v := .func (.func 107) #[] #[]) (nd := (fun S => [(cE S tb 0 (.func (.func 107) #[] #[]))])) (fun _ => kr) ⟨(rC 0 rfl rfl),trivial⟩ kr) (fun _ _ => List.nil_sublist _) ?_
  refine CfgA.two 2 3 kr (fuel' := 4) rfl ?_ ?_
  ·
   refine Iu rfl  (Eff.callAV (uN a) rfl kr Tryz.func107 rfl rfl kr (fun w1 h => eMk1 a w1)) (fun _ _ => List.nil_sublist _) ?_
   refine Au 3 rfl 3  (Eff.quiet (raw := false) (orc := some (.func (.func 107) #[] #[])) (v := .func (.func 107) #[] #[]) (nd := (fun S => [(cE S tb 0 (.func (.func 107) #[] #[]))])) (fun _ => kr) ⟨(rC 0 rfl rfl),trivial⟩ kr) (fun _ _ => List.nil_sublist _) ?_
   refine Au 5 rfl 2  (Eff.callAV (uN b) rfl kr Tryz.func107 rfl rfl kr (fun w1 h => eMk1 b w1)) (fun _ _ => List.nil_sublist _) ?_
   refine Au 6 rfl 1  (Eff.callA (.int .i64 1) rfl Tryz.func126 rfl rfl kr (fun w1 _ => eCmp a b w1 hab)) (fun _ _ => List.nil_sublist _) ?_
   refine Ap [7] [] (some [5]) (tF 8 0) .slnil 0 n0 trivial ?_
   refine CfgA.done kr ?_
   refine Cfg.ret rfl (rs := [.tmp 5]) rfl [.int .i64 1] ⟨kr,trivial⟩ (fun w1 hp => ?_)
   exact ⟨rfl,hp.ext⟩
  ·
   refine Iu rfl  (Eff.quiet (raw := false) (orc := some (.func (.func 107) #[] #[])) (v := .func (.func 107) #[] #[]) (nd := (fun S => [(cE S tb 0 (.func (.func 107) #[] #[]))])) (fun _ => kr) ⟨(rC 0 rfl rfl),trivial⟩ kr) (fun _ _ => List.nil_sublist _) ?_
   refine Au 2 rfl 3  (Eff.callAV (uN a) rfl kr Tryz.func107 rfl rfl kr (fun w1 h => eMk1 a w1)) (fun _ _ => List.nil_sublist _) ?_
   refine Au 5 rfl 2  (Eff.callAV (uN b) rfl kr Tryz.func107 rfl rfl kr (fun w1 h => eMk1 b w1)) (fun _ _ => List.nil_sublist _) ?_
   refine Au 6 rfl 1  (Eff.callA (.int .i64 1) rfl Tryz.func126 rfl rfl kr (fun w1 _ => eCmp a b w1 hab)) (fun _ _ => List.nil_sublist _) ?_
   refine Ap [7] [] (some [5]) (tF 8 0) .slnil 0 n0 trivial ?_
   refine CfgA.done kr ?_
   refine Cfg.ret rfl (rs := [.tmp 5]) rfl [.int .i64 1] ⟨kr,trivial⟩ (fun w1 hp => ?_)
   exact ⟨rfl,hp.ext⟩
 ·
  refine Iu rfl  (Eff.quiet (raw := false) (orc := some (.func (.func 107) #[] #[])) (v := .func (.func 107) #[] #[]) (nd := (fun S => [(cE S tb 0 (.func (.func 107) #[] #[]))])) (fun _ => kr) ⟨(rC 0 rfl rfl),trivial⟩ kr) (fun _ _ => List.nil_sublist _) ?_
  refine Au 0 rfl 4  (Eff.quiet (raw := false) (orc := some (.func (.func 107) #[] #[])) (v := .func (.func 107) #[] #[]) (nd := (fun S => [(cE S tb 0 (.func (.func 107) #[] #[]))])) (fun _ => kr) ⟨(rC 0 rfl rfl),trivial⟩ kr) (fun _ _ => List.nil_sublist _) ?_
  refine Au 2 rfl 3  (Eff.callAV (uN a) rfl kr Tryz.func107 rfl rfl kr (fun w1 h => eMk1 a w1)) (fun _ _ => List.nil_sublist _) ?_
  refine Au 5 rfl 2  (Eff.callAV (uN b) rfl kr Tryz.func107 rfl rfl kr (fun w1 h => eMk1 b w1)) (fun _ _ => List.nil_sublist _) ?_
  refine Au 6 rfl 1  (Eff.callA (.int .i64 1) rfl Tryz.func126 rfl rfl kr (fun w1 _ => eCmp a b w1 hab)) (fun _ _ => List.nil_sublist _) ?_
  refine Ap [7] [] (some [5]) (tF 8 0) .slnil 0 n0 trivial ?_
  refine CfgA.done kr ?_
  refine Cfg.ret rfl (rs := [.tmp 5]) rfl [.int .i64 1] ⟨kr,trivial⟩ (fun w1 hp => ?_)
  exact ⟨rfl,hp.ext⟩
set_option maxRecDepth 100000 in
set_option maxHeartbeats 4000000 in
theorem eCl2 (a b tb : Nat) (w : World) (hR : Has w [(tb,Obj.cells #[.func (.func 107) #[] #[]] 131 (0,0))]) (hab : b < a) :
  Calls Tryz.prog 128 #[.int .u32 (a : Int),.int .u32 (b : Int),.pointer (some ⟨tb,0,none⟩)] w fun e w' => e = .returned (.bool false) ∧ Ext [] w w' := by
 refine enter [] [(tb,Obj.cells #[.func (.func 107) #[] #[]] 131 (0,0))] [] Tryz.func128 rfl kr (HP.ofHas hR) ?_
 refine Rq [0,1,2] ?_
 refine Cfg.begA rfl kr [] ?_
 refine Ap [1,4] [] (some [2,7,10]) (bF 18 8) .slnil 6 n0 trivial ?_
 refine CfgA.two 0 3 kr (fuel' := 5) rfl ?_ ?_
 ·
  refine Iu rfl  (Eff.quiet (raw := false) (orc := some (.func (.func 107) #[] #[])) (v := .func (.func 107) #[] #[]) (nd := (fun S => [(cE S tb 0 (.func (.func 107) #[] #[]))])) (fun _ => kr) ⟨(rC 0 rfl rfl),trivial⟩ kr) (fun _ _ => List.nil_sublist _) ?_
  refine CfgA.two 2 3 kr (fuel' := 4) rfl ?_ ?_
  ·
   refine Iu rfl  (Eff.callAV (uN a) rfl kr Tryz.func107 rfl rfl kr (fun w1 h => eMk1 a w1)) (fun _ _ => List.nil_sublist _) ?_
   refine Au 3 rfl 3  (Eff.quiet (raw := false) (orc := some (.func (.func 107) #[] #[])) (v := .func (.func 107) #[] #[]) (nd := (fun S => [(cE S tb 0 (.func (.func 107) #[] #[]))])) (fun _ => kr) ⟨(rC 0 rfl rfl),trivial⟩ kr) (fun _ _ => List.nil_sublist _) ?_
   refine Au 5 rfl 2  (Eff.callAV (uN b) rfl kr Tryz.func107 rfl rfl kr (fun w1 h => eMk1 b w1)) (fun _ _ => List.nil_sublist _) ?_
   refine Ap [6,7] [] (some [5]) (tF 8 0) .slnil 0 n0 trivial ?_
   refine CfgA.done kr ?_
   refine Cfg.ret rfl (rs := [.tmp 5]) rfl [.bool ((a : Int) == (b : Int))] ⟨kr,trivial⟩ (fun w1 hp => ?_)
   have hne : ((a : Int) == (b : Int)) = false := by rw [beq_eq_false_iff_ne]; omega
   exact ⟨by rw [← hne]; rfl,hp.ext⟩
  ·
   refine Iu rfl  (Eff.quiet (raw := false) (orc := some (.func (.func 107) #[] #[])) (v := .func (.func 107) #[] #[]) (nd := (fun S => [(cE S tb 0 (.func (.func 107) #[] #[]))])) (fun _ => kr) ⟨(rC 0 rfl rfl),trivial⟩ kr) (fun _ _ => List.nil_sublist _) ?_
   refine Au 2 rfl 3  (Eff.callAV (uN a) rfl kr Tryz.func107 rfl rfl kr (fun w1 h => eMk1 a w1)) (fun _ _ => List.nil_sublist _) ?_
   refine Au 5 rfl 2  (Eff.callAV (uN b) rfl kr Tryz.func107 rfl rfl kr (fun w1 h => eMk1 b w1)) (fun _ _ => List.nil_sublist _) ?_
   refine Ap [6,7] [] (some [5]) (tF 8 0) .slnil 0 n0 trivial ?_
   refine CfgA.done kr ?_
   refine Cfg.ret rfl (rs := [.tmp 5]) rfl [.bool ((a : Int) == (b : Int))] ⟨kr,trivial⟩ (fun w1 hp => ?_)
   have hne : ((a : Int) == (b : Int)) = false := by rw [beq_eq_false_iff_ne]; omega
   exact ⟨by rw [← hne]; rfl,hp.ext⟩
 ·
  refine Iu rfl  (Eff.quiet (raw := false) (orc := some (.func (.func 107) #[] #[])) (v := .func (.func 107) #[] #[]) (nd := (fun S => [(cE S tb 0 (.func (.func 107) #[] #[]))])) (fun _ => kr) ⟨(rC 0 rfl rfl),trivial⟩ kr) (fun _ _ => List.nil_sublist _) ?_
  refine Au 0 rfl 4  (Eff.quiet (raw := false) (orc := some (.func (.func 107) #[] #[])) (v := .func (.func 107) #[] #[]) (nd := (fun S => [(cE S tb 0 (.func (.func 107) #[] #[]))])) (fun _ => kr) ⟨(rC 0 rfl rfl),trivial⟩ kr) (fun _ _ => List.nil_sublist _) ?_
  refine Au 2 rfl 3  (Eff.callAV (uN a) rfl kr Tryz.func107 rfl rfl kr (fun w1 h => eMk1 a w1)) (fun _ _ => List.nil_sublist _) ?_
  refine Au 5 rfl 2  (Eff.callAV (uN b) rfl kr Tryz.func107 rfl rfl kr (fun w1 h => eMk1 b w1)) (fun _ _ => List.nil_sublist _) ?_
  refine Ap [6,7] [] (some [5]) (tF 8 0) .slnil 0 n0 trivial ?_
  refine CfgA.done kr ?_
  refine Cfg.ret rfl (rs := [.tmp 5]) rfl [.bool ((a : Int) == (b : Int))] ⟨kr,trivial⟩ (fun w1 hp => ?_)
  have hne : ((a : Int) == (b : Int)) = false := by rw [beq_eq_false_iff_ne]; omega
  exact ⟨by rw [← hne]; rfl,hp.ext⟩
set_option maxRecDepth 100000 in
set_option maxHeartbeats 4000000 in
theorem eInsS (la : Option Addr) (c : Nat) (xs : List Nat) (tb : Nat) (Rl : List (Nat × Obj)) (w : World) (hI : InF u32c 1 Rl la xs) (hR : Has w Rl) (htb : (tb,Obj.cells #[.func (.func 107) #[] #[]] 131 (0,0)) ∈ Rl) (hs : RisL xs) (hn : xs.length ≤ 19) :
  Calls Tryz.prog 144 #[.slice la xs.length c,.int .i64 0,.int .i64 (xs.length : Int),.func (.func 125) #[] #[.pointer (some ⟨tb,0,none⟩)]] w fun e w' => e = .returned (.tuple #[]) ∧ Ext [] w w' := by
 refine enter [] Rl [] Tryz.func144 rfl kr (HP.ofHas hR) ?_
 refine Rg [0,1,2,3,8] [] (fun _ => [(i6 (1 : Int))]) ⟨om,trivial⟩ ?_
 refine Cfg.loop rfl (ι := Nat) (fun (i : Nat) => [(8,[],iN i),(0,[],.slice la xs.length c),(1,[],.int .i64 0),(2,[],iN xs.length),(3,[],.func (.func 125) #[] #[pT tb])]) (fun (i : Nat) => []) (fun (i : Nat) => (1 ≤ i)) (fun (i : Nat) => xs.length - i) 1 ?_ (Conv.mk kr) .slnil ?_
 ·exact Nat.le_refl _
 ·rintro i hi
  refine Rq [0,1,2,3,8,14] ?_
  refine Cfg.cond rfl (b := (decide ((i : Int) < (xs.length : Int)))) kr (fun c1r => ?_) (fun c1r => ?_)
  ·have c1 := (dT c1r)
   refine Rq [0,1,2,3,8,9] ?_
   refine Cfg.loop rfl (ι := Unit) (fun (xz : Unit) => match xz with | () => [(9,[],iN i),(8,[],iN i),(0,[],.slice la xs.length c),(1,[],.int .i64 0),(2,[],iN xs.length),(3,[],.func (.func 125) #[] #[pT tb])]) (fun (xz : Unit) => match xz with | () => []) (fun (xz : Unit) => match xz with | () => True) (fun (xz : Unit) => match xz with | () => 0) () ?_ (Conv.mk kr) .slnil ?_
   ·exact trivial
   ·rintro ⟨⟩ -
    obtain ⟨su1,offu1,csu1,teu1,freu1,hvu1,hmu1,hcu1⟩ := hI om
    refine Cg (Γ' := [(9,[],iN i),(8,[],iN i),(0,[],.slice la xs.length c),(1,[],.int .i64 0),(2,[],iN xs.length),(3,[],.func (.func 125) #[] #[pT tb])]) ?_
    refine Cfg.setG (Γ' := [(9,[],iN i),(8,[],iN i),(0,[],.slice (some ⟨su1,offu1,none⟩) xs.length c),(1,[],.int .i64 0),(2,[],iN xs.length),(3,[],.func (.func 125) #[] #[pT tb])]) (congrArg (fun (xq : Option Addr) => ([(9,[],iN i),(8,[],iN i),(0,[],.slice xq xs.length c),(1,[],.int .i64 0),(2,[],iN xs.length),(3,[],.func (.func 125) #[] #[pT tb])] : Env)) hvu1) ?_
    refine Cfg.begA rfl kr [] ?_
    refine Ap [0,1,2,3] [] (some [0,1,2,3,8,9,21]) (tF 4 13) .slnil 13 n0 trivial ?_
    refine CfgA.known 21 (b := (decide ((i : Int) > (0 : Int)))) kr true (decide_eq_true om) ?_
    refine Ap [4,5,6,7,9,10,11,12] [(1,false,none),(1,false,none),(1,false,none),(1,false,none),(1,false,none),(1,false,none),(1,false,none),(1,false,none)] (some [0,1,2,3,8,9,21,22,25,30]) (bF 7935 17) .slnil 5 (fun _ => [((.bool true : Value) = .bool true),((.bool true : Value) = .bool true),((.bool true : Value) = .bool true),((.bool true : Value) = .bool true),(0 ≤ (i : Int) ∧ (i : Int) < (xs.length : Int)),((.bool true : Value) = .bool true),((.bool true : Value) = .bool true),((.bool true : Value) = .bool true),(i6 ((i : Int) - 1)),((.bool true : Value) = .bool true),(0 ≤ ((i : Int) - 1) ∧ ((i : Int) - 1) < (xs.length : Int))]) ⟨rfl,rfl,rfl,rfl,om,rfl,rfl,rfl,om,rfl,om,trivial⟩ ?_
    refine CfgA.two 8 13 kr (fuel' := 4) rfl ?_ ?_
    ·
     refine Iu rfl  (Eff.quiet (raw := false) (orc := some (uN (xs.getD i 0))) (v := uN (xs.getD i 0)) (nd := (fun S => [(cE S su1 (addO offu1 i) (uN (xs.getD i 0)))])) (fun _ => kr) ⟨(fun w1 h => by rw [addO_eq]; exact (cell_cells (h.ro _ hmu1)).trans (fl_one (g := fun n : Nat => uN n) 0 hcu1 om)),trivial⟩ kr) (fun _ _ => List.nil_sublist _) ?_
     refine Au 13 rfl 3  (Eff.quiet (raw := false) (orc := some (uN ((xs.getD ((((i : Int) - 1)).toNat) 0)))) (v := uN ((xs.getD ((((i : Int) - 1)).toNat) 0))) (nd := (fun S => [(cE S su1 (addO offu1 (((i : Int) - 1)).toNat) (uN ((xs.getD ((((i : Int) - 1)).toNat) 0))))])) (fun _ => kr) ⟨(fun w1 h => by rw [addO_eq]; exact (cell_cells (h.ro _ hmu1)).trans (fl_one (g := fun n : Nat => uN n) 0 hcu1 om)),trivial⟩ kr) (fun _ _ => List.nil_sublist _) ?_
     refine Ae 14 rfl 2  (Eff.callAVC (vs := [uN (xs.getD i 0),uN ((xs.getD ((((i : Int) - 1)).toNat) 0))]) (.int .i64 1) [pT tb] rfl kr Tryz.func125 rfl rfl kr (fun w1 h => eCl1 (((xs.getD i 0))) (((xs.getD ((((i : Int) - 1)).toNat) 0))) tb w1 (fun e he => by rw [List.mem_singleton.1 he]; exact h.ro _ htb) (hs.atI om om))) (fun _ _ => List.nil_sublist _) ?_
     rintro ⟨⟩ -
     refine Ap [15,16] [(1,false,none)] (some [0,1,2,3,8,9,34]) (tF 17 0) .slnil 0 (fun _ => [((.bool true : Value) = .bool true)]) ⟨rfl,trivial⟩ ?_
     refine CfgA.done kr ?_
     refine Cfg.condF rfl (b := false) kr rfl ?_
     refine Rg [0,1,2,3,8] [] (fun _ => [(i6 ((i : Int) + 1))]) ⟨om,trivial⟩ ?_
     refine Cfg.setS 0 (show .slice (some ⟨su1,offu1,none⟩) xs.length c = .slice la xs.length c from congrArg (fun z => Value.slice z xs.length c) hvu1.symm) ?_
     refine Cfg.again rfl (i + 1) (show 1 ≤ i + 1 by omega) (by show xs.length - (i + 1) < xs.length - i; omega) (Conv.mk kr) .slnil
    ·
     refine Iu rfl  (Eff.quiet (raw := false) (orc := some (uN ((xs.getD ((((i : Int) - 1)).toNat) 0)))) (v := uN ((xs.getD ((((i : Int) - 1)).toNat) 0))) (nd := (fun S => [(cE S su1 (addO offu1 (((i : Int) - 1)).toNat) (uN ((xs.getD ((((i : Int) - 1)).toNat) 0))))])) (fun _ => kr) ⟨(fun w1 h => by rw [addO_eq]; exact (cell_cells (h.ro _ hmu1)).trans (fl_one (g := fun n : Nat => uN n) 0 hcu1 om)),trivial⟩ kr) (fun _ _ => List.nil_sublist _) ?_
     refine Au 8 rfl 3  (Eff.quiet (raw := false) (orc := some (uN (xs.getD i 0))) (v := uN (xs.getD i 0)) (nd := (fun S => [(cE S su1 (addO offu1 i) (uN (xs.getD i 0)))])) (fun _ => kr) ⟨(fun w1 h => by rw [addO_eq]; exact (cell_cells (h.ro _ hmu1)).trans (fl_one (g := fun n : Nat => uN n) 0 hcu1 om)),trivial⟩ kr) (fun _ _ => List.nil_sublist _) ?_
     refine Ae 14 rfl 2  (Eff.callAVC (vs := [uN (xs.getD i 0),uN ((xs.getD ((((i : Int) - 1)).toNat) 0))]) (.int .i64 1) [pT tb] rfl kr Tryz.func125 rfl rfl kr (fun w1 h => eCl1 (((xs.getD i 0))) (((xs.getD ((((i : Int) - 1)).toNat) 0))) tb w1 (fun e he => by rw [List.mem_singleton.1 he]; exact h.ro _ htb) (hs.atI om om))) (fun _ _ => List.nil_sublist _) ?_
     rintro ⟨⟩ -
     refine Ap [15,16] [(1,false,none)] (some [0,1,2,3,8,9,34]) (tF 17 0) .slnil 0 (fun _ => [((.bool true : Value) = .bool true)]) ⟨rfl,trivial⟩ ?_
     refine CfgA.done kr ?_
     refine Cfg.condF rfl (b := false) kr rfl ?_
     refine Rg [0,1,2,3,8] [] (fun _ => [(i6 ((i : Int) + 1))]) ⟨om,trivial⟩ ?_
     refine Cfg.setS 0 (show .slice (some ⟨su1,offu1,none⟩) xs.length c = .slice la xs.length c from congrArg (fun z => Value.slice z xs.length c) hvu1.symm) ?_
     refine Cfg.again rfl (i + 1) (show 1 ≤ i + 1 by omega) (by show xs.length - (i + 1) < xs.length - i; omega) (Conv.mk kr) .slnil
  ·have c1 := (dF c1r)
   refine Cfg.fin rfl (rs := []) rfl [] trivial (fun w1 hp => ?_)
   exact ⟨rfl,hp.ext⟩
set_option maxRecDepth 100000 in
set_option maxHeartbeats 4000000 in
theorem eStb (la : Option Addr) (c : Nat) (xs : List Nat) (tb : Nat) (Rl : List (Nat × Obj)) (w : World) (hI : InF u32c 1 Rl la xs) (hR : Has w Rl) (htb : (tb,Obj.cells #[.func (.func 107) #[] #[]] 131 (0,0)) ∈ Rl) (hs : RisL xs) (hn : xs.length ≤ 19) :
  Calls Tryz.prog 141 #[.slice la xs.length c,.int .i64 (xs.length : Int),.func (.func 125) #[] #[.pointer (some ⟨tb,0,none⟩)]] w fun e w' => e = .returned (.tuple #[]) ∧ Ext [] w w' := by
 refine enter [] Rl [] Tryz.func141 rfl kr (HP.ofHas hR) ?_
 refine Rq [0,1,2,6] ?_
 refine Rq [0,1,2,6,7,8] ?_
 refine Cfg.loop rfl (ι := Unit) (fun (xz : Unit) => match xz with | () => [(8,[],.int .i64 20),(7,[],.int .i64 0),(6,[],.int .i64 20),(0,[],.slice la xs.length c),(1,[],iN xs.length),(2,[],.func (.func 125) #[] #[pT tb])]) (fun (xz : Unit) => match xz with | () => []) (fun (xz : Unit) => match xz with | () => True) (fun (xz : Unit) => match xz with | () => 0) () ?_ (Conv.mk kr) .slnil ?_
 ·exact trivial
 ·rintro ⟨⟩ -
  refine Rq [0,1,2,6,7,8,13] ?_
  refine Cfg.condF rfl (b := (decide ((20 : Int) ≤ (xs.length : Int)))) kr (decide_eq_false om) ?_
  refine Cfg.begL rfl ?_
  refine Lq 4 [0,1,2,6,23,24,25,26] ?_
  refine Lu (Eff.callA (.tuple #[]) rfl Tryz.func144 rfl rfl kr (fun w1 h => eInsS la c xs tb Rl w1 hI (h.hasR (fun e he => he)) htb hs hn)) ?_
  refine CfgL.done rfl ?_
  refine Cg (Γ' := [(6,[],.int .i64 20),(0,[],.slice la xs.length c),(1,[],iN xs.length),(2,[],.func (.func 125) #[] #[pT tb])]) ?_
  refine Cfg.loop rfl (ι := Unit) (fun (xz : Unit) => match xz with | () => [(6,[],.int .i64 20),(0,[],.slice la xs.length c),(1,[],iN xs.length),(2,[],.func (.func 125) #[] #[pT tb])]) (fun (xz : Unit) => match xz with | () => []) (fun (xz : Unit) => match xz with | () => True) (fun (xz : Unit) => match xz with | () => 0) () ?_ (Conv.mk kr) .slnil ?_
  ·exact trivial
  ·rintro ⟨⟩ -
   refine Rq [0,1,2,6,30] ?_
   refine Cfg.condF rfl (b := (decide ((20 : Int) < (xs.length : Int)))) kr (decide_eq_false om) ?_
   refine Cfg.fin rfl (rs := []) rfl [] trivial (fun w1 hp => ?_)
   exact ⟨rfl,hp.ext⟩
set_option maxRecDepth 100000 in
set_option maxHeartbeats 4000000 in
theorem eSSt (la : Option Addr) (c : Nat) (xs : List Nat) (tb : Nat) (Rl : List (Nat × Obj)) (w : World) (hI : InF u32c 1 Rl la xs) (hR : Has w Rl) (htb : (tb,Obj.cells #[.func (.func 107) #[] #[]] 131 (0,0)) ∈ Rl) (hs : RisL xs) (hn : xs.length ≤ 19) :
  Calls Tryz.prog 124 #[.slice la xs.length c,.func (.func 125) #[] #[.pointer (some ⟨tb,0,none⟩)]] w fun e w' => e = .returned (.tuple #[]) ∧ Ext [] w w' := by
 refine enter [] Rl [] Tryz.func124 rfl kr (HP.ofHas hR) ?_
 refine Cfg.begL rfl ?_
 refine Lq 4 [4,6,7] ?_
 refine Lu (Eff.callA (.tuple #[]) rfl Tryz.func141 rfl rfl kr (fun w1 h => eStb la c xs tb Rl w1 hI (h.hasR (fun e he => he)) htb hs hn)) ?_
 refine CfgL.done rfl ?_
 refine Cg (Γ' := []) ?_
 refine Cfg.fin rfl (rs := []) rfl [] trivial (fun w1 hp => ?_)
 exact ⟨rfl,hp.ext⟩
set_option maxRecDepth 100000 in
set_option maxHeartbeats 4000000 in
theorem eCpt (la : Option Addr) (c : Nat) (xs : List Nat) (tb : Nat) (Rl : List (Nat × Obj)) (w : World) (hI : InF u32c 1 Rl la xs) (hR : Has w Rl) (htb : (tb,Obj.cells #[.func (.func 107) #[] #[]] 131 (0,0)) ∈ Rl) (hs : RisL xs) (hn : xs.length ≤ 19) :
  Calls Tryz.prog 127 #[.slice la xs.length c,.func (.func 128) #[] #[.pointer (some ⟨tb,0,none⟩)]] w fun e w' => e = .returned (.slice la xs.length c) ∧ Ext [] w w' := by
 refine enter [] Rl [] Tryz.func127 rfl kr (HP.ofHas hR) ?_
 refine Rq [0,1] ?_
 refine Rq [0,1,10] ?_
 refine Cfg.cond rfl (b := (decide ((xs.length : Int) < (2 : Int)))) kr (fun c1r => ?_) (fun c1r => ?_)
 ·have c1 := (dT c1r)
  refine Rq [4] ?_
  refine Cfg.ret rfl (rs := [.tmp 4]) rfl [.slice la xs.length c] ⟨kr,trivial⟩ (fun w1 hp => ?_)
  exact ⟨rfl,hp.ext⟩
 ·have c1 := (dF c1r)
  refine Rq [0,1,5] ?_
  refine Cfg.loop rfl (ι := Nat) (fun (i : Nat) => [(5,[],iN i),(0,[],.slice la xs.length c),(1,[],.func (.func 128) #[] #[pT tb])]) (fun (i : Nat) => []) (fun (i : Nat) => (1 ≤ i) ∧ (i ≤ xs.length)) (fun (i : Nat) => xs.length - i) 1 ?_ (Conv.mk kr) .slnil ?_
  ·exact ⟨Nat.le_refl _,by omega⟩
  ·rintro i ⟨hi,hi2⟩
   refine Rq [0,1,5,15] ?_
   refine Cfg.cond rfl (b := (decide ((i : Int) < (xs.length : Int)))) kr (fun c2r => ?_) (fun c2r => ?_)
   ·have c2 := (dT c2r)
    obtain ⟨su1,offu1,csu1,teu1,freu1,hvu1,hmu1,hcu1⟩ := hI om
    refine Cg (Γ' := [(15,[],.bool (decide ((i : Int) < (xs.length : Int)))),(5,[],iN i),(0,[],.slice la xs.length c),(1,[],.func (.func 128) #[] #[pT tb])]) ?_
    refine Cfg.setG (Γ' := [(15,[],.bool (decide ((i : Int) < (xs.length : Int)))),(5,[],iN i),(0,[],.slice (some ⟨su1,offu1,none⟩) xs.length c),(1,[],.func (.func 128) #[] #[pT tb])]) (congrArg (fun (xq : Option Addr) => ([(15,[],.bool (decide ((i : Int) < (xs.length : Int)))),(5,[],iN i),(0,[],.slice xq xs.length c),(1,[],.func (.func 128) #[] #[pT tb])] : Env)) hvu1) ?_
    refine Cfg.begA rfl kr [] ?_
    refine Ap [0,1,2,3,5,6,7,8] [] (some [0,1,5,18,21,26]) (bF 495 11) .slnil 3 (fun _ => [(0 ≤ (i : Int) ∧ (i : Int) < (xs.length : Int)),(i6 ((i : Int) - 1)),(0 ≤ ((i : Int) - 1) ∧ ((i : Int) - 1) < (xs.length : Int))]) ⟨om,om,om,trivial⟩ ?_
    refine CfgA.two 4 9 kr (fuel' := 2) rfl ?_ ?_
    ·
     refine Iu rfl  (Eff.quiet (raw := false) (orc := some (uN (xs.getD i 0))) (v := uN (xs.getD i 0)) (nd := (fun S => [(cE S su1 (addO offu1 i) (uN (xs.getD i 0)))])) (fun _ => kr) ⟨(fun w1 h => by rw [addO_eq]; exact (cell_cells (h.ro _ hmu1)).trans (fl_one (g := fun n : Nat => uN n) 0 hcu1 om)),trivial⟩ kr) (fun _ _ => List.nil_sublist _) ?_
     refine Au 9 rfl 1  (Eff.quiet (raw := false) (orc := some (uN ((xs.getD ((((i : Int) - 1)).toNat) 0)))) (v := uN ((xs.getD ((((i : Int) - 1)).toNat) 0))) (nd := (fun S => [(cE S su1 (addO offu1 (((i : Int) - 1)).toNat) (uN ((xs.getD ((((i : Int) - 1)).toNat) 0))))])) (fun _ => kr) ⟨(fun w1 h => by rw [addO_eq]; exact (cell_cells (h.ro _ hmu1)).trans (fl_one (g := fun n : Nat => uN n) 0 hcu1 om)),trivial⟩ kr) (fun _ _ => List.nil_sublist _) ?_
     refine Ae 10 rfl 0  (Eff.callAVC (vs := [uN (xs.getD i 0),uN ((xs.getD ((((i : Int) - 1)).toNat) 0))]) (.bool false) [pT tb] rfl kr Tryz.func128 rfl rfl kr (fun w1 h => eCl2 (((xs.getD i 0))) (((xs.getD ((((i : Int) - 1)).toNat) 0))) tb w1 (fun e he => by rw [List.mem_singleton.1 he]; exact h.ro _ htb) (hs.atI om om))) (fun _ _ => List.nil_sublist _) ?_
     rintro ⟨⟩ -
     refine CfgA.done kr ?_
     refine Cg (Γ' := [(28,[],.bool false),(5,[],iN i),(0,[],.slice (some ⟨su1,offu1,none⟩) xs.length c),(1,[],.func (.func 128) #[] #[pT tb])]) ?_
     refine Cfg.condF rfl (b := false) kr rfl ?_
     refine Rg [0,1,5] [] (fun _ => [(i6 ((i : Int) + 1))]) ⟨om,trivial⟩ ?_
     refine Cfg.setS 0 (show .slice (some ⟨su1,offu1,none⟩) xs.length c = .slice la xs.length c from congrArg (fun z => Value.slice z xs.length c) hvu1.symm) ?_
     refine Cfg.again rfl (i + 1) ⟨by omega,by omega⟩ (by show xs.length - (i + 1) < xs.length - i; omega) (Conv.mk kr) .slnil
    ·
     refine Iu rfl  (Eff.quiet (raw := false) (orc := some (uN ((xs.getD ((((i : Int) - 1)).toNat) 0)))) (v := uN ((xs.getD ((((i : Int) - 1)).toNat) 0))) (nd := (fun S => [(cE S su1 (addO offu1 (((i : Int) - 1)).toNat) (uN ((xs.getD ((((i : Int) - 1)).toNat) 0))))])) (fun _ => kr) ⟨(fun w1 h => by rw [addO_eq]; exact (cell_cells (h.ro _ hmu1)).trans (fl_one (g := fun n : Nat => uN n) 0 hcu1 om)),trivial⟩ kr) (fun _ _ => List.nil_sublist _) ?_
     refine Au 4 rfl 1  (Eff.quiet (raw := false) (orc := some (uN (xs.getD i 0))) (v := uN (xs.getD i 0)) (nd := (fun S => [(cE S su1 (addO offu1 i) (uN (xs.getD i 0)))])) (fun _ => kr) ⟨(fun w1 h => by rw [addO_eq]; exact (cell_cells (h.ro _ hmu1)).trans (fl_one (g := fun n : Nat => uN n) 0 hcu1 om)),trivial⟩ kr) (fun _ _ => List.nil_sublist _) ?_
     refine Ae 10 rfl 0  (Eff.callAVC (vs := [uN (xs.getD i 0),uN ((xs.getD ((((i : Int) - 1)).toNat) 0))]) (.bool false) [pT tb] rfl kr Tryz.func128 rfl rfl kr (fun w1 h => eCl2 (((xs.getD i 0))) (((xs.getD ((((i : Int) - 1)).toNat) 0))) tb w1 (fun e he => by rw [List.mem_singleton.1 he]; exact h.ro _ htb) (hs.atI om om))) (fun _ _ => List.nil_sublist _) ?_
     rintro ⟨⟩ -
     refine CfgA.done kr ?_
     refine Cg (Γ' := [(28,[],.bool false),(5,[],iN i),(0,[],.slice (some ⟨su1,offu1,none⟩) xs.length c),(1,[],.func (.func 128) #[] #[pT tb])]) ?_
     refine Cfg.condF rfl (b := false) kr rfl ?_
     refine Rg [0,1,5] [] (fun _ => [(i6 ((i : Int) + 1))]) ⟨om,trivial⟩ ?_
     refine Cfg.setS 0 (show .slice (some ⟨su1,offu1,none⟩) xs.length c = .slice la xs.length c from congrArg (fun z => Value.slice z xs.length c) hvu1.symm) ?_
     refine Cfg.again rfl (i + 1) ⟨by omega,by omega⟩ (by show xs.length - (i + 1) < xs.length - i; omega) (Conv.mk kr) .slnil
   ·have c2 := (dF c2r)
    refine Rq [4] ?_
    refine Cfg.ret rfl (rs := [.tmp 4]) rfl [.slice la xs.length c] ⟨kr,trivial⟩ (fun w1 hp => ?_)
    exact ⟨rfl,hp.ext⟩
set_option maxRecDepth 100000 in
theorem eInsE (la : Option Addr) (c tb : Nat) (w : World) :
  Calls Tryz.prog 146 #[.slice la 1 c,.int .i64 0,.int .i64 (1 : Int),.func (.func 130) #[] #[.pointer (some ⟨tb,0,none⟩)]] w fun e w' => e = .returned (.tuple #[]) ∧ Ext [] w w' := by
 refine enter [] [] [] Tryz.func146 rfl kr (HP.start w) ?_
 refine Rg [0,1,2,3,8] [] (fun _ => [(i6 (1 : Int))]) ⟨om,trivial⟩ ?_
 refine Cfg.loop rfl (ι := Unit) (fun (xz : Unit) => match xz with | () => [(8,[],.int .i64 1),(0,[],.slice la 1 c),(1,[],.int .i64 0),(2,[],.int .i64 (1 : Int)),(3,[],.func (.func 130) #[] #[pT tb])]) (fun (xz : Unit) => match xz with | () => []) (fun (xz : Unit) => match xz with | () => True) (fun (xz : Unit) => match xz with | () => 0) () ?_ (Conv.mk kr) .slnil ?_
 ·exact trivial
 ·rintro ⟨⟩ -
  refine Rq [0,1,2,3,8,14] ?_
  refine Cfg.condF rfl (b := (decide ((1 : Int) < (1 : Int)))) kr (by decide) ?_
  refine Cfg.fin rfl (rs := []) rfl [] trivial (fun w1 hp => ?_)
  exact ⟨rfl,hp.ext⟩
set_option maxRecDepth 100000 in
theorem eStbE (la : Option Addr) (c tb : Nat) (w : World) :
  Calls Tryz.prog 142 #[.slice la 1 c,.int .i64 (1 : Int),.func (.func 130) #[] #[.pointer (some ⟨tb,0,none⟩)]] w fun e w' => e = .returned (.tuple #[]) ∧ Ext [] w w' := by
 refine enter [] [] [] Tryz.func142 rfl kr (HP.start w) ?_
 refine Rq [0,1,2,6] ?_
 refine Rq [0,1,2,6,7,8] ?_
 refine Cfg.loop rfl (ι := Unit) (fun (xz : Unit) => match xz with | () => [(8,[],.int .i64 20),(7,[],.int .i64 0),(6,[],.int .i64 20),(0,[],.slice la 1 c),(1,[],.int .i64 (1 : Int)),(2,[],.func (.func 130) #[] #[pT tb])]) (fun (xz : Unit) => match xz with | () => []) (fun (xz : Unit) => match xz with | () => True) (fun (xz : Unit) => match xz with | () => 0) () ?_ (Conv.mk kr) .slnil ?_
 ·exact trivial
 ·rintro ⟨⟩ -
  refine Rq [0,1,2,6,7,8,13] ?_
  refine Cfg.condF rfl (b := (decide ((20 : Int) ≤ (1 : Int)))) kr (by decide) ?_
  refine Cfg.begL rfl ?_
  refine Lq 4 [0,1,2,6,23,24,25,26] ?_
  refine Lu (Eff.callA (.tuple #[]) rfl Tryz.func146 rfl rfl kr (fun w1 h => eInsE la c tb w1)) ?_
  refine CfgL.done rfl ?_
  refine Cg (Γ' := [(6,[],.int .i64 20),(0,[],.slice la 1 c),(1,[],.int .i64 (1 : Int)),(2,[],.func (.func 130) #[] #[pT tb])]) ?_
  refine Cfg.loop rfl (ι := Unit) (fun (xz : Unit) => match xz with | () => [(6,[],.int .i64 20),(0,[],.slice la 1 c),(1,[],.int .i64 (1 : Int)),(2,[],.func (.func 130) #[] #[pT tb])]) (fun (xz : Unit) => match xz with | () => []) (fun (xz : Unit) => match xz with | () => True) (fun (xz : Unit) => match xz with | () => 0) () ?_ (Conv.mk kr) .slnil ?_
  ·exact trivial
  ·rintro ⟨⟩ -
   refine Rq [0,1,2,6,30] ?_
   refine Cfg.condF rfl (b := (decide ((20 : Int) < (1 : Int)))) kr (by decide) ?_
   refine Cfg.fin rfl (rs := []) rfl [] trivial (fun w1 hp => ?_)
   exact ⟨rfl,hp.ext⟩
set_option maxRecDepth 100000 in
theorem eSStE (la : Option Addr) (c tb : Nat) (w : World) :
  Calls Tryz.prog 129 #[.slice la 1 c,.func (.func 130) #[] #[.pointer (some ⟨tb,0,none⟩)]] w fun e w' => e = .returned (.tuple #[]) ∧ Ext [] w w' := by
 refine enter [] [] [] Tryz.func129 rfl kr (HP.start w) ?_
 refine Cfg.begL rfl ?_
 refine Lq 4 [4,6,7] ?_
 refine Lu (Eff.callA (.tuple #[]) rfl Tryz.func142 rfl rfl kr (fun w1 h => eStbE la c tb w1)) ?_
 refine CfgL.done rfl ?_
 refine Cg (Γ' := []) ?_
 refine Cfg.fin rfl (rs := []) rfl [] trivial (fun w1 hp => ?_)
 exact ⟨rfl,hp.ext⟩
set_option maxRecDepth 100000 in
theorem eCptE (la : Option Addr) (c tb : Nat) (w : World) :
  Calls Tryz.prog 131 #[.slice la 1 c,.func (.func 132) #[] #[.pointer (some ⟨tb,0,none⟩)]] w fun e w' => e = .returned (.slice la 1 c) ∧ Ext [] w w' := by
 refine enter [] [] [] Tryz.func131 rfl kr (HP.start w) ?_
 refine Rq [0,1] ?_
 refine Rq [0,1,10] ?_
 refine Cfg.condT rfl (b := (decide ((1 : Int) < (2 : Int)))) kr (by decide) ?_
 refine Rq [4] ?_
 refine Cfg.ret rfl (rs := [.tmp 4]) rfl [.slice la 1 c] ⟨kr,trivial⟩ (fun w1 hp => ?_)
 exact ⟨rfl,hp.ext⟩
set_option maxRecDepth 100000 in
set_option maxHeartbeats 4000000 in
theorem eRisU (la : Option Addr) (c : Nat) (xs : List Nat) (Rl : List (Nat × Obj)) (w : World) (hI : InF u32c 1 Rl la xs) (hR : Has w Rl) (hs : RisL xs) (hn : xs.length ≤ 19) :
  Calls Tryz.prog 106 #[.slice la xs.length c,.func (.func 107) #[] #[]] w fun e w' => ∃ o : K.Own,OwnOk o 1 xs.length (xs.flatMap u32c) ∧ e = .returned (.slice o.a xs.length o.c) ∧ Has w' (o.o 73 (xs.flatMap u32c)) ∧ (∀ x ∈ o.o 73 (xs.flatMap u32c),w.heap.size ≤ x.1) ∧ Ext [] w w' := by
 refine enter [] Rl [] Tryz.func106 rfl kr (HP.ofHas hR) ?_
 refine Cfg.begL rfl ?_
 refine Le (Eff.box (v := .func (.func 107) #[] #[]) rfl kr) ?_
 rintro tb ⟨htb,ntb⟩
 refine Ld 1 [0,3] ?_
 refine Cfg.begL rfl ?_
 refine Lp 1 [] none n0 trivial ?_
 refine Le (Eff.callOF 73 1 xs.length (xs.flatMap u32c) [(tb,.cells #[.func (.func 107) #[] #[]] 131 (0,0))] [] (by rfl) rfl Tryz.func35 rfl rfl kr (fun w1 h => cloU la c xs Rl w1 hI (h.hasR (fun e he => he)) om)) ?_
 rintro oc koc
 refine Ld 1 [0,3] ?_
 refine Cfg.begL rfl ?_
 refine Lp 2 [] none n0 trivial ?_
 refine Lu (Eff.callA (.tuple #[]) rfl Tryz.func124 rfl rfl kr (fun w1 h => eSSt (Own.a oc) (Own.c oc) xs tb ((tb,Obj.cells #[.func (.func 107) #[] #[]] 131 (0,0)) :: Own.o 73 (xs.flatMap u32c) oc) w1 ((own_inf koc).mono (fun e he => List.mem_cons_of_mem _ he)) (fun e he => h.own e (show e ∈ ([(tb,Obj.cells #[.func (.func 107) #[] #[]] 131 (0,0))] ++ (Own.o 73 (xs.flatMap u32c) oc ++ [])) from (List.mem_cons.1 he).elim (fun he => by rw [he]; exact mH) (fun he => mR (mL he)))) mH hs hn)) ?_
 refine CfgL.done rfl ?_
 refine Cg (Γ' := [(0,[],.slice (Own.a oc) xs.length (Own.c oc)),(3,[],pT tb)]) ?_
 refine Cfg.begL rfl ?_
 refine Lq 2 [10,11] ?_
 refine Lu (Eff.callA (.slice (Own.a oc) xs.length (Own.c oc)) rfl Tryz.func127 rfl rfl kr (fun w1 h => eCpt (Own.a oc) (Own.c oc) xs tb ((tb,Obj.cells #[.func (.func 107) #[] #[]] 131 (0,0)) :: Own.o 73 (xs.flatMap u32c) oc) w1 ((own_inf koc).mono (fun e he => List.mem_cons_of_mem _ he)) (fun e he => h.own e (show e ∈ ([(tb,Obj.cells #[.func (.func 107) #[] #[]] 131 (0,0))] ++ (Own.o 73 (xs.flatMap u32c) oc ++ [])) from (List.mem_cons.1 he).elim (fun he => by rw [he]; exact mH) (fun he => mR (mL he)))) mH hs hn)) ?_
 refine Ld 1 [4] ?_
 refine Cfg.ret rfl (rs := [.tmp 4]) rfl [.slice (Own.a oc) xs.length (Own.c oc)] ⟨kr,trivial⟩ (fun w1 hp => ?_)
 exact ⟨oc,koc,rfl,fun x hx => hp.own x (mR (mL hx)),fun x hx => (hp.mine x (mR (mL hx))).resolve_right (fun h => by cases h),hp.ext⟩
set_option maxRecDepth 100000 in
set_option maxHeartbeats 4000000 in
theorem eRisE (la : Option Addr) (c : Nat) (Rl : List (Nat × Obj)) (w : World) (hI : InF edc 3 Rl la ([(1,1,2)] : List Ed)) (hR : Has w Rl) :
  Calls Tryz.prog 108 #[.slice la 1 c,.func (.func 109) #[] #[]] w fun e w' => ∃ o : K.Own,OwnOk o 3 1 (([(1,1,2)] : List Ed).flatMap edc) ∧ e = .returned (.slice o.a 1 o.c) ∧ Has w' (o.o 76 (([(1,1,2)] : List Ed).flatMap edc)) ∧ (∀ x ∈ o.o 76 (([(1,1,2)] : List Ed).flatMap edc),w.heap.size ≤ x.1) ∧ Ext [] w w' := by
 refine enter [] Rl [] Tryz.func108 rfl kr (HP.ofHas hR) ?_
 refine Cfg.begL rfl ?_
 refine Le (Eff.box (v := .func (.func 109) #[] #[]) rfl kr) ?_
 rintro tb ⟨htb,ntb⟩
 refine Ld 1 [0,3] ?_
 refine Cfg.begL rfl ?_
 refine Lp 1 [] none n0 trivial ?_
 refine Le (Eff.callOF 76 3 1 (([(1,1,2)] : List Ed).flatMap edc) [(tb,.cells #[.func (.func 109) #[] #[]] 164 (0,0))] [] (by rfl) rfl Tryz.func36 rfl rfl kr (fun w1 h => cloE la c ([(1,1,2)] : List Ed) Rl w1 hI (h.hasR (fun e he => he)) (by decide))) ?_
 rintro oc koc
 refine Ld 1 [0,3] ?_
 refine Cfg.begL rfl ?_
 refine Lp 2 [] none n0 trivial ?_
 refine Lu (Eff.callA (.tuple #[]) rfl Tryz.func129 rfl rfl kr (fun w1 h => eSStE (Own.a oc) (Own.c oc) tb w1)) ?_
 refine CfgL.done rfl ?_
 refine Cg (Γ' := [(0,[],.slice (Own.a oc) 1 (Own.c oc)),(3,[],pT tb)]) ?_
 refine Cfg.begL rfl ?_
 refine Lq 2 [10,11] ?_
 refine Lu (Eff.callA (.slice (Own.a oc) 1 (Own.c oc)) rfl Tryz.func131 rfl rfl kr (fun w1 h => eCptE (Own.a oc) (Own.c oc) tb w1)) ?_
 refine Ld 1 [4] ?_
 refine Cfg.ret rfl (rs := [.tmp 4]) rfl [.slice (Own.a oc) 1 (Own.c oc)] ⟨kr,trivial⟩ (fun w1 hp => ?_)
 exact ⟨oc,koc,rfl,fun x hx => hp.own x (mR (mL hx)),fun x hx => (hp.mine x (mR (mL hx))).resolve_right (fun h => by cases h),hp.ext⟩
set_option maxRecDepth 100000 in
set_option maxHeartbeats 4000000 in
theorem eMake (lb eb : Nat) (w : World) (hR : Has w [(lb,Obj.cells (nv [1,2,3]).toArray 73 (0,0)),(eb,Obj.cells (edc (1,1,2)).toArray 76 (0,0))]) :
  Calls Tryz.prog 95 #[.slice (some ⟨lb,0,none⟩) 3 3,.slice (some ⟨eb,0,none⟩) 1 1] w fun e w' => ∃ q : K.Own × K.Own,(OwnOk q.1 1 3 (([1,2,3] : List Nat).flatMap u32c) ∧ OwnOk q.2 3 1 (([(1,1,2)] : List Ed).flatMap edc)) ∧ e = .returned (.agg (gc (g9 q.1 q.2)).toArray) ∧ ∃ R1,HP w [] R1 (Own.o 73 (([1,2,3] : List Nat).flatMap u32c) q.1 ++ Own.o 76 (([(1,1,2)] : List Ed).flatMap edc) q.2) w' := by
 have i1 : InF u32c 1 [(lb,Obj.cells (nv [1,2,3]).toArray 73 (0,0)),(eb,Obj.cells (edc (1,1,2)).toArray 76 (0,0))] (some ⟨lb,0,none⟩) [1,2,3] := lit_inf.mono (fun e he => by rw [List.mem_singleton.1 he]; exact mH)
 have i2 : InF edc 3 [(lb,Obj.cells (nv [1,2,3]).toArray 73 (0,0)),(eb,Obj.cells (edc (1,1,2)).toArray 76 (0,0))] (some ⟨eb,0,none⟩) ([(1,1,2)] : List Ed) := fun _ => ⟨eb,0,_,_,_,rfl,List.mem_cons_of_mem _ mH,fun j hj => by
   have hj : j < 3 := hj
   rcases (show j = 0 ∨ j = 1 ∨ j = 2 by omega) with rfl | rfl | rfl <;> rfl⟩
 refine enter [] [(lb,Obj.cells (nv [1,2,3]).toArray 73 (0,0)),(eb,Obj.cells (edc (1,1,2)).toArray 76 (0,0))] [] Tryz.func95 rfl kr (HP.ofHas hR) ?_
 refine Cfg.begL rfl ?_
 refine Le (Eff.alloc (z := (.agg #[.slice none 0 0,.slice none 0 0])) rfl kr) ?_
 rintro rs ⟨hrs,nrs⟩
 refine CfgL.done rfl ?_
 refine Cfg.begL rfl ?_
 refine Lq 1 [1,4,5] ?_
 refine Le (Eff.callOF 73 1 3 (([1,2,3] : List Nat).flatMap u32c) [(rs,.cells #[.slice none 0 0,.slice none 0 0] 25 (0,0))] [] (by rfl) rfl Tryz.func106 rfl rfl kr (fun w1 h => eRisU (some ⟨lb,0,none⟩) 3 [1,2,3] _ w1 i1 (h.hasR (fun e he => he)) ris123 (by decide))) ?_
 rintro o1 ko1
 refine Lq 1 [4,6,7] ?_
 refine Le (Eff.callOF 76 3 1 (([(1,1,2)] : List Ed).flatMap edc) ([(rs,.cells #[.slice none 0 0,.slice none 0 0] 25 (0,0))] ++ Own.o 73 (([1,2,3] : List Nat).flatMap u32c) o1) [] (by simp only [List.append_nil]) rfl Tryz.func108 rfl rfl kr (fun w1 h => eRisE (some ⟨eb,0,none⟩) 1 _ w1 i2 (h.hasR (fun e he => he)))) ?_
 rintro o2 ko2
 refine Lp 1 [(dS (.agg (gc (g9 o1 o2)).toArray))] (some [4,9]) (fun S => [(∀ w1,S w1 → (Instr.build 25 #[(0,.slice (Own.a o1) 3 (Own.c o1)),(1,.slice (Own.a o2) 1 (Own.c o2))]).run Tryz.prog w1 = .ok (.agg (gc (g9 o1 o2)).toArray) w1)]) ⟨(fun w1 _ => kr),trivial⟩ ?_
 refine Lu (Eff.storeN (b := rs) (off := 0) (vs := (gc (g9 o1 o2)).toArray) (n := 2) rfl kr kr kr rfl (by intro q hq; simp only [gc,List.mem_cons,List.not_mem_nil,or_false] at hq; rcases hq with rfl | rfl <;> rfl) 0 (cs := #[.slice none 0 0,.slice none 0 0]) (e := 25) kr (by decide)) ?_
 refine CfgL.setO (congrArg (fun (xq : Array Value) => (([(rs,.cells xq 25 (0,0))] ++ (Own.o 73 (([1,2,3] : List Nat).flatMap u32c) o1 ++ (Own.o 76 (([(1,1,2)] : List Ed).flatMap edc) o2 ++ []))) : LO)) (show _ = ((gc (g9 o1 o2)).toArray) from rfl)) ?_
 refine CfgL.done rfl ?_
 refine Cg (Γ' := [(4,[],pT rs)]) ?_
 refine Cfg.ret rfl (rs := [.cell 4 25]) rfl [.agg (gc (g9 o1 o2)).toArray] ⟨⟨_,by kernel_rfl,(fun w1 h => h.oload 0 rfl Tryz.underlying25 rfl (n := 2) kr rfl)⟩,trivial⟩ (fun w1 hp => ?_)
 have h9 := hp.sub (.cons _ slr)
 rw [show (List.append [] (Own.o 73 (([1,2,3] : List Nat).flatMap u32c) o1 ++ (Own.o 76 (([(1,1,2)] : List Ed).flatMap edc) o2 ++ []))) = Own.o 73 (([1,2,3] : List Nat).flatMap u32c) o1 ++ Own.o 76 (([(1,1,2)] : List Ed).flatMap edc) o2 from by rw [List.append_nil]; rfl] at h9
 exact ⟨(o1,o2),⟨ko1,ko2⟩,rfl,_,h9⟩
end Go.Proofs.YtbeeelgfhfmgbaaGreatDoor
namespace Go.Proofs.YtbeeelgfhfmgbaaGreatDoor
namespace K
section
variable {C : Cx} {R O : List (Nat × Obj)} {Γ : Env} {op : Oper}
theorem Eff.wIns {t kt e : TypeId} {q : IntKind} {x y v : Operand} (ho : op.op = .insert t x y v) (hm : C.P.underlying t = some (.map kt e)) (hd : C.P.underlying kt = some (.int q)) {r : Nat} {k : Int} {u : Value} (hx : opd Γ [] x = some (.map (some r))) (hy : opd Γ [] y = some (.int .u32 k)) (hv : opd Γ [] v = some u)
  {es : Array MapEntry} {ck : Nat} {W : List (Int × Value)} (h : WMapOk es ck W) (i : Nat) (hO : O[i]? = some (r,.map es ck)) :
  Eff C R O Γ op (Array MapEntry × Nat) (fun _ => undef) (fun x => O.set i (r,.map x.1 x.2)) (fun x => WMapOk x.1 x.2 (mset W k u)) := by
 refine Eff.of_skip fun a w hs hp => ?_
 obtain ⟨es',ck',h1,h2⟩ := wrun_mapUpdate (v := u) (k := k) hm hd (hp.own _ (List.mem_of_getElem? hO)) h
 refine ⟨(es',ck'),_,h1,?_,hp.set i (.map es' ck') hO (w' := { w with heap := w.heap.setIfInBounds r (.map es' ck') }) rfl rfl rfl rfl⟩
 have e1 := opd_ok hs (holds_nil _) hx
 have e2 := opd_ok hs (holds_nil _) hy
 have e3 := opd_ok hs (holds_nil _) hv
 simp [execOp,ho,e1,e2,e3,h2]
end
end K
end Go.Proofs.YtbeeelgfhfmgbaaGreatDoor
namespace Go.Proofs.YtbeeelgfhfmgbaaGreatDoor
open K
set_option linter.unusedVariables false
theorem src_arr {w0 w : World} {M : List Nat} {R O : List (Nat × Obj)} (h : HP w0 M R O w) (i : Nat) {b : Nat} {a : Array Value} {t : TypeId} (ho : O[i]? = some (b,.cells a t (0,0))) {j : Nat} {v : Value} (hj : a.toList[j]? = some v) : w.cell? ⟨b,0 + j,none⟩ = some v := by
 rw [Nat.zero_add,cell_cells (h.own _ (List.mem_of_getElem? ho)),← Array.getElem?_toList]; exact hj
theorem fm_snoc {α β : Type} {f : α → List β} (l : List α) (x : α) : (l ++ [x]).flatMap f = l.flatMap f ++ f x := by
 rw [List.flatMap_append,List.flatMap_cons,List.flatMap_nil,List.append_nil]
set_option maxRecDepth 100000 in
theorem tkE (b : Nat) (z : IN) (w : World) (hB : w.heap[b]? = some (.cells (inC z) 102 (0,0))) :
  Calls Tryz.prog 56 #[.pointer (some ⟨b,0,none⟩)] w fun e w' => e = .returned (.agg (edc (takeEd z).1).toArray) ∧ Ext [b] w w' ∧ w'.heap[b]? = some (.cells (inC (takeEd z).2) 102 (0,0)) := by
 refine enter [b] [] [(b,.cells (inC z) 102 (0,0))] Tryz.func56 rfl kr (HP.startM (R := []) (fun _ h => by cases h) hB (by simp)) ?_
 refine Cfg.begL rfl ?_
 refine Le (Eff.alloc (z := (.agg #[.int .u32 0,.int .u32 0,.int .u32 0])) rfl kr) ?_
 rintro rs ⟨hrs,nrs⟩
 refine CfgL.done rfl ?_
 refine Cfg.begL rfl ?_
 refine Lp 1 [] none n0 trivial ?_
 refine Lu (Eff.callM (.int .u32 ((fourF z).1 : Int)) 1 (b := b) (ob := .cells (inC z) 102 (0,0)) (.cells (inC ((fourF z).2)) 102 (0,0)) rfl Tryz.func54 rfl rfl kr kr (fun w1 h => wTFour b z w1 (h.own (b,_) (mG 1 rfl)))) ?_
 refine Ld 1 [0,2,3] ?_
 refine Cfg.begL rfl ?_
 refine Lp 1 [] none n0 trivial ?_
 refine Lu (Eff.callM (.int .u32 ((fourF ((fourF z).2)).1 : Int)) 1 (b := b) (ob := .cells (inC ((fourF z).2)) 102 (0,0)) (.cells (inC ((fourF ((fourF z).2)).2)) 102 (0,0)) rfl Tryz.func54 rfl rfl kr kr (fun w1 h => wTFour b ((fourF z).2) w1 (h.own (b,_) (mG 1 rfl)))) ?_
 refine Ld 1 [0,2,3,4] ?_
 refine Cfg.begL rfl ?_
 refine Lq 1 [2,3,4,10] ?_
 refine Lu (Eff.callM (.int .u32 ((fourF ((fourF ((fourF z).2)).2)).1 : Int)) 1 (b := b) (ob := .cells (inC ((fourF ((fourF z).2)).2)) 102 (0,0)) (.cells (inC ((fourF ((fourF ((fourF z).2)).2)).2)) 102 (0,0)) rfl Tryz.func54 rfl rfl kr kr (fun w1 h => wTFour b ((fourF ((fourF z).2)).2) w1 (h.own (b,_) (mG 1 rfl)))) ?_
 refine Ld 1 [2,3,4,5] ?_
 refine Cfg.begL rfl ?_
 refine Lp 4 [dZ,dZ,dZ,(dS (.agg (edc (takeEd z).1).toArray))] (some [2,15]) (fun S => [(∀ w1,S w1 → (Instr.build 76 #[(0,.int .u32 ((fourF z).1 : Int)),(1,.int .u32 ((fourF ((fourF z).2)).1 : Int)),(2,.int .u32 ((fourF ((fourF ((fourF z).2)).2)).1 : Int))]).run Tryz.prog w1 = .ok (.agg (edc (takeEd z).1).toArray) w1)]) ⟨(fun w1 _ => kr),trivial⟩ ?_
 refine Lu (Eff.storeN (b := rs) (off := 0) (vs := (edc (takeEd z).1).toArray) (n := 3) rfl kr kr kr (by rw [List.size_toArray]; rfl) (one_edc _) 0 (cs := #[.int .u32 0,.int .u32 0,.int .u32 0]) (e := 76) kr (by show 0 + 3 ≤ 3; decide)) ?_
 refine oL 0 rfl (show _ = ((edc (takeEd z).1).toArray) from spl_all (by rw [List.size_toArray]; rfl)) ?_
 refine CfgL.done rfl ?_
 refine Cg (Γ' := [(2,[],pT rs)]) ?_
 refine Cfg.ret rfl (rs := [.cell 2 76]) rfl [.agg (edc (takeEd z).1).toArray] ⟨⟨_,by kernel_rfl,(fun w1 h => h.oload 0 rfl Tryz.underlying76 rfl (n := 3) kr (by rw [List.size_toArray]; rfl))⟩,trivial⟩ (fun w1 hp => ?_)
 exact ⟨rfl,hp.ext,hp.own (b,_) (mG 1 rfl)⟩
set_option maxRecDepth 100000 in
set_option maxHeartbeats 4000000 in
theorem wRowsU (b : Nat) (z : IN) (mo : Nat) (w : World) (hB : w.heap[b]? = some (.cells (inC z) 102 (0,0))) (hmo : mo ≤ 1000) :
  Calls Tryz.prog 53 #[.pointer (some ⟨b,0,none⟩),.int .i64 (mo : Int),.func (.func 54) #[] #[]] w fun e w' => ∃ o : K.Own,OwnOk o 1 (rowsT fourF z (mo : Int)).1.length ((rowsT fourF z (mo : Int)).1.flatMap u32c) ∧ e = .returned (.slice o.a (rowsT fourF z (mo : Int)).1.length o.c) ∧ ∃ R1,HP w [b] R1 ([(b,.cells (inC (rowsT fourF z (mo : Int)).2) 102 (0,0))] ++ Own.o 73 ((rowsT fourF z (mo : Int)).1.flatMap u32c) o) w' := by
 have hbm := boundF_le (e := 6) z (Int.le_refl (mo : Int))
 refine enter [b] [] [(b,.cells (inC z) 102 (0,0))] Tryz.func53 rfl kr (HP.startM (R := []) (fun _ h => by cases h) hB (by simp)) ?_
 refine Rq [0,1,2] ?_
 refine Rq [0,1,2,7] ?_
 refine Cfg.begL rfl ?_
 refine Lq 2 [0,2,7,9,10] ?_
 refine Lu (Eff.callM (.int .i64 ((boundF z (mo : Int) 6).1 : Int)) 0 (b := b) (ob := .cells (inC z) 102 (0,0)) (.cells (inC ((boundF z (mo : Int) 6).2)) 102 (0,0)) rfl Tryz.func57 rfl rfl kr kr (fun w1 h => wCount b z (mo : Int) w1 (h.own (b,_) (mG 0 rfl)) om)) ?_
 refine Ld 1 [0,2,7,11,12] ?_
 refine Cfg.loop rfl (ι := Nat × IN × List Nat × K.Own) (fun (xz : Nat × IN × List Nat × K.Own) => match xz with | (i,y,acc,own) => [(12,[],iN i),(11,[],.int .i64 ((boundF z (mo : Int) 6).1 : Int)),(7,[],.slice (Own.a own) acc.length (Own.c own)),(0,[],pT b),(2,[],.func (.func 54) #[] #[])]) (fun (xz : Nat × IN × List Nat × K.Own) => match xz with | (i,y,acc,own) => ([(b,.cells (inC y) 102 (0,0))] ++ (Own.o 73 (acc.flatMap u32c) own ++ []))) (fun (xz : Nat × IN × List Nat × K.Own) => match xz with | (i,y,acc,own) => (RowAt fourF (boundF z (mo : Int) 6).1 (boundF z (mo : Int) 6).2 i y acc) ∧ (OwnOk own 1 acc.length (acc.flatMap u32c))) (fun (xz : Nat × IN × List Nat × K.Own) => match xz with | (i,y,acc,own) => (boundF z (mo : Int) 6).1 - i) (0,(boundF z (mo : Int) 6).2,[],none) ?_ (Conv.mk kr) slr ?_
 ·exact ⟨RowAt.start _ _ _,OwnOk.none _⟩
 ·rintro ⟨i,y,acc,own⟩ ⟨hra,hok⟩
  have hal := hra.len
  have hle := hra.le
  refine Rq [0,2,7,11,12,13] ?_
  refine Cfg.cond rfl (b := (decide ((i : Int) < ((boundF z (mo : Int) 6).1 : Int)))) kr (fun c1r => ?_) (fun c1r => ?_)
  ·have c1 := (dT c1r)
   refine Cfg.begL rfl ?_
   refine Lq 2 [0,2,7,11,12,14,15] ?_
   refine Lu (Eff.callMV (.int .u32 ((fourF y).1 : Int)) 0 (b := b) (ob := .cells (inC y) 102 (0,0)) (.cells (inC (fourF y).2) 102 (0,0)) rfl kr Tryz.func54 rfl rfl kr kr (fun w1 h => wTFour b y w1 (h.own (b,_) (mG 0 rfl)))) ?_
   refine Ld 1 [0,2,7,8,11,12] ?_
   refine Cfg.begL rfl ?_
   refine CfgL.pure 1 [] none (Γ' := [(17,[],pT b),(8,[],.int .u32 ((fourF y).1 : Int)),(12,[],iN i),(11,[],.int .i64 ((boundF z (mo : Int) 6).1 : Int)),(7,[],.slice (Own.a own) acc.length (Own.c own)),(0,[],pT b),(2,[],.func (.func 54) #[] #[])]) (nd := (fun _ => [])) kr (fun _ => kr) trivial ?_
   refine Lu (Eff.callA (.int .i64 (((fourF y).2).er)) rfl Tryz.func58 rfl rfl kr (fun w1 h => wErr b ((fourF y).2) w1 (h.own (b,_) (mG 0 rfl)))) ?_
   refine Ld 1 [0,2,7,8,11,12,19] ?_
   refine Cfg.cond rfl (b := ((((fourF y).2).er) != (0 : Int))) kr (fun c2r => ?_) (fun c2r => ?_)
   ·have c2 := (bne_iff_ne.1 c2r)
    refine Rq [6] ?_
    refine Cfg.ret rfl (rs := [.tmp 6]) rfl [.slice none 0 0] ⟨kr,trivial⟩ (fun w1 hp => ?_)
    have hx : (rowsT fourF z (mo : Int)) = ([],(fourF y).2) := hra.fail om c2
    rw [hx]
    exact ⟨none,OwnOk.none _,rfl,_,hp.sub (.cons_cons _ (List.nil_sublist _))⟩
   ·have c2 := (bne_eq_false_iff_eq.1 c2r)
    refine Cfg.begL rfl ?_
    refine Lq 2 [0,2,7,11,12,20,21] ?_
    refine Le (Eff.buildSlice (e := 73) (cells := #[.int .u32 ((fourF y).1 : Int)]) (parts := #[(0,.int .u32 ((fourF y).1 : Int))]) rfl kr (fun _ => kr)) ?_
    rintro bk1 ⟨hbk1,nbk1⟩
    refine Le (Eff.appendF rfl 1 4 Tryz.underlying22 kr (z := (.int .u32 0)) kr kr own (xs := (acc.flatMap u32c)) hok kr (b2 := bk1) (off2 := 0) (m := 1) (c2 := 1) kr (u32c (fourF y).1) rfl (one_u32 _) [(bk1,.cells #[.int .u32 ((fourF y).1 : Int)] 73 (0,0)),(b,.cells (inC ((fourF y).2)) 102 (0,0))] [] (by rfl) (fun w1 h j v hj => src_arr h 0 rfl hj) om om) ?_
    rintro o4 ko4
    refine Ld 1 [0,2,7,11,12] ?_
    refine Rg [0,2,7,11,12] [] (fun _ => [(i6 ((i : Int) + 1))]) ⟨om,trivial⟩ ?_
    have hra2 := hra.next om c2
    have hrv : (acc ++ [(fourF y).1]).flatMap u32c = acc.flatMap u32c ++ u32c (fourF y).1 := fm_snoc _ _
    refine Cfg.setO (congrArg (fun (xq : List Value) => (([(bk1,.cells #[.int .u32 ((fourF y).1 : Int)] 73 (0,0)),(b,.cells (inC ((fourF y).2)) 102 (0,0))] ++ (Own.o 73 xq o4 ++ [])) : LO)) (show _ = ((acc ++ [(fourF y).1]).flatMap u32c) from by rw [hrv])) ?_
    refine Cfg.setS 7 (congrArg (fun (xq : Nat) => (.slice (Own.a o4) xq (Own.c o4) : Value)) (show ((acc.length + 1)) = ((acc ++ [(fourF y).1]).length) from by rw [List.length_append]; rfl)) ?_
    refine Cfg.again rfl (i + 1,(fourF y).2,(acc ++ [(fourF y).1]),o4) ⟨hra2,by rw [hrv,List.length_append]; exact ko4⟩ (by show (boundF z (mo : Int) 6).1 - (i + 1) < (boundF z (mo : Int) 6).1 - i; omega) (Conv.mk kr) (.cons _ slr)
  ·have c1 := (dF c1r)
   refine Rq [6] ?_
   refine Cfg.ret rfl (rs := [.tmp 6]) rfl [.slice (Own.a own) acc.length (Own.c own)] ⟨kr,trivial⟩ (fun w1 hp => ?_)
   have hi2 : i = (boundF z (mo : Int) 6).1 := by omega
   have hx : (rowsT fourF z (mo : Int)) = (acc,y) := (hi2 ▸ hra).done
   rw [hx]
   have h9 : HP w [b] [] ([(b,Obj.cells (inC y) 102 (0,0))] ++ (Own.o 73 (acc.flatMap u32c) own ++ [])) w1 := hp.sub slr
   rw [List.append_nil] at h9
   exact ⟨own,hok,rfl,_,h9⟩
set_option maxRecDepth 100000 in
set_option maxHeartbeats 4000000 in
theorem wRowsE (b : Nat) (z : IN) (mo : Nat) (w : World) (hB : w.heap[b]? = some (.cells (inC z) 102 (0,0))) (hmo : mo ≤ 1000) :
  Calls Tryz.prog 55 #[.pointer (some ⟨b,0,none⟩),.int .i64 (mo : Int),.func (.func 56) #[] #[]] w fun e w' => ∃ o : K.Own,OwnOk o 3 (rowsT takeEd z (mo : Int)).1.length ((rowsT takeEd z (mo : Int)).1.flatMap edc) ∧ e = .returned (.slice o.a (rowsT takeEd z (mo : Int)).1.length o.c) ∧ ∃ R1,HP w [b] R1 ([(b,.cells (inC (rowsT takeEd z (mo : Int)).2) 102 (0,0))] ++ Own.o 76 ((rowsT takeEd z (mo : Int)).1.flatMap edc) o) w' := by
 have hbm := boundF_le (e := 6) z (Int.le_refl (mo : Int))
 refine enter [b] [] [(b,.cells (inC z) 102 (0,0))] Tryz.func55 rfl kr (HP.startM (R := []) (fun _ h => by cases h) hB (by simp)) ?_
 refine Rq [0,1,2] ?_
 refine Rq [0,1,2,7] ?_
 refine Cfg.begL rfl ?_
 refine Lq 2 [0,2,7,9,10] ?_
 refine Lu (Eff.callM (.int .i64 ((boundF z (mo : Int) 6).1 : Int)) 0 (b := b) (ob := .cells (inC z) 102 (0,0)) (.cells (inC ((boundF z (mo : Int) 6).2)) 102 (0,0)) rfl Tryz.func57 rfl rfl kr kr (fun w1 h => wCount b z (mo : Int) w1 (h.own (b,_) (mG 0 rfl)) om)) ?_
 refine Ld 1 [0,2,7,11,12] ?_
 refine Cfg.loop rfl (ι := Nat × IN × List Ed × K.Own) (fun (xz : Nat × IN × List Ed × K.Own) => match xz with | (i,y,acc,own) => [(12,[],iN i),(11,[],.int .i64 ((boundF z (mo : Int) 6).1 : Int)),(7,[],.slice (Own.a own) acc.length (Own.c own)),(0,[],pT b),(2,[],.func (.func 56) #[] #[])]) (fun (xz : Nat × IN × List Ed × K.Own) => match xz with | (i,y,acc,own) => ([(b,.cells (inC y) 102 (0,0))] ++ (Own.o 76 (acc.flatMap edc) own ++ []))) (fun (xz : Nat × IN × List Ed × K.Own) => match xz with | (i,y,acc,own) => (RowAt takeEd (boundF z (mo : Int) 6).1 (boundF z (mo : Int) 6).2 i y acc) ∧ (OwnOk own 3 acc.length (acc.flatMap edc))) (fun (xz : Nat × IN × List Ed × K.Own) => match xz with | (i,y,acc,own) => (boundF z (mo : Int) 6).1 - i) (0,(boundF z (mo : Int) 6).2,[],none) ?_ (Conv.mk kr) slr ?_
 ·exact ⟨RowAt.start _ _ _,OwnOk.none _⟩
 ·rintro ⟨i,y,acc,own⟩ ⟨hra,hok⟩
  have hal := hra.len
  have hle := hra.le
  refine Rq [0,2,7,11,12,13] ?_
  refine Cfg.cond rfl (b := (decide ((i : Int) < ((boundF z (mo : Int) 6).1 : Int)))) kr (fun c1r => ?_) (fun c1r => ?_)
  ·have c1 := (dT c1r)
   refine Cfg.begL rfl ?_
   refine Lq 2 [0,2,7,11,12,14,15] ?_
   refine Lu (Eff.callMV (.agg (edc (takeEd y).1).toArray) 0 (b := b) (ob := .cells (inC y) 102 (0,0)) (.cells (inC (takeEd y).2) 102 (0,0)) rfl kr Tryz.func56 rfl rfl kr kr (fun w1 h => tkE b y w1 (h.own (b,_) (mG 0 rfl)))) ?_
   refine Le (Eff.alloc (z := (.agg #[.int .u32 0,.int .u32 0,.int .u32 0])) rfl kr) ?_
   rintro xb ⟨hxb,nxb⟩
   refine Lu (Eff.storeN (b := xb) (off := 0) (vs := (edc (takeEd y).1).toArray) (n := 3) rfl kr kr kr (by rw [List.size_toArray]; rfl) (one_edc _) 0 (cs := #[.int .u32 0,.int .u32 0,.int .u32 0]) (e := 76) kr (by show 0 + 3 ≤ 3; decide)) ?_
   refine CfgL.setO (congrArg (fun (xq : Array Value) => (([(xb,.cells xq 76 (0,0)),(b,.cells (inC ((takeEd y).2)) 102 (0,0))] ++ (Own.o 76 (acc.flatMap edc) own ++ [])) : LO)) (show _ = ((edc (takeEd y).1).toArray) from spl_all (by rw [List.size_toArray]; rfl))) ?_
   refine CfgL.done rfl ?_
   refine Cg (Γ' := [(8,[],pT xb),(12,[],iN i),(11,[],.int .i64 ((boundF z (mo : Int) 6).1 : Int)),(7,[],.slice (Own.a own) acc.length (Own.c own)),(0,[],pT b),(2,[],.func (.func 56) #[] #[])]) ?_
   refine Cfg.begL rfl ?_
   refine Lp 1 [] none n0 trivial ?_
   refine Lu (Eff.callA (.int .i64 (((takeEd y).2).er)) rfl Tryz.func58 rfl rfl kr (fun w1 h => wErr b ((takeEd y).2) w1 (h.own (b,_) (mG 1 rfl)))) ?_
   refine Ld 1 [0,2,7,8,11,12,19] ?_
   refine Cfg.cond rfl (b := ((((takeEd y).2).er) != (0 : Int))) kr (fun c2r => ?_) (fun c2r => ?_)
   ·have c2 := (bne_iff_ne.1 c2r)
    refine Rq [6] ?_
    refine Cfg.ret rfl (rs := [.tmp 6]) rfl [.slice none 0 0] ⟨kr,trivial⟩ (fun w1 hp => ?_)
    have hx : (rowsT takeEd z (mo : Int)) = ([],(takeEd y).2) := hra.fail om c2
    rw [hx]
    exact ⟨none,OwnOk.none _,rfl,_,hp.sub (.cons _ (.cons_cons _ (List.nil_sublist _)))⟩
   ·have c2 := (bne_eq_false_iff_eq.1 c2r)
    refine Cfg.begL rfl ?_
    refine Lp 2 [dZ,(dS (.agg (edc (takeEd y).1).toArray))] (some [0,2,7,11,12,20,21]) (fun S => [(∀ w1,S w1 → (loadVar 76 ⟨xb,0,none⟩).run Tryz.prog w1 = .ok (.agg (edc (takeEd y).1).toArray) w1)]) ⟨(fun w1 h => h.oload 0 rfl Tryz.underlying76 rfl (n := 3) kr (by rw [List.size_toArray]; rfl)),trivial⟩ ?_
    refine Le (Eff.buildAgg (vs := (edc (takeEd y).1).toArray) (n := 3) rfl kr Tryz.underlying23 kr (z := (.agg #[.int .u32 0,.int .u32 0,.int .u32 0])) kr rfl (by decide) (by decide)) ?_
    rintro bk2 ⟨hbk2,nbk2⟩
    refine Le (Eff.appendF rfl 3 12 Tryz.underlying23 kr (z := (.agg #[.int .u32 0,.int .u32 0,.int .u32 0])) kr kr own (xs := (acc.flatMap edc)) hok kr (b2 := bk2) (off2 := 0) (m := 1) (c2 := 1) kr (edc (takeEd y).1) rfl (one_edc _) [(bk2,.cells ((edc (takeEd y).1).toArray) 76 (0,0)),(xb,.cells ((edc (takeEd y).1).toArray) 76 (0,0)),(b,.cells (inC ((takeEd y).2)) 102 (0,0))] [] (by rfl) (fun w1 h j v hj => src_arr h 0 rfl hj) om om) ?_
    rintro o4 ko4
    refine Ld 1 [0,2,7,11,12] ?_
    refine Rg [0,2,7,11,12] [] (fun _ => [(i6 ((i : Int) + 1))]) ⟨om,trivial⟩ ?_
    have hra2 := hra.next om c2
    have hrv : (acc ++ [(takeEd y).1]).flatMap edc = acc.flatMap edc ++ edc (takeEd y).1 := fm_snoc _ _
    refine Cfg.setO (congrArg (fun (xq : List Value) => (([(bk2,.cells ((edc (takeEd y).1).toArray) 76 (0,0)),(xb,.cells ((edc (takeEd y).1).toArray) 76 (0,0)),(b,.cells (inC ((takeEd y).2)) 102 (0,0))] ++ (Own.o 76 xq o4 ++ [])) : LO)) (show _ = ((acc ++ [(takeEd y).1]).flatMap edc) from by rw [hrv])) ?_
    refine Cfg.setS 7 (congrArg (fun (xq : Nat) => (.slice (Own.a o4) xq (Own.c o4) : Value)) (show ((acc.length + 1)) = ((acc ++ [(takeEd y).1]).length) from by rw [List.length_append]; rfl)) ?_
    refine Cfg.again rfl (i + 1,(takeEd y).2,(acc ++ [(takeEd y).1]),o4) ⟨hra2,by rw [hrv,List.length_append]; exact ko4⟩ (by show (boundF z (mo : Int) 6).1 - (i + 1) < (boundF z (mo : Int) 6).1 - i; omega) (Conv.mk kr) (.cons _ (.cons _ slr))
  ·have c1 := (dF c1r)
   refine Rq [6] ?_
   refine Cfg.ret rfl (rs := [.tmp 6]) rfl [.slice (Own.a own) acc.length (Own.c own)] ⟨kr,trivial⟩ (fun w1 hp => ?_)
   have hi2 : i = (boundF z (mo : Int) 6).1 := by omega
   have hx : (rowsT takeEd z (mo : Int)) = (acc,y) := (hi2 ▸ hra).done
   rw [hx]
   have h9 : HP w [b] [] ([(b,Obj.cells (inC y) 102 (0,0))] ++ (Own.o 76 (acc.flatMap edc) own ++ [])) w1 := hp.sub slr
   rw [List.append_nil] at h9
   exact ⟨own,hok,rfl,_,h9⟩
set_option maxRecDepth 100000 in
set_option maxHeartbeats 4000000 in
theorem wRowsD (b : Nat) (z : IN) (mo : Nat) (w : World) (hB : w.heap[b]? = some (.cells (inC z) 102 (0,0))) (hmo : mo ≤ 1000) :
  Calls Tryz.prog 28 #[.pointer (some ⟨b,0,none⟩),.int .i64 (mo : Int),.func (.func 27) #[] #[]] w fun e w' => ∃ o : K.Own,OwnOk o 32 (rowsT digF z (mo : Int)).1.length ((rowsT digF z (mo : Int)).1.flatMap dgc) ∧ e = .returned (.slice o.a (rowsT digF z (mo : Int)).1.length o.c) ∧ ∃ R1,HP w [b] R1 ([(b,.cells (inC (rowsT digF z (mo : Int)).2) 102 (0,0))] ++ Own.o 30 ((rowsT digF z (mo : Int)).1.flatMap dgc) o) w' := by
 have hbm := boundF_le (e := 6) z (Int.le_refl (mo : Int))
 refine enter [b] [] [(b,.cells (inC z) 102 (0,0))] Tryz.func28 rfl kr (HP.startM (R := []) (fun _ h => by cases h) hB (by simp)) ?_
 refine Rq [0,1,2] ?_
 refine Rq [0,1,2,7] ?_
 refine Cfg.begL rfl ?_
 refine Lq 2 [0,2,7,9,10] ?_
 refine Lu (Eff.callM (.int .i64 ((boundF z (mo : Int) 6).1 : Int)) 0 (b := b) (ob := .cells (inC z) 102 (0,0)) (.cells (inC ((boundF z (mo : Int) 6).2)) 102 (0,0)) rfl Tryz.func57 rfl rfl kr kr (fun w1 h => wCount b z (mo : Int) w1 (h.own (b,_) (mG 0 rfl)) om)) ?_
 refine Ld 1 [0,2,7,11,12] ?_
 refine Cfg.loop rfl (ι := Nat × IN × List (List UInt8) × K.Own) (fun (xz : Nat × IN × List (List UInt8) × K.Own) => match xz with | (i,y,acc,own) => [(12,[],iN i),(11,[],.int .i64 ((boundF z (mo : Int) 6).1 : Int)),(7,[],.slice (Own.a own) acc.length (Own.c own)),(0,[],pT b),(2,[],.func (.func 27) #[] #[])]) (fun (xz : Nat × IN × List (List UInt8) × K.Own) => match xz with | (i,y,acc,own) => ([(b,.cells (inC y) 102 (0,0))] ++ (Own.o 30 (acc.flatMap dgc) own ++ []))) (fun (xz : Nat × IN × List (List UInt8) × K.Own) => match xz with | (i,y,acc,own) => (RowAt digF (boundF z (mo : Int) 6).1 (boundF z (mo : Int) 6).2 i y acc) ∧ (OwnOk own 32 acc.length (acc.flatMap dgc))) (fun (xz : Nat × IN × List (List UInt8) × K.Own) => match xz with | (i,y,acc,own) => (boundF z (mo : Int) 6).1 - i) (0,(boundF z (mo : Int) 6).2,[],none) ?_ (Conv.mk kr) slr ?_
 ·exact ⟨RowAt.start _ _ _,OwnOk.none _⟩
 ·rintro ⟨i,y,acc,own⟩ ⟨hra,hok⟩
  have hal := hra.len
  have hle := hra.le
  refine Rq [0,2,7,11,12,13] ?_
  refine Cfg.cond rfl (b := (decide ((i : Int) < ((boundF z (mo : Int) 6).1 : Int)))) kr (fun c1r => ?_) (fun c1r => ?_)
  ·have c1 := (dT c1r)
   refine Cfg.begL rfl ?_
   refine Lq 2 [0,2,7,11,12,14,15] ?_
   refine Lu (Eff.callMV (.agg (bv (digF y).1)) 0 (b := b) (ob := .cells (inC y) 102 (0,0)) (.cells (inC (digF y).2) 102 (0,0)) rfl kr Tryz.func27 rfl rfl kr kr (fun w1 h => wTDigest b y w1 (h.own (b,_) (mG 0 rfl)))) ?_
   refine Le (Eff.alloc (z := (.agg (bv (List.replicate 32 0)))) rfl kr) ?_
   rintro xb ⟨hxb,nxb⟩
   refine Lu (Eff.storeN (b := xb) (off := 0) (vs := (bv (digF y).1)) (n := 32) rfl kr kr kr ((bv_size _).trans (dig32_len _)) (all_bv _) 0 (cs := (bv (List.replicate 32 0))) (e := 30) kr (by show 0 + 32 ≤ 32; decide)) ?_
   refine CfgL.setO (congrArg (fun (xq : Array Value) => (([(xb,.cells xq 30 (0,0)),(b,.cells (inC ((digF y).2)) 102 (0,0))] ++ (Own.o 30 (acc.flatMap dgc) own ++ [])) : LO)) (show _ = (bv (digF y).1) from spl_all (by rw [bv_size]; exact (dig32_len _).trans rfl))) ?_
   refine CfgL.done rfl ?_
   refine Cg (Γ' := [(8,[],pT xb),(12,[],iN i),(11,[],.int .i64 ((boundF z (mo : Int) 6).1 : Int)),(7,[],.slice (Own.a own) acc.length (Own.c own)),(0,[],pT b),(2,[],.func (.func 27) #[] #[])]) ?_
   refine Cfg.begL rfl ?_
   refine Lp 1 [] none n0 trivial ?_
   refine Lu (Eff.callA (.int .i64 (((digF y).2).er)) rfl Tryz.func58 rfl rfl kr (fun w1 h => wErr b ((digF y).2) w1 (h.own (b,_) (mG 1 rfl)))) ?_
   refine Ld 1 [0,2,7,8,11,12,19] ?_
   refine Cfg.cond rfl (b := ((((digF y).2).er) != (0 : Int))) kr (fun c2r => ?_) (fun c2r => ?_)
   ·have c2 := (bne_iff_ne.1 c2r)
    refine Rq [6] ?_
    refine Cfg.ret rfl (rs := [.tmp 6]) rfl [.slice none 0 0] ⟨kr,trivial⟩ (fun w1 hp => ?_)
    have hx : (rowsT digF z (mo : Int)) = ([],(digF y).2) := hra.fail om c2
    rw [hx]
    exact ⟨none,OwnOk.none _,rfl,_,hp.sub (.cons _ (.cons_cons _ (List.nil_sublist _)))⟩
   ·have c2 := (bne_eq_false_iff_eq.1 c2r)
    refine Cfg.begL rfl ?_
    refine Lp 2 [dZ,(dS (.agg (bv (digF y).1)))] (some [0,2,7,11,12,20,21]) (fun S => [(∀ w1,S w1 → (loadVar 30 ⟨xb,0,none⟩).run Tryz.prog w1 = .ok (.agg (bv (digF y).1)) w1)]) ⟨(fun w1 h => h.oload 0 rfl Tryz.underlying30 rfl (n := 32) kr ((bv_size _).trans (dig32_len _))),trivial⟩ ?_
    refine Le (Eff.buildAgg (vs := (bv (digF y).1)) (n := 32) rfl kr Tryz.underlying31 kr (z := (.agg (bv (List.replicate 32 0)))) kr ((bv_size _).trans (dig32_len _)) (by decide) (by decide)) ?_
    rintro bk2 ⟨hbk2,nbk2⟩
    refine Le (Eff.appendF rfl 32 32 Tryz.underlying31 kr (z := (.agg (bv (List.replicate 32 0)))) kr kr own (xs := (acc.flatMap dgc)) hok kr (b2 := bk2) (off2 := 0) (m := 1) (c2 := 1) kr (dgc (digF y).1) (dgc_len (dig32_len _)) (all_dgc _) [(bk2,.cells (bv (digF y).1) 30 (0,0)),(xb,.cells (bv (digF y).1) 30 (0,0)),(b,.cells (inC ((digF y).2)) 102 (0,0))] [] (by rfl) (fun w1 h j v hj => src_arr h 0 rfl hj) om om) ?_
    rintro o4 ko4
    refine Ld 1 [0,2,7,11,12] ?_
    refine Rg [0,2,7,11,12] [] (fun _ => [(i6 ((i : Int) + 1))]) ⟨om,trivial⟩ ?_
    have hra2 := hra.next om c2
    have hrv : (acc ++ [(digF y).1]).flatMap dgc = acc.flatMap dgc ++ dgc (digF y).1 := fm_snoc _ _
    refine Cfg.setO (congrArg (fun (xq : List Value) => (([(bk2,.cells (bv (digF y).1) 30 (0,0)),(xb,.cells (bv (digF y).1) 30 (0,0)),(b,.cells (inC ((digF y).2)) 102 (0,0))] ++ (Own.o 30 xq o4 ++ [])) : LO)) (show _ = ((acc ++ [(digF y).1]).flatMap dgc) from by rw [hrv])) ?_
    refine Cfg.setS 7 (congrArg (fun (xq : Nat) => (.slice (Own.a o4) xq (Own.c o4) : Value)) (show ((acc.length + 1)) = ((acc ++ [(digF y).1]).length) from by rw [List.length_append]; rfl)) ?_
    refine Cfg.again rfl (i + 1,(digF y).2,(acc ++ [(digF y).1]),o4) ⟨hra2,by rw [hrv,List.length_append]; exact ko4⟩ (by show (boundF z (mo : Int) 6).1 - (i + 1) < (boundF z (mo : Int) 6).1 - i; omega) (Conv.mk kr) (.cons _ (.cons _ slr))
  ·have c1 := (dF c1r)
   refine Rq [6] ?_
   refine Cfg.ret rfl (rs := [.tmp 6]) rfl [.slice (Own.a own) acc.length (Own.c own)] ⟨kr,trivial⟩ (fun w1 hp => ?_)
   have hi2 : i = (boundF z (mo : Int) 6).1 := by omega
   have hx : (rowsT digF z (mo : Int)) = (acc,y) := (hi2 ▸ hra).done
   rw [hx]
   have h9 : HP w [b] [] ([(b,Obj.cells (inC y) 102 (0,0))] ++ (Own.o 30 (acc.flatMap dgc) own ++ [])) w1 := hp.sub slr
   rw [List.append_nil] at h9
   exact ⟨own,hok,rfl,_,h9⟩
end Go.Proofs.YtbeeelgfhfmgbaaGreatDoor
namespace Go.Proofs.YtbeeelgfhfmgbaaGreatDoor
open K
set_option linter.unusedVariables false
abbrev RO := K.Own × List Nat
def rowOf (p : RO) : RowU := ⟨Own.a p.1,Own.c p.1,p.2⟩
def innR : List RO → List (Nat × Obj)
 | [] => []
 | p :: qs => Own.o 73 (p.2.flatMap u32c) p.1 ++ innR qs
theorem innR_mem {p : RO} : ∀ {qs : List RO},p ∈ qs → ∀ e ∈ Own.o 73 (p.2.flatMap u32c) p.1,e ∈ innR qs
 | q :: qs,h,e,he => by
  rw [innR]
  rcases List.mem_cons.1 h with rfl | h
  ·exact mL he
  ·exact mR (innR_mem h e he)
structure MQ where
 o1 : K.Own
 o2 : K.Own
 o3 : K.Own
 qs : List RO
abbrev rowsQ (qs : List RO) : List RowU := qs.reverse.map rowOf
def MQ.m (q : MQ) (z : IN) : MM := ⟨Own.a q.o1,Own.c q.o1,(tmV z).1,Own.a q.o2,Own.c q.o2,(tmE z).1,Own.a q.o3,Own.c q.o3,rowsQ q.qs⟩
def MQ.mem (q : MQ) (z : IN) : List (Nat × Obj) := Own.o 22 ((rowsQ q.qs).flatMap rowc) q.o3 ++ (innR q.qs ++ (Own.o 76 ((tmE z).1.flatMap edc) q.o2 ++ Own.o 73 ((tmV z).1.flatMap u32c) q.o1))
structure MQ.Ok (q : MQ) (z : IN) : Prop where
 h1 : OwnOk q.o1 1 (tmV z).1.length ((tmV z).1.flatMap u32c)
 h2 : OwnOk q.o2 3 (tmE z).1.length ((tmE z).1.flatMap edc)
 h3 : OwnOk q.o3 1 (rowsQ q.qs).length ((rowsQ q.qs).flatMap rowc)
 hq : ∀ p ∈ q.qs,OwnOk p.1 1 p.2.length (p.2.flatMap u32c) ∧ p.2.length ≤ 320
 hr : q.qs.reverse.map Prod.snd = (tmR z).1
theorem rowsQ_xs (qs : List RO) : (rowsQ qs).map RowU.xs = qs.reverse.map Prod.snd := by
 unfold rowsQ; rw [List.map_map]; rfl
theorem takeRs_len : ∀ (k : Nat) (z : IN),(takeRs k z).1.length = k
 | 0,_ => rfl
 | k + 1,z => by rw [takeRs,List.length_cons,takeRs_len k]
theorem MQ.Ok.inM {q : MQ} {z : IN} (h : q.Ok z) : InM (q.mem z) (q.m z) := by
 have l1 : (tmV z).1.length ≤ 64 := rowsG_len z 64
 have l2 : (tmE z).1.length ≤ 160 := rowsG_len _ 160
 have l3 : (rowsQ q.qs).length = (tmV z).1.length := by
  have h1 := congrArg List.length h.hr
  rw [List.length_map] at h1
  show ((q.qs.reverse).map rowOf).length = _
  rw [List.length_map,h1]; exact takeRs_len _ _
 unfold MQ.mem
 refine ⟨(own_inf h.h1).mono (fun e he => mR (mR (mR he))),(own_inf h.h2).mono (fun e he => mR (mR (mL he))),(own_inf h.h3).mono (fun e he => mL he),fun x hx => ?_,?_⟩
 ·obtain ⟨p,hp,rfl⟩ := List.mem_map.1 hx
  obtain ⟨a,b⟩ := h.hq p (List.mem_reverse.1 hp)
  exact ⟨(own_inf a).mono (fun e he => mR (mL (innR_mem (List.mem_reverse.1 hp) e he))),by show p.2.length ≤ _; omega⟩
 ·show (tmV z).1.length ≤ _ ∧ (tmE z).1.length ≤ _ ∧ (rowsQ q.qs).length ≤ _
  omega
theorem rowsQ_snoc (p : RO) (qs : List RO) : rowsQ (p :: qs) = rowsQ qs ++ [rowOf p] := by
 show ((p :: qs).reverse.map rowOf) = _
 rw [List.reverse_cons,List.map_append]; rfl
theorem take_go {n i : Nat} {y z : IN} {qs : List RO} (h : (qs.reverse.map Prod.snd ++ (takeRs (n - i) y).1,(takeRs (n - i) y).2) = takeRs n z) (hi : i < n) (o : K.Own) : (((o,(rowsT fourF y 320).1) :: qs).reverse.map Prod.snd ++ (takeRs (n - (i + 1)) (rowsT fourF y 320).2).1,(takeRs (n - (i + 1)) (rowsT fourF y 320).2).2) = takeRs n z := by
 obtain ⟨k,hk⟩ : ∃ k,n - i = k + 1 := ⟨n - i - 1,by omega⟩
 rw [hk,takeRs] at h
 rw [show n - (i + 1) = k by omega,← h,List.reverse_cons,List.map_append,List.append_assoc]
 rfl
set_option maxRecDepth 100000 in
set_option maxHeartbeats 8000000 in
theorem tkM (b : Nat) (z : IN) (w : World) (hB : w.heap[b]? = some (.cells (inC z) 102 (0,0))) :
  Calls Tryz.prog 26 #[.pointer (some ⟨b,0,none⟩)] w fun e w' => ∃ q : MQ,q.Ok z ∧ e = .returned (.agg (mc (q.m z)).toArray) ∧ ∃ R1,HP w [b] R1 ([(b,.cells (inC (tmR z).2) 102 (0,0))] ++ q.mem z) w' := by
 have hl1 : (tmV z).1.length ≤ 64 := rowsG_len z 64
 refine enter [b] [] [(b,.cells (inC z) 102 (0,0))] Tryz.func26 rfl kr (HP.startM (R := []) (fun _ h => by cases h) hB (by simp)) ?_
 refine Cfg.begL rfl ?_
 refine Le (Eff.alloc (z := (.agg #[.slice none 0 0,.slice none 0 0,.slice none 0 0])) rfl kr) ?_
 rintro rs ⟨hrs,nrs⟩
 refine CfgL.done rfl ?_
 refine Cfg.begL rfl ?_
 refine Le (Eff.alloc (z := (.agg #[.slice none 0 0,.slice none 0 0,.slice none 0 0])) rfl kr) ?_
 rintro mb ⟨hmb,nmb⟩
 refine CfgL.done rfl ?_
 refine Cfg.begL rfl ?_
 refine Lp 1 [] none n0 trivial ?_
 refine Le (Eff.callH (vs := [pT b,.int .i64 64,.func (.func 54) #[] #[]]) (fun o : K.Own => .slice (Own.a o) (tmV z).1.length (Own.c o)) [(b,.cells (inC z) 102 (0,0))] (fun o => [(b,.cells (inC (tmV z).2) 102 (0,0))] ++ Own.o 73 ((tmV z).1.flatMap u32c) o) (fun o => OwnOk o 1 (tmV z).1.length ((tmV z).1.flatMap u32c)) ([(mb,.cells #[.slice none 0 0,.slice none 0 0,.slice none 0 0] 28 (0,0)),(rs,.cells #[.slice none 0 0,.slice none 0 0,.slice none 0 0] 28 (0,0))]) ([]) (by rfl) rfl Tryz.func53 rfl rfl kr (fun w1 h hA1 hd1 => by have h9 := wRowsU b z 64 w1 (hA1 (b,_) mH) (by decide); rw [show ((64 : Nat) : Int) = 64 from rfl] at h9; exact h9)) ?_
 rintro o1 ko1
 refine Lq 2 [0,2,3,5,7] ?_
 refine Lu (Eff.store1 (b := mb) (off := 0) (v := .slice (Own.a o1) ((tmV z).1.length) (Own.c o1)) rfl kr kr rfl kr 0 (cs := #[.slice none 0 0,.slice none 0 0,.slice none 0 0]) (e := 28) kr (by show 0 < 3; decide)) ?_
 refine CfgL.done rfl ?_
 refine Cg (Γ' := [(3,[],pT mb),(2,[],pT rs),(0,[],pT b)]) ?_
 refine Cfg.begL rfl ?_
 refine Lp 1 [] none n0 trivial ?_
 refine Le (Eff.callH (vs := [pT b,.int .i64 160,.func (.func 56) #[] #[]]) (fun o : K.Own => .slice (Own.a o) (tmE z).1.length (Own.c o)) [(b,.cells (inC (tmV z).2) 102 (0,0))] (fun o => [(b,.cells (inC (tmE z).2) 102 (0,0))] ++ Own.o 76 ((tmE z).1.flatMap edc) o) (fun o => OwnOk o 3 (tmE z).1.length ((tmE z).1.flatMap edc)) ([(mb,.cells (#[.slice none 0 0,.slice none 0 0,.slice none 0 0].setIfInBounds 0 (.slice (Own.a o1) ((tmV z).1.length) (Own.c o1))) 28 (0,0)),(rs,.cells #[.slice none 0 0,.slice none 0 0,.slice none 0 0] 28 (0,0))]) ((Own.o 73 ((tmV z).1.flatMap u32c) o1 ++ [])) (by rfl) rfl Tryz.func55 rfl rfl kr (fun w1 h hA1 hd1 => by have h9 := wRowsE b (tmV z).2 160 w1 (hA1 (b,_) mH) (by decide); rw [show ((160 : Nat) : Int) = 160 from rfl] at h9; exact h9)) ?_
 rintro o2 ko2
 refine Lq 2 [0,2,3,9,11] ?_
 refine Lu (Eff.store1 (b := mb) (off := 1) (v := .slice (Own.a o2) ((tmE z).1.length) (Own.c o2)) rfl kr kr rfl kr 0 (cs := (#[.slice none 0 0,.slice none 0 0,.slice none 0 0].setIfInBounds 0 (.slice (Own.a o1) ((tmV z).1.length) (Own.c o1)))) (e := 28) kr (by show 1 < 3; decide)) ?_
 refine CfgL.done rfl ?_
 refine Cg (Γ' := [(3,[],pT mb),(2,[],pT rs),(0,[],pT b)]) ?_
 refine Cfg.setO (congrArg (fun (xq : Array Value) => (([(mb,.cells xq 28 (0,0)),(rs,.cells #[.slice none 0 0,.slice none 0 0,.slice none 0 0] 28 (0,0)),(b,.cells (inC ((tmE z).2)) 102 (0,0))] ++ (Own.o 76 ((tmE z).1.flatMap edc) o2 ++ (Own.o 73 ((tmV z).1.flatMap u32c) o1 ++ []))) : LO)) (show _ = #[.slice (Own.a o1) ((tmV z).1.length) (Own.c o1),.slice (Own.a o2) ((tmE z).1.length) (Own.c o2),.slice none 0 0] from rfl)) ?_
 refine Rg [0,2,3,15,16] [dZ,dZ,(dS (.slice (Own.a o1) ((tmV z).1.length) (Own.c o1)))] (fun S => [(cE S mb 0 (.slice (Own.a o1) ((tmV z).1.length) (Own.c o1)))]) ⟨(oC 0 rfl rfl),trivial⟩ ?_
 refine Cfg.loop rfl (ι := Nat × IN × List RO × K.Own) (fun (xz : Nat × IN × List RO × K.Own) => match xz with | (i,y,qs,o3) => [(16,[],iN i),(15,[],.int .i64 ((tmV z).1.length : Int)),(3,[],pT mb),(2,[],pT rs),(0,[],pT b)]) (fun (xz : Nat × IN × List RO × K.Own) => match xz with | (i,y,qs,o3) => ([(mb,.cells #[.slice (Own.a o1) ((tmV z).1.length) (Own.c o1),.slice (Own.a o2) ((tmE z).1.length) (Own.c o2),.slice (Own.a o3) ((rowsQ qs).length) (Own.c o3)] 28 (0,0)),(rs,.cells #[.slice none 0 0,.slice none 0 0,.slice none 0 0] 28 (0,0)),(b,.cells (inC y) 102 (0,0))] ++ (Own.o 22 ((rowsQ qs).flatMap rowc) o3 ++ (innR qs ++ (Own.o 76 ((tmE z).1.flatMap edc) o2 ++ (Own.o 73 ((tmV z).1.flatMap u32c) o1 ++ [])))))) (fun (xz : Nat × IN × List RO × K.Own) => match xz with | (i,y,qs,o3) => (i ≤ (tmV z).1.length) ∧ ((rowsQ qs).length = i) ∧ (OwnOk o3 1 (rowsQ qs).length ((rowsQ qs).flatMap rowc)) ∧ (∀ p ∈ qs,OwnOk p.1 1 p.2.length (p.2.flatMap u32c) ∧ p.2.length ≤ 320) ∧ ((qs.reverse.map Prod.snd ++ (takeRs ((tmV z).1.length - i) y).1,(takeRs ((tmV z).1.length - i) y).2) = takeRs (tmV z).1.length (tmE z).2)) (fun (xz : Nat × IN × List RO × K.Own) => match xz with | (i,y,qs,o3) => (tmV z).1.length - i) (0,(tmE z).2,[],none) ?_ (Conv.mk kr) slr ?_
 ·exact ⟨Nat.zero_le _,rfl,OwnOk.none _,(fun p hp9 => by cases hp9),rfl⟩
 ·rintro ⟨i,y,qs,o3⟩ ⟨hi,hql,h3,hqs,hra⟩
  refine Rq [0,2,3,15,16,17] ?_
  refine Cfg.cond rfl (b := (decide ((i : Int) < ((tmV z).1.length : Int)))) kr (fun c1r => ?_) (fun c1r => ?_)
  ·have c1 := (dT c1r)
   refine Cfg.begA rfl kr [(rs,.cells #[.slice none 0 0,.slice none 0 0,.slice none 0 0] 28 (0,0))] ?_
   refine Ap [0,2] [] (some [0,2,3,15,16,18,20]) (bF 5 8) (.cons _ (.cons_cons _ (.cons _ (List.nil_sublist _)))) 6 n0 trivial ?_
   refine CfgA.two 1 3 kr (fuel' := 5) rfl ?_ ?_
   ·
    refine Iu rfl  (Eff.quiet (raw := false) (orc := some (.slice (Own.a o3) ((rowsQ qs).length) (Own.c o3))) (v := .slice (Own.a o3) ((rowsQ qs).length) (Own.c o3)) (nd := (fun S => [(cE S mb 2 (.slice (Own.a o3) ((rowsQ qs).length) (Own.c o3)))])) (fun _ => kr) ⟨(oC 0 rfl rfl),trivial⟩ kr) (fun _ _ => (.cons _ (.cons_cons _ (.cons _ (List.nil_sublist _))))) ?_
    refine Ae 3 rfl 4  (Eff.callH (vs := [pT b,.int .i64 320,.func (.func 54) #[] #[]]) (fun o : K.Own => .slice (Own.a o) (rowsT fourF y 320).1.length (Own.c o)) [(b,.cells (inC y) 102 (0,0))] (fun o => [(b,.cells (inC (rowsT fourF y 320).2) 102 (0,0))] ++ Own.o 73 ((rowsT fourF y 320).1.flatMap u32c) o) (fun o => OwnOk o 1 (rowsT fourF y 320).1.length ((rowsT fourF y 320).1.flatMap u32c)) ([(mb,.cells #[.slice (Own.a o1) ((tmV z).1.length) (Own.c o1),.slice (Own.a o2) ((tmE z).1.length) (Own.c o2),.slice (Own.a o3) ((rowsQ qs).length) (Own.c o3)] 28 (0,0)),(rs,.cells #[.slice none 0 0,.slice none 0 0,.slice none 0 0] 28 (0,0))]) ((Own.o 22 ((rowsQ qs).flatMap rowc) o3 ++ (innR qs ++ (Own.o 76 ((tmE z).1.flatMap edc) o2 ++ (Own.o 73 ((tmV z).1.flatMap u32c) o1 ++ []))))) (by rfl) rfl Tryz.func53 rfl rfl kr (fun w1 h hA1 hd1 => by have h9 := wRowsU b y 320 w1 (hA1 (b,_) mH) (by decide); rw [show ((320 : Nat) : Int) = 320 from rfl] at h9; exact h9)) (fun _ _ => (.cons _ (.cons_cons _ (.cons _ (List.nil_sublist _))))) ?_
    rintro oq koq
    refine Ae 4 rfl 3  (Eff.buildSlice (e := 22) (cells := #[.slice (Own.a oq) ((rowsT fourF y 320).1.length) (Own.c oq)]) (parts := #[(0,.slice (Own.a oq) ((rowsT fourF y 320).1.length) (Own.c oq))]) rfl kr (fun _ => kr)) (fun _ _ => (.cons _ (.cons _ (.cons_cons _ (.cons _ (List.nil_sublist _)))))) ?_
    rintro x22 ⟨hx22,nx22⟩
    refine Ae 5 rfl 2  (Eff.appendF rfl 1 24 Tryz.underlying26 kr (z := (.slice none 0 0)) kr kr o3 (xs := ((rowsQ qs).flatMap rowc)) h3 kr (b2 := x22) (off2 := 0) (m := 1) (c2 := 1) kr (rowc (rowOf (oq,(rowsT fourF y 320).1))) rfl (by intro q hq; rw [List.mem_singleton.1 hq]; rfl) ([(x22,.cells #[.slice (Own.a oq) ((rowsT fourF y 320).1.length) (Own.c oq)] 22 (0,0)),(mb,.cells #[.slice (Own.a o1) ((tmV z).1.length) (Own.c o1),.slice (Own.a o2) ((tmE z).1.length) (Own.c o2),.slice (Own.a o3) ((rowsQ qs).length) (Own.c o3)] 28 (0,0)),(rs,.cells #[.slice none 0 0,.slice none 0 0,.slice none 0 0] 28 (0,0)),(b,.cells (inC ((rowsT fourF y 320).2)) 102 (0,0))] ++ Own.o 73 ((rowsT fourF y 320).1.flatMap u32c) oq) (innR qs ++ (Own.o 76 ((tmE z).1.flatMap edc) o2 ++ (Own.o 73 ((tmV z).1.flatMap u32c) o1 ++ []))) (by rfl) (fun w1 h j v hj => src_arr h 0 rfl hj) om om) (fun _ _ => (.cons _ (.cons _ (.cons_cons _ (.cons _ (List.nil_sublist _)))))) ?_
    rintro o4 ko4
    refine Ap [6] [] (some [0,2,3,15,16,23,24]) (tF 7 1) (.cons _ (.cons _ (.cons_cons _ (.cons _ (List.nil_sublist _))))) 1 n0 trivial ?_
    refine Au 7 rfl 0  (Eff.store1 (b := mb) (off := 2) (v := .slice (Own.a o4) (((rowsQ qs).length + 1)) (Own.c o4)) rfl kr kr rfl kr 1 (cs := #[.slice (Own.a o1) ((tmV z).1.length) (Own.c o1),.slice (Own.a o2) ((tmE z).1.length) (Own.c o2),.slice (Own.a o3) ((rowsQ qs).length) (Own.c o3)]) (e := 28) kr (by show 2 < 3; decide)) (fun _ _ => (.cons _ (.cons _ (.cons_cons _ (.cons _ (List.nil_sublist _)))))) ?_
    refine CfgA.done kr ?_
    refine Cg (Γ' := [(16,[],iN i),(15,[],.int .i64 ((tmV z).1.length : Int)),(3,[],pT mb),(2,[],pT rs),(0,[],pT b)]) ?_
    refine Rg [0,2,3,15,16] [] (fun _ => [(i6 ((i : Int) + 1))]) ⟨om,trivial⟩ ?_
    have hq9 := take_go hra om oq
    have hsn := rowsQ_snoc (oq,(rowsT fourF y 320).1) qs
    have hsl : (rowsQ ((oq,(rowsT fourF y 320).1) :: qs)).length = (rowsQ qs).length + 1 := by rw [hsn,List.length_append]; rfl
    have hsf : (rowsQ ((oq,(rowsT fourF y 320).1) :: qs)).flatMap rowc = (((rowsQ qs).flatMap rowc) ++ (rowc (rowOf (oq,(rowsT fourF y 320).1)))) := by rw [hsn]; exact fm_snoc _ _
    refine Cfg.setO (congrArg (fun (xq : Array Value) => (([(x22,.cells #[.slice (Own.a oq) ((rowsT fourF y 320).1.length) (Own.c oq)] 22 (0,0)),(mb,.cells xq 28 (0,0)),(rs,.cells #[.slice none 0 0,.slice none 0 0,.slice none 0 0] 28 (0,0)),(b,.cells (inC ((rowsT fourF y 320).2)) 102 (0,0))] ++ (Own.o 73 ((rowsT fourF y 320).1.flatMap u32c) oq ++ (Own.o 22 (((rowsQ qs).flatMap rowc) ++ (rowc (rowOf (oq,(rowsT fourF y 320).1)))) o4 ++ (innR qs ++ (Own.o 76 ((tmE z).1.flatMap edc) o2 ++ (Own.o 73 ((tmV z).1.flatMap u32c) o1 ++ [])))))) : LO)) (show _ = #[.slice (Own.a o1) ((tmV z).1.length) (Own.c o1),.slice (Own.a o2) ((tmE z).1.length) (Own.c o2),.slice (Own.a o4) ((rowsQ ((oq,(rowsT fourF y 320).1) :: qs)).length) (Own.c o4)] from by rw [hsl]; rfl)) ?_
    refine Cfg.setO (congrArg (fun (xq : List Value) => (([(x22,.cells #[.slice (Own.a oq) ((rowsT fourF y 320).1.length) (Own.c oq)] 22 (0,0)),(mb,.cells #[.slice (Own.a o1) ((tmV z).1.length) (Own.c o1),.slice (Own.a o2) ((tmE z).1.length) (Own.c o2),.slice (Own.a o4) ((rowsQ ((oq,(rowsT fourF y 320).1) :: qs)).length) (Own.c o4)] 28 (0,0)),(rs,.cells #[.slice none 0 0,.slice none 0 0,.slice none 0 0] 28 (0,0)),(b,.cells (inC ((rowsT fourF y 320).2)) 102 (0,0))] ++ (Own.o 73 ((rowsT fourF y 320).1.flatMap u32c) oq ++ (Own.o 22 xq o4 ++ (innR qs ++ (Own.o 76 ((tmE z).1.flatMap edc) o2 ++ (Own.o 73 ((tmV z).1.flatMap u32c) o1 ++ [])))))) : LO)) (show _ = ((rowsQ ((oq,(rowsT fourF y 320).1) :: qs)).flatMap rowc) from hsf.symm)) ?_
    refine Cfg.permO (O' := ([(x22,.cells #[.slice (Own.a oq) ((rowsT fourF y 320).1.length) (Own.c oq)] 22 (0,0)),(mb,.cells #[.slice (Own.a o1) ((tmV z).1.length) (Own.c o1),.slice (Own.a o2) ((tmE z).1.length) (Own.c o2),.slice (Own.a o4) ((rowsQ ((oq,(rowsT fourF y 320).1) :: qs)).length) (Own.c o4)] 28 (0,0)),(rs,.cells #[.slice none 0 0,.slice none 0 0,.slice none 0 0] 28 (0,0)),(b,.cells (inC ((rowsT fourF y 320).2)) 102 (0,0))] ++ (Own.o 22 ((rowsQ ((oq,(rowsT fourF y 320).1) :: qs)).flatMap rowc) o4 ++ (innR ((oq,(rowsT fourF y 320).1) :: qs) ++ (Own.o 76 ((tmE z).1.flatMap edc) o2 ++ (Own.o 73 ((tmV z).1.flatMap u32c) o1 ++ [])))))) (by exact (List.Perm.append_left _ ((List.perm_append_comm_assoc _ _ _).trans (List.Perm.of_eq (by rw [innR,List.append_assoc]))))) ?_
    refine Cfg.again rfl (i + 1,(rowsT fourF y 320).2,((oq,(rowsT fourF y 320).1) :: qs),o4) ⟨by omega,by rw [hsl]; omega,by rw [hsl,hsf]; exact ko4,(fun p hp9 => (List.mem_cons.1 hp9).elim (fun h9 => by rw [h9]; exact ⟨koq,rowsG_len y 320⟩) (hqs p)),hq9⟩ (by show (tmV z).1.length - (i + 1) < (tmV z).1.length - i; omega) (Conv.mk kr) (.cons _ slr)
   ·
    refine Ie rfl  (Eff.callH (vs := [pT b,.int .i64 320,.func (.func 54) #[] #[]]) (fun o : K.Own => .slice (Own.a o) (rowsT fourF y 320).1.length (Own.c o)) [(b,.cells (inC y) 102 (0,0))] (fun o => [(b,.cells (inC (rowsT fourF y 320).2) 102 (0,0))] ++ Own.o 73 ((rowsT fourF y 320).1.flatMap u32c) o) (fun o => OwnOk o 1 (rowsT fourF y 320).1.length ((rowsT fourF y 320).1.flatMap u32c)) ([(mb,.cells #[.slice (Own.a o1) ((tmV z).1.length) (Own.c o1),.slice (Own.a o2) ((tmE z).1.length) (Own.c o2),.slice (Own.a o3) ((rowsQ qs).length) (Own.c o3)] 28 (0,0)),(rs,.cells #[.slice none 0 0,.slice none 0 0,.slice none 0 0] 28 (0,0))]) ((Own.o 22 ((rowsQ qs).flatMap rowc) o3 ++ (innR qs ++ (Own.o 76 ((tmE z).1.flatMap edc) o2 ++ (Own.o 73 ((tmV z).1.flatMap u32c) o1 ++ []))))) (by rfl) rfl Tryz.func53 rfl rfl kr (fun w1 h hA1 hd1 => by have h9 := wRowsU b y 320 w1 (hA1 (b,_) mH) (by decide); rw [show ((320 : Nat) : Int) = 320 from rfl] at h9; exact h9)) (fun _ _ => (.cons _ (.cons_cons _ (.cons _ (List.nil_sublist _))))) ?_
    rintro oq koq
    refine CfgA.two 1 4 kr (fuel' := 4) rfl ?_ ?_
    ·
     refine Iu rfl  (Eff.quiet (raw := false) (orc := some (.slice (Own.a o3) ((rowsQ qs).length) (Own.c o3))) (v := .slice (Own.a o3) ((rowsQ qs).length) (Own.c o3)) (nd := (fun S => [(cE S mb 2 (.slice (Own.a o3) ((rowsQ qs).length) (Own.c o3)))])) (fun _ => kr) ⟨(oC 0 rfl rfl),trivial⟩ kr) (fun _ _ => (.cons _ (.cons_cons _ (.cons _ (List.nil_sublist _))))) ?_
     refine Ae 4 rfl 3  (Eff.buildSlice (e := 22) (cells := #[.slice (Own.a oq) ((rowsT fourF y 320).1.length) (Own.c oq)]) (parts := #[(0,.slice (Own.a oq) ((rowsT fourF y 320).1.length) (Own.c oq))]) rfl kr (fun _ => kr)) (fun _ _ => (.cons _ (.cons _ (.cons_cons _ (.cons _ (List.nil_sublist _)))))) ?_
     rintro x22 ⟨hx22,nx22⟩
     refine Ae 5 rfl 2  (Eff.appendF rfl 1 24 Tryz.underlying26 kr (z := (.slice none 0 0)) kr kr o3 (xs := ((rowsQ qs).flatMap rowc)) h3 kr (b2 := x22) (off2 := 0) (m := 1) (c2 := 1) kr (rowc (rowOf (oq,(rowsT fourF y 320).1))) rfl (by intro q hq; rw [List.mem_singleton.1 hq]; rfl) ([(x22,.cells #[.slice (Own.a oq) ((rowsT fourF y 320).1.length) (Own.c oq)] 22 (0,0)),(mb,.cells #[.slice (Own.a o1) ((tmV z).1.length) (Own.c o1),.slice (Own.a o2) ((tmE z).1.length) (Own.c o2),.slice (Own.a o3) ((rowsQ qs).length) (Own.c o3)] 28 (0,0)),(rs,.cells #[.slice none 0 0,.slice none 0 0,.slice none 0 0] 28 (0,0)),(b,.cells (inC ((rowsT fourF y 320).2)) 102 (0,0))] ++ Own.o 73 ((rowsT fourF y 320).1.flatMap u32c) oq) (innR qs ++ (Own.o 76 ((tmE z).1.flatMap edc) o2 ++ (Own.o 73 ((tmV z).1.flatMap u32c) o1 ++ []))) (by rfl) (fun w1 h j v hj => src_arr h 0 rfl hj) om om) (fun _ _ => (.cons _ (.cons _ (.cons_cons _ (.cons _ (List.nil_sublist _)))))) ?_
     rintro o6 ko6
     refine Ap [6] [] (some [0,2,3,15,16,23,24]) (tF 7 1) (.cons _ (.cons _ (.cons_cons _ (.cons _ (List.nil_sublist _))))) 1 n0 trivial ?_
     refine Au 7 rfl 0  (Eff.store1 (b := mb) (off := 2) (v := .slice (Own.a o6) (((rowsQ qs).length + 1)) (Own.c o6)) rfl kr kr rfl kr 1 (cs := #[.slice (Own.a o1) ((tmV z).1.length) (Own.c o1),.slice (Own.a o2) ((tmE z).1.length) (Own.c o2),.slice (Own.a o3) ((rowsQ qs).length) (Own.c o3)]) (e := 28) kr (by show 2 < 3; decide)) (fun _ _ => (.cons _ (.cons _ (.cons_cons _ (.cons _ (List.nil_sublist _)))))) ?_
     refine CfgA.done kr ?_
     refine Cg (Γ' := [(16,[],iN i),(15,[],.int .i64 ((tmV z).1.length : Int)),(3,[],pT mb),(2,[],pT rs),(0,[],pT b)]) ?_
     refine Rg [0,2,3,15,16] [] (fun _ => [(i6 ((i : Int) + 1))]) ⟨om,trivial⟩ ?_
     have hq9 := take_go hra om oq
     have hsn := rowsQ_snoc (oq,(rowsT fourF y 320).1) qs
     have hsl : (rowsQ ((oq,(rowsT fourF y 320).1) :: qs)).length = (rowsQ qs).length + 1 := by rw [hsn,List.length_append]; rfl
     have hsf : (rowsQ ((oq,(rowsT fourF y 320).1) :: qs)).flatMap rowc = (((rowsQ qs).flatMap rowc) ++ (rowc (rowOf (oq,(rowsT fourF y 320).1)))) := by rw [hsn]; exact fm_snoc _ _
     refine Cfg.setO (congrArg (fun (xq : Array Value) => (([(x22,.cells #[.slice (Own.a oq) ((rowsT fourF y 320).1.length) (Own.c oq)] 22 (0,0)),(mb,.cells xq 28 (0,0)),(rs,.cells #[.slice none 0 0,.slice none 0 0,.slice none 0 0] 28 (0,0)),(b,.cells (inC ((rowsT fourF y 320).2)) 102 (0,0))] ++ (Own.o 73 ((rowsT fourF y 320).1.flatMap u32c) oq ++ (Own.o 22 (((rowsQ qs).flatMap rowc) ++ (rowc (rowOf (oq,(rowsT fourF y 320).1)))) o6 ++ (innR qs ++ (Own.o 76 ((tmE z).1.flatMap edc) o2 ++ (Own.o 73 ((tmV z).1.flatMap u32c) o1 ++ [])))))) : LO)) (show _ = #[.slice (Own.a o1) ((tmV z).1.length) (Own.c o1),.slice (Own.a o2) ((tmE z).1.length) (Own.c o2),.slice (Own.a o6) ((rowsQ ((oq,(rowsT fourF y 320).1) :: qs)).length) (Own.c o6)] from by rw [hsl]; rfl)) ?_
     refine Cfg.setO (congrArg (fun (xq : List Value) => (([(x22,.cells #[.slice (Own.a oq) ((rowsT fourF y 320).1.length) (Own.c oq)] 22 (0,0)),(mb,.cells #[.slice (Own.a o1) ((tmV z).1.length) (Own.c o1),.slice (Own.a o2) ((tmE z).1.length) (Own.c o2),.slice (Own.a o6) ((rowsQ ((oq,(rowsT fourF y 320).1) :: qs)).length) (Own.c o6)] 28 (0,0)),(rs,.cells #[.slice none 0 0,.slice none 0 0,.slice none 0 0] 28 (0,0)),(b,.cells (inC ((rowsT fourF y 320).2)) 102 (0,0))] ++ (Own.o 73 ((rowsT fourF y 320).1.flatMap u32c) oq ++ (Own.o 22 xq o6 ++ (innR qs ++ (Own.o 76 ((tmE z).1.flatMap edc) o2 ++ (Own.o 73 ((tmV z).1.flatMap u32c) o1 ++ [])))))) : LO)) (show _ = ((rowsQ ((oq,(rowsT fourF y 320).1) :: qs)).flatMap rowc) from hsf.symm)) ?_
     refine Cfg.permO (O' := ([(x22,.cells #[.slice (Own.a oq) ((rowsT fourF y 320).1.length) (Own.c oq)] 22 (0,0)),(mb,.cells #[.slice (Own.a o1) ((tmV z).1.length) (Own.c o1),.slice (Own.a o2) ((tmE z).1.length) (Own.c o2),.slice (Own.a o6) ((rowsQ ((oq,(rowsT fourF y 320).1) :: qs)).length) (Own.c o6)] 28 (0,0)),(rs,.cells #[.slice none 0 0,.slice none 0 0,.slice none 0 0] 28 (0,0)),(b,.cells (inC ((rowsT fourF y 320).2)) 102 (0,0))] ++ (Own.o 22 ((rowsQ ((oq,(rowsT fourF y 320).1) :: qs)).flatMap rowc) o6 ++ (innR ((oq,(rowsT fourF y 320).1) :: qs) ++ (Own.o 76 ((tmE z).1.flatMap edc) o2 ++ (Own.o 73 ((tmV z).1.flatMap u32c) o1 ++ [])))))) (by exact (List.Perm.append_left _ ((List.perm_append_comm_assoc _ _ _).trans (List.Perm.of_eq (by rw [innR,List.append_assoc]))))) ?_
     refine Cfg.again rfl (i + 1,(rowsT fourF y 320).2,((oq,(rowsT fourF y 320).1) :: qs),o6) ⟨by omega,by rw [hsl]; omega,by rw [hsl,hsf]; exact ko6,(fun p hp9 => (List.mem_cons.1 hp9).elim (fun h9 => by rw [h9]; exact ⟨koq,rowsG_len y 320⟩) (hqs p)),hq9⟩ (by show (tmV z).1.length - (i + 1) < (tmV z).1.length - i; omega) (Conv.mk kr) (.cons _ slr)
    ·
     refine Ie rfl  (Eff.buildSlice (e := 22) (cells := #[.slice (Own.a oq) ((rowsT fourF y 320).1.length) (Own.c oq)]) (parts := #[(0,.slice (Own.a oq) ((rowsT fourF y 320).1.length) (Own.c oq))]) rfl kr (fun _ => kr)) (fun _ _ => (.cons _ (.cons _ (.cons_cons _ (.cons _ (List.nil_sublist _)))))) ?_
     rintro x22 ⟨hx22,nx22⟩
     refine Au 1 rfl 3  (Eff.quiet (raw := false) (orc := some (.slice (Own.a o3) ((rowsQ qs).length) (Own.c o3))) (v := .slice (Own.a o3) ((rowsQ qs).length) (Own.c o3)) (nd := (fun S => [(cE S mb 2 (.slice (Own.a o3) ((rowsQ qs).length) (Own.c o3)))])) (fun _ => kr) ⟨(oC 1 rfl rfl),trivial⟩ kr) (fun _ _ => (.cons _ (.cons _ (.cons_cons _ (.cons _ (List.nil_sublist _)))))) ?_
     refine Ae 5 rfl 2  (Eff.appendF rfl 1 24 Tryz.underlying26 kr (z := (.slice none 0 0)) kr kr o3 (xs := ((rowsQ qs).flatMap rowc)) h3 kr (b2 := x22) (off2 := 0) (m := 1) (c2 := 1) kr (rowc (rowOf (oq,(rowsT fourF y 320).1))) rfl (by intro q hq; rw [List.mem_singleton.1 hq]; rfl) ([(x22,.cells #[.slice (Own.a oq) ((rowsT fourF y 320).1.length) (Own.c oq)] 22 (0,0)),(mb,.cells #[.slice (Own.a o1) ((tmV z).1.length) (Own.c o1),.slice (Own.a o2) ((tmE z).1.length) (Own.c o2),.slice (Own.a o3) ((rowsQ qs).length) (Own.c o3)] 28 (0,0)),(rs,.cells #[.slice none 0 0,.slice none 0 0,.slice none 0 0] 28 (0,0)),(b,.cells (inC ((rowsT fourF y 320).2)) 102 (0,0))] ++ Own.o 73 ((rowsT fourF y 320).1.flatMap u32c) oq) (innR qs ++ (Own.o 76 ((tmE z).1.flatMap edc) o2 ++ (Own.o 73 ((tmV z).1.flatMap u32c) o1 ++ []))) (by rfl) (fun w1 h j v hj => src_arr h 0 rfl hj) om om) (fun _ _ => (.cons _ (.cons _ (.cons_cons _ (.cons _ (List.nil_sublist _)))))) ?_
     rintro o7 ko7
     refine Ap [6] [] (some [0,2,3,15,16,23,24]) (tF 7 1) (.cons _ (.cons _ (.cons_cons _ (.cons _ (List.nil_sublist _))))) 1 n0 trivial ?_
     refine Au 7 rfl 0  (Eff.store1 (b := mb) (off := 2) (v := .slice (Own.a o7) (((rowsQ qs).length + 1)) (Own.c o7)) rfl kr kr rfl kr 1 (cs := #[.slice (Own.a o1) ((tmV z).1.length) (Own.c o1),.slice (Own.a o2) ((tmE z).1.length) (Own.c o2),.slice (Own.a o3) ((rowsQ qs).length) (Own.c o3)]) (e := 28) kr (by show 2 < 3; decide)) (fun _ _ => (.cons _ (.cons _ (.cons_cons _ (.cons _ (List.nil_sublist _)))))) ?_
     refine CfgA.done kr ?_
     refine Cg (Γ' := [(16,[],iN i),(15,[],.int .i64 ((tmV z).1.length : Int)),(3,[],pT mb),(2,[],pT rs),(0,[],pT b)]) ?_
     refine Rg [0,2,3,15,16] [] (fun _ => [(i6 ((i : Int) + 1))]) ⟨om,trivial⟩ ?_
     have hq9 := take_go hra om oq
     have hsn := rowsQ_snoc (oq,(rowsT fourF y 320).1) qs
     have hsl : (rowsQ ((oq,(rowsT fourF y 320).1) :: qs)).length = (rowsQ qs).length + 1 := by rw [hsn,List.length_append]; rfl
     have hsf : (rowsQ ((oq,(rowsT fourF y 320).1) :: qs)).flatMap rowc = (((rowsQ qs).flatMap rowc) ++ (rowc (rowOf (oq,(rowsT fourF y 320).1)))) := by rw [hsn]; exact fm_snoc _ _
     refine Cfg.setO (congrArg (fun (xq : Array Value) => (([(x22,.cells #[.slice (Own.a oq) ((rowsT fourF y 320).1.length) (Own.c oq)] 22 (0,0)),(mb,.cells xq 28 (0,0)),(rs,.cells #[.slice none 0 0,.slice none 0 0,.slice none 0 0] 28 (0,0)),(b,.cells (inC ((rowsT fourF y 320).2)) 102 (0,0))] ++ (Own.o 73 ((rowsT fourF y 320).1.flatMap u32c) oq ++ (Own.o 22 (((rowsQ qs).flatMap rowc) ++ (rowc (rowOf (oq,(rowsT fourF y 320).1)))) o7 ++ (innR qs ++ (Own.o 76 ((tmE z).1.flatMap edc) o2 ++ (Own.o 73 ((tmV z).1.flatMap u32c) o1 ++ [])))))) : LO)) (show _ = #[.slice (Own.a o1) ((tmV z).1.length) (Own.c o1),.slice (Own.a o2) ((tmE z).1.length) (Own.c o2),.slice (Own.a o7) ((rowsQ ((oq,(rowsT fourF y 320).1) :: qs)).length) (Own.c o7)] from by rw [hsl]; rfl)) ?_
     refine Cfg.setO (congrArg (fun (xq : List Value) => (([(x22,.cells #[.slice (Own.a oq) ((rowsT fourF y 320).1.length) (Own.c oq)] 22 (0,0)),(mb,.cells #[.slice (Own.a o1) ((tmV z).1.length) (Own.c o1),.slice (Own.a o2) ((tmE z).1.length) (Own.c o2),.slice (Own.a o7) ((rowsQ ((oq,(rowsT fourF y 320).1) :: qs)).length) (Own.c o7)] 28 (0,0)),(rs,.cells #[.slice none 0 0,.slice none 0 0,.slice none 0 0] 28 (0,0)),(b,.cells (inC ((rowsT fourF y 320).2)) 102 (0,0))] ++ (Own.o 73 ((rowsT fourF y 320).1.flatMap u32c) oq ++ (Own.o 22 xq o7 ++ (innR qs ++ (Own.o 76 ((tmE z).1.flatMap edc) o2 ++ (Own.o 73 ((tmV z).1.flatMap u32c) o1 ++ [])))))) : LO)) (show _ = ((rowsQ ((oq,(rowsT fourF y 320).1) :: qs)).flatMap rowc) from hsf.symm)) ?_
     refine Cfg.permO (O' := ([(x22,.cells #[.slice (Own.a oq) ((rowsT fourF y 320).1.length) (Own.c oq)] 22 (0,0)),(mb,.cells #[.slice (Own.a o1) ((tmV z).1.length) (Own.c o1),.slice (Own.a o2) ((tmE z).1.length) (Own.c o2),.slice (Own.a o7) ((rowsQ ((oq,(rowsT fourF y 320).1) :: qs)).length) (Own.c o7)] 28 (0,0)),(rs,.cells #[.slice none 0 0,.slice none 0 0,.slice none 0 0] 28 (0,0)),(b,.cells (inC ((rowsT fourF y 320).2)) 102 (0,0))] ++ (Own.o 22 ((rowsQ ((oq,(rowsT fourF y 320).1) :: qs)).flatMap rowc) o7 ++ (innR ((oq,(rowsT fourF y 320).1) :: qs) ++ (Own.o 76 ((tmE z).1.flatMap edc) o2 ++ (Own.o 73 ((tmV z).1.flatMap u32c) o1 ++ [])))))) (by exact (List.Perm.append_left _ ((List.perm_append_comm_assoc _ _ _).trans (List.Perm.of_eq (by rw [innR,List.append_assoc]))))) ?_
     refine Cfg.again rfl (i + 1,(rowsT fourF y 320).2,((oq,(rowsT fourF y 320).1) :: qs),o7) ⟨by omega,by rw [hsl]; omega,by rw [hsl,hsf]; exact ko7,(fun p hp9 => (List.mem_cons.1 hp9).elim (fun h9 => by rw [h9]; exact ⟨koq,rowsG_len y 320⟩) (hqs p)),hq9⟩ (by show (tmV z).1.length - (i + 1) < (tmV z).1.length - i; omega) (Conv.mk kr) (.cons _ slr)
  ·have c1 := (dF c1r)
   refine Cfg.begL rfl ?_
   refine Lp 1 [(dS (.agg #[.slice (Own.a o1) ((tmV z).1.length) (Own.c o1),.slice (Own.a o2) ((tmE z).1.length) (Own.c o2),.slice (Own.a o3) ((rowsQ qs).length) (Own.c o3)]))] (some [2,26]) (fun S => [(∀ w1,S w1 → (loadVar 28 ⟨mb,0,none⟩).run Tryz.prog w1 = .ok (.agg #[.slice (Own.a o1) ((tmV z).1.length) (Own.c o1),.slice (Own.a o2) ((tmE z).1.length) (Own.c o2),.slice (Own.a o3) ((rowsQ qs).length) (Own.c o3)]) w1)]) ⟨(fun w1 h => h.oload 0 rfl Tryz.underlying28 rfl (n := 3) kr rfl),trivial⟩ ?_
   refine Lu (Eff.storeN (b := rs) (off := 0) (vs := #[.slice (Own.a o1) ((tmV z).1.length) (Own.c o1),.slice (Own.a o2) ((tmE z).1.length) (Own.c o2),.slice (Own.a o3) ((rowsQ qs).length) (Own.c o3)]) (n := 3) rfl kr kr kr rfl (by intro q hq; simp only [List.mem_cons,List.not_mem_nil,or_false] at hq; rcases hq with rfl | rfl | rfl <;> rfl) 1 (cs := #[.slice none 0 0,.slice none 0 0,.slice none 0 0]) (e := 28) kr (by decide)) ?_
   refine CfgL.setO (congrArg (fun (xq : Array Value) => (([(mb,.cells #[.slice (Own.a o1) ((tmV z).1.length) (Own.c o1),.slice (Own.a o2) ((tmE z).1.length) (Own.c o2),.slice (Own.a o3) ((rowsQ qs).length) (Own.c o3)] 28 (0,0)),(rs,.cells xq 28 (0,0)),(b,.cells (inC y) 102 (0,0))] ++ (Own.o 22 ((rowsQ qs).flatMap rowc) o3 ++ (innR qs ++ (Own.o 76 ((tmE z).1.flatMap edc) o2 ++ (Own.o 73 ((tmV z).1.flatMap u32c) o1 ++ []))))) : LO)) (show _ = #[.slice (Own.a o1) ((tmV z).1.length) (Own.c o1),.slice (Own.a o2) ((tmE z).1.length) (Own.c o2),.slice (Own.a o3) ((rowsQ qs).length) (Own.c o3)] from rfl)) ?_
   refine CfgL.done rfl ?_
   refine Cg (Γ' := [(2,[],pT rs)]) ?_
   refine Cfg.ret rfl (rs := [.cell 2 28]) rfl [.agg #[.slice (Own.a o1) ((tmV z).1.length) (Own.c o1),.slice (Own.a o2) ((tmE z).1.length) (Own.c o2),.slice (Own.a o3) ((rowsQ qs).length) (Own.c o3)]] ⟨⟨_,by kernel_rfl,(fun w1 h => h.oload 1 rfl Tryz.underlying28 rfl (n := 3) kr rfl)⟩,trivial⟩ (fun w1 hp => ?_)
   have hi2 : i = (tmV z).1.length := by omega
   rw [hi2,Nat.sub_self,takeRs,List.append_nil] at hra
   have hy : y = (tmR z).2 := congrArg Prod.snd hra
   have h9 := hp.sub (.cons _ (.cons _ slr))
   rw [List.append_nil,hy] at h9
   exact ⟨⟨o1,o2,o3,qs⟩,⟨ko1,ko2,h3,hqs,congrArg Prod.fst hra⟩,rfl,_,h9⟩
end Go.Proofs.YtbeeelgfhfmgbaaGreatDoor
namespace Go.Proofs.YtbeeelgfhfmgbaaGreatDoor
open K
set_option linter.unusedVariables false
theorem qs_len {qs : List RO} {L : List (List Nat)} (h : qs.reverse.map Prod.snd = L) : (rowsQ qs).length = L.length := by
 rw [← h,List.length_map,List.length_map]
structure TuOk (Rl : List (Nat × Obj)) (W : List (Int × Value)) (f : Nat → RowU) (vs : List Nat) : Prop where
 get : ∀ v ∈ vs,(mget W (v : Int)).getD (.slice none 0 0) = .slice (f v).a (f v).xs.length (f v).c
 inf : ∀ v ∈ vs,InF u32c 1 Rl (f v).a (f v).xs
 len : ∀ v ∈ vs,(f v).xs.length ≤ 320 ∧ (f v).xs.length ≤ (f v).c
theorem norm_go {f : Nat → RowU} {vs : List Nat} {i : Nat} {qs : List RO} (h : i < vs.length) (hq : qs.reverse.map Prod.snd = (vs.take i).map (fun v => normF (f v).xs)) (o : K.Own) : ((o,normF (f (vs.getD i 0)).xs) :: qs).reverse.map Prod.snd = (vs.take (i + 1)).map (fun v => normF (f v).xs) := by
 rw [List.reverse_cons,List.map_append,hq,List.take_add_one,List.map_append,List.getD_eq_getElem?_getD,List.getElem?_eq_getElem h]; rfl
structure OfQ where
 o1 : K.Own
 o2 : K.Own
 o3 : K.Own
 qs : List RO
def OfQ.m (q : OfQ) (vs : List Nat) (es : List Ed) : MM := ⟨Own.a q.o1,Own.c q.o1,vs,Own.a q.o2,Own.c q.o2,es,Own.a q.o3,Own.c q.o3,rowsQ q.qs⟩
def OfQ.mem (q : OfQ) (vs : List Nat) (es : List Ed) : List (Nat × Obj) := Own.o 22 ((rowsQ q.qs).flatMap rowc) q.o3 ++ (innR q.qs ++ (Own.o 73 (vs.flatMap u32c) q.o1 ++ Own.o 76 (es.flatMap edc) q.o2))
structure OfQ.Ok (q : OfQ) (vs : List Nat) (es : List Ed) (f : Nat → RowU) : Prop where
 h1 : OwnOk q.o1 1 vs.length (vs.flatMap u32c)
 h2 : OwnOk q.o2 3 es.length (es.flatMap edc)
 h3 : OwnOk q.o3 1 (rowsQ q.qs).length ((rowsQ q.qs).flatMap rowc)
 hq : ∀ p ∈ q.qs,OwnOk p.1 1 p.2.length (p.2.flatMap u32c) ∧ p.2.length ≤ 320
 hr : q.qs.reverse.map Prod.snd = vs.map (fun v => normF (f v).xs)
theorem OfQ.Ok.inM {q : OfQ} {vs : List Nat} {es : List Ed} {f : Nat → RowU} (h : q.Ok vs es f) (l1 : vs.length ≤ 64) (l2 : es.length ≤ 160) : InM (q.mem vs es) (q.m vs es) := by
 have l3 : (rowsQ q.qs).length = vs.length := by rw [qs_len h.hr,List.length_map]
 unfold OfQ.mem
 refine ⟨(own_inf h.h1).mono (fun e he => mR (mR (mL he))),(own_inf h.h2).mono (fun e he => mR (mR (mR he))),(own_inf h.h3).mono (fun e he => mL he),fun x hx => ?_,?_⟩
 ·obtain ⟨p,hp,rfl⟩ := List.mem_map.1 hx
  obtain ⟨a,b⟩ := h.hq p (List.mem_reverse.1 hp)
  exact ⟨(own_inf a).mono (fun e he => mR (mL (innR_mem (List.mem_reverse.1 hp) e he))),by show p.2.length ≤ _; omega⟩
 ·show vs.length ≤ _ ∧ es.length ≤ _ ∧ (rowsQ q.qs).length ≤ _
  omega
set_option maxRecDepth 100000 in
set_option maxHeartbeats 8000000 in
theorem awake9 (w : World) :
  Calls Tryz.prog 83 #[] w fun e w' => e = .returned (.bool true) ∧ Ext [] w w' := by
 refine enter [] [] [] Tryz.func83 rfl kr (HP.start w) ?_
 refine Rq [] ?_
 refine Cfg.begL rfl ?_
 refine Le (Eff.buildSlice (e := 73) (cells := #[.int .u32 1,.int .u32 2,.int .u32 3]) (parts := #[(0,.int .u32 1),(1,.int .u32 2),(2,.int .u32 3)]) rfl kr (fun _ => kr)) ?_
 rintro lb ⟨hlb,nlb⟩
 refine Lp 1 [(dS (.agg (edc (1,1,2)).toArray))] none (fun S => [(∀ w1,S w1 → (Instr.build 76 #[(0,.int .u32 1),(1,.int .u32 1),(2,.int .u32 2)]).run Tryz.prog w1 = .ok (.agg (edc (1,1,2)).toArray) w1)]) ⟨(fun w1 _ => kr),trivial⟩ ?_
 refine Le (Eff.buildAgg (vs := (edc (1,1,2)).toArray) (n := 3) rfl kr Tryz.underlying23 kr (z := (.agg #[.int .u32 0,.int .u32 0,.int .u32 0])) kr rfl (by decide) (by decide)) ?_
 rintro eb ⟨heb,neb⟩
 refine Le ((Eff.reO (A2 := fun (q : K.Own × K.Own) => ([(eb,.cells ((edc (1,1,2)).toArray) 76 (0,0)),(lb,.cells #[.int .u32 1,.int .u32 2,.int .u32 3] 73 (0,0))] ++ (Own.o 73 (([1,2,3] : List Nat).flatMap u32c) q.1 ++ (Own.o 76 (([(1,1,2)] : List Ed).flatMap edc) q.2 ++ [])))) (Eff.callH (vs := [.slice (some ⟨lb,0,none⟩) 3 3,.slice (some ⟨eb,0,none⟩) 1 1]) (fun q : K.Own × K.Own => .agg (gc (g9 q.1 q.2)).toArray) [] (fun q => Own.o 73 (([1,2,3] : List Nat).flatMap u32c) q.1 ++ Own.o 76 (([(1,1,2)] : List Ed).flatMap edc) q.2) (fun q => OwnOk q.1 1 3 (([1,2,3] : List Nat).flatMap u32c) ∧ OwnOk q.2 3 1 (([(1,1,2)] : List Ed).flatMap edc)) ([(eb,.cells ((edc (1,1,2)).toArray) 76 (0,0)),(lb,.cells #[.int .u32 1,.int .u32 2,.int .u32 3] 73 (0,0))]) [] (by rfl) rfl Tryz.func95 rfl rfl kr (fun w1 h _ _ => eMake lb eb w1 (fun e he => by simp only [List.mem_cons,List.not_mem_nil,or_false] at he; rcases he with rfl | rfl; exact h.own (lb,_) (mG 1 rfl); exact h.own (eb,_) (mG 0 rfl)))) (fun q => by rw [List.append_nil,List.append_nil]))) ?_
 rintro ⟨o1,o2⟩ ⟨ko1,ko2⟩
 refine Le (Eff.alloc (z := (.agg #[.slice none 0 0,.slice none 0 0])) rfl kr) ?_
 rintro gb ⟨hgb,ngb⟩
 refine Lu (Eff.storeN (b := gb) (off := 0) (vs := (gc (g9 o1 o2)).toArray) (n := 2) rfl kr kr kr rfl (by intro q hq; simp only [gc,List.mem_cons,List.not_mem_nil,or_false] at hq; rcases hq with rfl | rfl <;> rfl) 0 (cs := #[.slice none 0 0,.slice none 0 0]) (e := 25) kr (by decide)) ?_
 refine CfgL.setO (congrArg (fun (xq : Array Value) => (([(gb,.cells xq 25 (0,0)),(eb,.cells ((edc (1,1,2)).toArray) 76 (0,0)),(lb,.cells #[.int .u32 1,.int .u32 2,.int .u32 3] 73 (0,0))] ++ (Own.o 73 (([1,2,3] : List Nat).flatMap u32c) o1 ++ (Own.o 76 (([(1,1,2)] : List Ed).flatMap edc) o2 ++ []))) : LO)) (show _ = ((gc (g9 o1 o2)).toArray) from rfl)) ?_
 refine CfgL.done rfl ?_
 refine Cg (Γ' := [(1,[],pT gb)]) ?_
 refine Cfg.begL rfl ?_
 refine Lp 1 [(dS (.agg (gc (g9 o1 o2)).toArray))] none (fun S => [(∀ w1,S w1 → (loadVar 25 ⟨gb,0,none⟩).run Tryz.prog w1 = .ok (.agg (gc (g9 o1 o2)).toArray) w1)]) ⟨(fun w1 h => h.oload 0 rfl Tryz.underlying25 rfl (n := 2) kr rfl),trivial⟩ ?_
 refine Lu (Eff.callA (vs := [.agg (gc (g9 o1 o2)).toArray]) (.int .i64 0) rfl Tryz.func84 rfl rfl kr (fun w1 h => by have h9 := gCheck (g9 o1 o2) (Own.o 73 (([1,2,3] : List Nat).flatMap u32c) o1 ++ Own.o 76 (([(1,1,2)] : List Ed).flatMap edc) o2) w1 (g9_in ko1 ko2) (fun e he => h.own e (show e ∈ ([(gb,Obj.cells ((gc (g9 o1 o2)).toArray) 25 (0,0)),(eb,Obj.cells ((edc (1,1,2)).toArray) 76 (0,0)),(lb,Obj.cells #[.int .u32 1,.int .u32 2,.int .u32 3] 73 (0,0))] ++ (Own.o 73 (([1,2,3] : List Nat).flatMap u32c) o1 ++ (Own.o 76 (([(1,1,2)] : List Ed).flatMap edc) o2 ++ []))) from mR ((List.mem_append.1 he).elim (fun h => mL h) (fun h => mR (mL h))))); rw [show graphF (g9 o1 o2).vs (g9 o1 o2).es = 0 from g9_chk] at h9; exact h9)) ?_
 refine Lp 8 [dZ,dZ,(1,false,none),(1,false,some (.slice (Own.a o1) 3 (Own.c o1))),(1,false,none),(1,false,none)] (some [1,15]) (fun S => [((.bool true : Value) = .bool true),((.bool true : Value) = .bool true),(cE S gb 0 (.slice (Own.a o1) 3 (Own.c o1))),((.bool true : Value) = .bool true),((.bool true : Value) = .bool true)]) ⟨rfl,rfl,(oC 0 rfl rfl),rfl,rfl,trivial⟩ ?_
 refine CfgL.known 15 (b := ((3 : Int) == (3 : Int))) kr true (by decide) ?_
 refine Lp 1 [(1,false,some (.agg (gc (g9 o1 o2)).toArray))] none (fun S => [((.bool true : Value) = .bool true),(∀ w1,S w1 → (loadVar 25 ⟨gb,0,none⟩).run Tryz.prog w1 = .ok (.agg (gc (g9 o1 o2)).toArray) w1)]) ⟨rfl,(fun w1 h => h.oload 0 rfl Tryz.underlying25 rfl (n := 2) kr rfl),trivial⟩ ?_
 refine Le (Eff.callH (vs := [.agg (gc (g9 o1 o2)).toArray]) (fun q : Option Addr × Nat => .slice q.1 2 q.2) [] (fun _ => []) (fun _ => True) [] (([(gb,Obj.cells ((gc (g9 o1 o2)).toArray) 25 (0,0)),(eb,Obj.cells ((edc (1,1,2)).toArray) 76 (0,0)),(lb,Obj.cells #[.int .u32 1,.int .u32 2,.int .u32 3] 73 (0,0))] ++ (Own.o 73 (([1,2,3] : List Nat).flatMap u32c) o1 ++ (Own.o 76 (([(1,1,2)] : List Ed).flatMap edc) o2 ++ [])))) rfl rfl Tryz.func81 rfl rfl kr (fun w1 h _ _ => by have h9 := gParts (g9 o1 o2) (Own.o 73 (([1,2,3] : List Nat).flatMap u32c) o1 ++ Own.o 76 (([(1,1,2)] : List Ed).flatMap edc) o2) w1 (g9_in ko1 ko2) (fun e he => h.own e (show e ∈ ([(gb,Obj.cells ((gc (g9 o1 o2)).toArray) 25 (0,0)),(eb,Obj.cells ((edc (1,1,2)).toArray) 76 (0,0)),(lb,Obj.cells #[.int .u32 1,.int .u32 2,.int .u32 3] 73 (0,0))] ++ (Own.o 73 (([1,2,3] : List Nat).flatMap u32c) o1 ++ (Own.o 76 (([(1,1,2)] : List Ed).flatMap edc) o2 ++ []))) from mR ((List.mem_append.1 he).elim (fun h => mL h) (fun h => mR (mL h))))) (graphF_ok g9_chk) (by show ([1,2,3] : List Nat).Nodup; decide); rw [show partsF (g9 o1 o2).vs (g9 o1 o2).es = 2 from g9_parts] at h9; exact h9)) ?_
 rintro q1 -
 refine Lp 4 [(1,false,none),(1,false,none)] (some [1,21]) (fun _ => [((.bool true : Value) = .bool true),((.bool true : Value) = .bool true)]) ⟨rfl,rfl,trivial⟩ ?_
 refine CfgL.known 21 (b := ((2 : Int) == (2 : Int))) kr true (by decide) ?_
 refine Lp 1 [(1,false,some (.agg (gc (g9 o1 o2)).toArray))] (some [21,22]) (fun S => [((.bool true : Value) = .bool true),(∀ w1,S w1 → (loadVar 25 ⟨gb,0,none⟩).run Tryz.prog w1 = .ok (.agg (gc (g9 o1 o2)).toArray) w1)]) ⟨rfl,(fun w1 h => h.oload 0 rfl Tryz.underlying25 rfl (n := 2) kr rfl),trivial⟩ ?_
 refine Lu (Eff.callA (vs := [.agg (gc (g9 o1 o2)).toArray]) (.int .i64 1) rfl Tryz.func82 rfl rfl kr (fun w1 h => by have h9 := gAlone (g9 o1 o2) (Own.o 73 (([1,2,3] : List Nat).flatMap u32c) o1 ++ Own.o 76 (([(1,1,2)] : List Ed).flatMap edc) o2) w1 (g9_in ko1 ko2) (fun e he => h.own e (show e ∈ ([(gb,Obj.cells ((gc (g9 o1 o2)).toArray) 25 (0,0)),(eb,Obj.cells ((edc (1,1,2)).toArray) 76 (0,0)),(lb,Obj.cells #[.int .u32 1,.int .u32 2,.int .u32 3] 73 (0,0))] ++ (Own.o 73 (([1,2,3] : List Nat).flatMap u32c) o1 ++ (Own.o 76 (([(1,1,2)] : List Ed).flatMap edc) o2 ++ []))) from mR ((List.mem_append.1 he).elim (fun h => mL h) (fun h => mR (mL h))))) (graphF_ok g9_chk) (by show ([1,2,3] : List Nat).Nodup; decide); rw [show aloneF (g9 o1 o2).vs (g9 o1 o2).es = 1 from g9_alone] at h9; exact h9)) ?_
 refine Lp 3 [(1,false,none)] (some [26]) (fun _ => [((.bool true : Value) = .bool true)]) ⟨rfl,trivial⟩ ?_
 refine Lu (Eff.callA (.bool true) rfl Tryz.func96 rfl rfl kr (fun w1 h => awake8A w1)) ?_
 refine Ld 2 [0] ?_
 refine Cfg.ret rfl (rs := [.tmp 0]) rfl [.bool true] ⟨kr,trivial⟩ (fun w1 hp => ?_)
 exact ⟨rfl,hp.ext⟩
set_option maxRecDepth 100000 in
theorem awake9A (w : World) :
  Calls Tryz.prog 66 #[] w fun e w' => e = .returned (.bool true) ∧ Ext [] w w' := by
 refine enter [] [] [] Tryz.func66 rfl kr (HP.start w) ?_
 refine Rq [] ?_
 refine Cfg.begL rfl ?_
 refine Lu (Eff.callA (.bool true) rfl Tryz.func83 rfl rfl kr (fun w1 h => awake9 w1)) ?_
 refine Ld 1 [0] ?_
 refine Cfg.ret rfl (rs := [.tmp 0]) rfl [.bool true] ⟨kr,trivial⟩ (fun w1 hp => ?_)
 exact ⟨rfl,hp.ext⟩
end Go.Proofs.YtbeeelgfhfmgbaaGreatDoor
