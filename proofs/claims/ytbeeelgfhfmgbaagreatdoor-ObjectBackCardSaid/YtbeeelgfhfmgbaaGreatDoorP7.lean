/- Texts on which the proof of this claim stands: Ex11, By1, By2, By3. -/
import Derived.Test.YtbeeelgfhfmgbaaGreatDoorP6
import Derived.Test.YtbeeelgfhfmgbaaGreatDoorP1
import Derived.Test.YtbeeelgfhfmgbaaGreatDoorP2
namespace Go.Proofs.YtbeeelgfhfmgbaaGreatDoor
open K
set_option linter.unusedVariables false
def fT (b9 b10 v : Nat) : RowU := if v = 1 then ⟨some ⟨b9,0,none⟩,1,[2]⟩ else ⟨some ⟨b10,0,none⟩,1,[3]⟩
theorem ex_norm2 : normF [2] = [2] := by decide
theorem ex_norm3 : normF [3] = [3] := by decide
theorem ex_sort2 : sortN [2] = [2] := by decide
theorem ex_sort3 : sortN [3] = [3] := by decide
theorem ex_chk : checkR [1,2] [(1,1,2)] [[2],[3]] = 0 := by
 unfold checkR
 rw [if_neg (by decide),if_neg (by decide)]
 unfold rotL turnF
 rw [ex_sort2]
 unfold rotL turnF
 rw [ex_sort3]
 decide
theorem ex_alone : aloneF [1,2] [(1,1,2)] = 0 := by decide
theorem ex_bfs : bfs [(1,1,2)] [1,2] 0 [1] [1] = ([1,2],[1,2]) := by
 rw [bfs,if_pos (by decide),if_pos (by decide)]
 show bfs _ _ 1 [1,2] [1,2] = _
 rw [bfs,if_pos (by decide),if_pos (by decide)]
 show bfs _ _ 2 [1,2] [1,2] = _
 rw [bfs,if_neg (by decide)]
theorem ex_parts : partsF [1,2] [(1,1,2)] = 1 := by
 unfold partsF
 rw [partsL,if_neg (by decide)]
 show partsL _ _ [2] (bfs [(1,1,2)] [1,2] 0 [1] [1]).2 1 = 1
 rw [ex_bfs,partsL,if_pos (by decide),partsL]
theorem ex_walk : walkF [(2,2),(3,3)] (univ [(1,1,2)] [[2],[3]]) 2 [] = [2,3] := by
 rw [walkF,if_neg (by decide),if_pos (by decide)]
 show walkF _ _ 3 [2] = _
 rw [walkF,if_neg (by decide),if_pos (by decide)]
 show walkF _ _ 2 [2,3] = _
 rw [walkF,if_pos (by decide)]
theorem ex_faces : facesF [(1,1,2)] [[2],[3]] = 1 := by
 unfold facesF
 rw [show behA [[2],[3]] [] = [(2,2),(3,3)] from by decide]
 show (faceL _ _ [2,3] [] 0).1 = 1
 rw [faceL,if_neg (by decide),ex_walk,faceL,if_pos (by decide),faceL]
theorem ex_genus : genusF [1,2] [(1,1,2)] [[2],[3]] = 0 := by
 unfold genusF
 rw [ex_parts,ex_alone,ex_faces]; rfl
theorem ex_right : rightF [1,2] [(1,1,2)] [[2],[3]] = 0 := by
 unfold rightF
 rw [if_neg (by rw [ex_chk]; decide),if_neg (by rw [ex_genus]; decide)]
set_option maxRecDepth 100000 in
set_option maxHeartbeats 8000000 in
theorem eCpd (m : MM) (Rl : List (Nat × Obj)) (w : World) (hM : InM Rl m) (hR : Has w Rl) :
  Calls Tryz.prog 75 #[.agg (gc m).toArray] w fun e w' => ∃ q : K.Own × K.Own,(OwnOk q.1 1 m.vs.length (m.vs.flatMap u32c) ∧ OwnOk q.2 3 m.es.length (m.es.flatMap edc)) ∧ e = .returned (.agg #[.slice (Own.a q.1) m.vs.length (Own.c q.1),.slice (Own.a q.2) m.es.length (Own.c q.2)]) ∧ ∃ R1,HP w [] R1 (Own.o 73 (m.vs.flatMap u32c) q.1 ++ Own.o 76 (m.es.flatMap edc) q.2) w' := by
 have hmn := hM.n
 refine enter [] Rl [] Tryz.func75 rfl kr (HP.ofHas hR) ?_
 refine Cfg.begL rfl ?_
 refine Le (Eff.box (v := .agg (gc m).toArray) rfl kr) ?_
 rintro gb ⟨hgb,ngb⟩
 refine Le (Eff.alloc (z := (.agg #[.slice none 0 0,.slice none 0 0])) rfl kr) ?_
 rintro rs ⟨hrs,nrs⟩
 refine CfgL.done rfl ?_
 refine Cg (Γ' := [(2,[],pT rs),(1,[],pT gb)]) ?_
 refine Cfg.begA rfl kr [(gb,.cells ((gc m).toArray) 25 (0,0))] ?_
 refine Ap [0,1,3,4] [dZ,(dS (.slice m.va m.vs.length m.vc)),dZ,(dS (.slice m.ea m.es.length m.ec))] (some [2,4,7]) (bF 27 8) (.cons _ (.cons_cons _ .slnil)) 4 (fun S => [(cE S gb 0 (.slice m.va m.vs.length m.vc)),(cE S gb 1 (.slice m.ea m.es.length m.ec))]) ⟨(fun w1 h => h.ocell 0 rfl (by rw [List.getElem?_toArray]; exact rfl)),(fun w1 h => h.ocell 0 rfl (by rw [List.getElem?_toArray]; exact rfl)),trivial⟩ ?_
 refine Ae 2 rfl 3  (Eff.callOF 73 1 m.vs.length (m.vs.flatMap u32c) ([(rs,.cells #[.slice none 0 0,.slice none 0 0] 25 (0,0)),(gb,.cells ((gc m).toArray) 25 (0,0))]) [] (by rfl) rfl Tryz.func35 rfl rfl kr (fun w1 h => cloU m.va m.vc m.vs Rl w1 hM.v (h.hasR (fun e he => he)) om)) (fun _ _ => (.cons _ (.cons_cons _ (List.nil_sublist _)))) ?_
 rintro o1 ko1
 refine Ae 5 rfl 2  ((Eff.reO (A2 := fun (oq9 : K.Own) => ([(rs,.cells #[.slice none 0 0,.slice none 0 0] 25 (0,0)),(gb,.cells ((gc m).toArray) 25 (0,0))] ++ (Own.o 73 (m.vs.flatMap u32c) o1 ++ (Own.o 76 (m.es.flatMap edc) oq9 ++ [])))) (Eff.callOF (vs := [.slice m.ea m.es.length m.ec]) 76 3 m.es.length (m.es.flatMap edc) ([(rs,.cells #[.slice none 0 0,.slice none 0 0] 25 (0,0)),(gb,.cells ((gc m).toArray) 25 (0,0))] ++ Own.o 73 (m.vs.flatMap u32c) o1) [] (by simp only [List.append_nil]) rfl Tryz.func36 rfl rfl kr (fun w1 h => cloE m.ea m.ec m.es Rl w1 hM.e (h.hasR (fun e he => he)) om)) (fun oq9 => by simp only [List.append_nil,List.append_assoc]))) (fun _ _ => (.cons _ (.cons_cons _ (List.nil_sublist _)))) ?_
 rintro o2 ko2
 refine Ap [6] [(dS (.agg #[.slice (Own.a o1) m.vs.length (Own.c o1),.slice (Own.a o2) m.es.length (Own.c o2)]))] (some [2,9]) (tF 7 1) (.cons _ (.cons_cons _ (List.nil_sublist _))) 1 (fun S => [(∀ w1,S w1 → (Instr.build 25 #[(0,.slice (Own.a o1) m.vs.length (Own.c o1)),(1,.slice (Own.a o2) m.es.length (Own.c o2))]).run Tryz.prog w1 = .ok (.agg #[.slice (Own.a o1) m.vs.length (Own.c o1),.slice (Own.a o2) m.es.length (Own.c o2)]) w1)]) ⟨(fun w1 _ => kr),trivial⟩ ?_
 refine Au 7 rfl 0  (Eff.storeN (b := rs) (off := 0) (vs := #[.slice (Own.a o1) m.vs.length (Own.c o1),.slice (Own.a o2) m.es.length (Own.c o2)]) (n := 2) rfl kr kr kr rfl (by intro q hq; simp only [List.mem_cons,List.not_mem_nil,or_false] at hq; rcases hq with rfl | rfl <;> rfl) 0 (cs := #[.slice none 0 0,.slice none 0 0]) (e := 25) kr (by decide)) (fun _ _ => (.cons _ (.cons_cons _ (List.nil_sublist _)))) ?_
 refine CfgA.setO (congrArg (fun (xq : Array Value) => (([(rs,.cells xq 25 (0,0)),(gb,.cells ((gc m).toArray) 25 (0,0))] ++ (Own.o 73 (m.vs.flatMap u32c) o1 ++ (Own.o 76 (m.es.flatMap edc) o2 ++ []))) : LO)) (show _ = #[.slice (Own.a o1) m.vs.length (Own.c o1),.slice (Own.a o2) m.es.length (Own.c o2)] from rfl)) ?_
 refine CfgA.done kr ?_
 refine Cg (Γ' := [(2,[],pT rs)]) ?_
 refine Cfg.ret rfl (rs := [.cell 2 25]) rfl [.agg #[.slice (Own.a o1) m.vs.length (Own.c o1),.slice (Own.a o2) m.es.length (Own.c o2)]] ⟨⟨_,by kernel_rfl,(fun w1 h => h.oload 0 rfl Tryz.underlying25 rfl (n := 2) kr rfl)⟩,trivial⟩ (fun w1 hp => ?_)
 have h9 := hp.sub (.cons _ (.cons _ slr))
 rw [show (List.append [] (Own.o 73 (m.vs.flatMap u32c) o1 ++ (Own.o 76 (m.es.flatMap edc) o2 ++ []))) = Own.o 73 (m.vs.flatMap u32c) o1 ++ Own.o 76 (m.es.flatMap edc) o2 from by rw [List.append_nil]; rfl] at h9
 exact ⟨(o1,o2),⟨ko1,ko2⟩,rfl,_,h9⟩
set_option maxRecDepth 100000 in
set_option maxHeartbeats 8000000 in
theorem eOf (m : MM) (tm : Nat) (x : MX) (W : List (Int × Value)) (f : Nat → RowU) (Rl : List (Nat × Obj)) (w : World) (hM : InM Rl m) (hR : Has w Rl) (hx : WMapOk x.1 x.2 W) (htm : (tm,Obj.map x.1 x.2) ∈ Rl) (hT : TuOk Rl W f m.vs) (l1 : m.vs.length ≤ 64) (l2 : m.es.length ≤ 160) :
  Calls Tryz.prog 63 #[.agg (gc m).toArray,.map (some tm)] w fun e w' => ∃ q : OfQ,q.Ok m.vs m.es f ∧ e = .returned (.agg (mc (q.m m.vs m.es)).toArray) ∧ ∃ R1,HP w [] R1 (q.mem m.vs m.es) w' := by
 refine enter [] Rl [] Tryz.func63 rfl kr (HP.ofHas hR) ?_
 refine Cfg.begL rfl ?_
 refine Le (Eff.box (v := .agg (gc m).toArray) rfl kr) ?_
 rintro gb ⟨hgb,ngb⟩
 refine Le (Eff.alloc (z := (.agg #[.slice none 0 0,.slice none 0 0,.slice none 0 0])) rfl kr) ?_
 rintro rs ⟨hrs,nrs⟩
 refine CfgL.done rfl ?_
 refine Cg (Γ' := [(4,[],pT rs),(2,[],pT gb),(1,[],.map (some tm))]) ?_
 refine Cfg.begL rfl ?_
 refine Lp 1 [(dS (.agg (gc m).toArray))] none (fun S => [(∀ w1,S w1 → (loadVar 25 ⟨gb,0,none⟩).run Tryz.prog w1 = .ok (.agg (gc m).toArray) w1)]) ⟨(fun w1 h => load_list Tryz.underlying25 rfl kr rfl (fun j v hj => h.ocell 1 rfl (by rw [List.getElem?_toArray]; exact (fun j v hj => by rw [Nat.zero_add]; exact hj) j v hj))),trivial⟩ ?_
 refine Le ((Eff.reO (A2 := fun (q : K.Own × K.Own) => ([(rs,.cells #[.slice none 0 0,.slice none 0 0,.slice none 0 0] 28 (0,0)),(gb,.cells ((gc m).toArray) 25 (0,0))] ++ (Own.o 73 (m.vs.flatMap u32c) q.1 ++ (Own.o 76 (m.es.flatMap edc) q.2 ++ [])))) (Eff.callH (vs := [.agg (gc m).toArray]) (fun q : K.Own × K.Own => .agg #[.slice (Own.a q.1) m.vs.length (Own.c q.1),.slice (Own.a q.2) m.es.length (Own.c q.2)]) [] (fun q => Own.o 73 (m.vs.flatMap u32c) q.1 ++ Own.o 76 (m.es.flatMap edc) q.2) (fun q => OwnOk q.1 1 m.vs.length (m.vs.flatMap u32c) ∧ OwnOk q.2 3 m.es.length (m.es.flatMap edc)) ([(rs,.cells #[.slice none 0 0,.slice none 0 0,.slice none 0 0] 28 (0,0)),(gb,.cells ((gc m).toArray) 25 (0,0))]) [] (by rfl) rfl Tryz.func75 rfl rfl kr (fun w1 h _ _ => eCpd m Rl w1 hM (h.hasR (fun e he => he)))) (fun q => by rw [List.append_nil,List.append_nil]))) ?_
 rintro ⟨o1,o2⟩ ⟨ko1,ko2⟩
 refine Lp 1 [(dS (.agg #[.slice (Own.a o1) m.vs.length (Own.c o1),.slice (Own.a o2) m.es.length (Own.c o2),.slice none 0 0]))] (some [1,2,4,10]) (fun S => [(∀ w1,S w1 → (Instr.build 28 #[(0,.agg #[.slice (Own.a o1) m.vs.length (Own.c o1),.slice (Own.a o2) m.es.length (Own.c o2)])]).run Tryz.prog w1 = .ok (.agg #[.slice (Own.a o1) m.vs.length (Own.c o1),.slice (Own.a o2) m.es.length (Own.c o2),.slice none 0 0]) w1)]) ⟨(fun w1 _ => kr),trivial⟩ ?_
 refine Le (Eff.alloc (z := (.agg #[.slice none 0 0,.slice none 0 0,.slice none 0 0])) rfl kr) ?_
 rintro mb ⟨hmb,nmb⟩
 refine Lu (Eff.storeN (b := mb) (off := 0) (vs := #[.slice (Own.a o1) m.vs.length (Own.c o1),.slice (Own.a o2) m.es.length (Own.c o2),.slice none 0 0]) (n := 3) rfl kr kr kr rfl (by intro q hq; simp only [List.mem_cons,List.not_mem_nil,or_false] at hq; rcases hq with rfl | rfl | rfl <;> rfl) 0 (cs := #[.slice none 0 0,.slice none 0 0,.slice none 0 0]) (e := 28) kr (by decide)) ?_
 refine CfgL.setO (congrArg (fun (xq : Array Value) => (([(mb,.cells xq 28 (0,0)),(rs,.cells #[.slice none 0 0,.slice none 0 0,.slice none 0 0] 28 (0,0)),(gb,.cells ((gc m).toArray) 25 (0,0))] ++ (Own.o 73 (m.vs.flatMap u32c) o1 ++ (Own.o 76 (m.es.flatMap edc) o2 ++ []))) : LO)) (show _ = #[.slice (Own.a o1) m.vs.length (Own.c o1),.slice (Own.a o2) m.es.length (Own.c o2),.slice none 0 0] from rfl)) ?_
 refine CfgL.done rfl ?_
 refine Cg (Γ' := [(5,[],pT mb),(4,[],pT rs),(2,[],pT gb),(1,[],.map (some tm))]) ?_
 refine Rg [1,4,5,12,13,14] [dZ,(dS (.slice m.va m.vs.length m.vc))] (fun S => [(cE S gb 0 (.slice m.va m.vs.length m.vc))]) ⟨(fun w1 h => h.ocell 2 rfl (by rw [List.getElem?_toArray]; exact rfl)),trivial⟩ ?_
 refine Cfg.loop rfl (ι := Nat × List RO × K.Own) (fun (xz : Nat × List RO × K.Own) => match xz with | (i,qs,oR) => [(14,[],iN i),(13,[],iN m.vs.length),(12,[],.slice m.va m.vs.length m.vc),(5,[],pT mb),(4,[],pT rs),(1,[],.map (some tm))]) (fun (xz : Nat × List RO × K.Own) => match xz with | (i,qs,oR) => ([(mb,.cells #[.slice (Own.a o1) m.vs.length (Own.c o1),.slice (Own.a o2) m.es.length (Own.c o2),.slice (Own.a oR) ((rowsQ qs).length) (Own.c oR)] 28 (0,0)),(rs,.cells #[.slice none 0 0,.slice none 0 0,.slice none 0 0] 28 (0,0))] ++ (Own.o 22 ((rowsQ qs).flatMap rowc) oR ++ (innR qs ++ (Own.o 73 (m.vs.flatMap u32c) o1 ++ (Own.o 76 (m.es.flatMap edc) o2 ++ [])))))) (fun (xz : Nat × List RO × K.Own) => match xz with | (i,qs,oR) => (i ≤ m.vs.length) ∧ ((rowsQ qs).length = i) ∧ (OwnOk oR 1 (rowsQ qs).length ((rowsQ qs).flatMap rowc)) ∧ (∀ p ∈ qs,OwnOk p.1 1 p.2.length (p.2.flatMap u32c) ∧ p.2.length ≤ 320) ∧ (qs.reverse.map Prod.snd = (m.vs.take i).map (fun v => normF (f v).xs))) (fun (xz : Nat × List RO × K.Own) => match xz with | (i,qs,oR) => m.vs.length - i) (0,[],none) ?_ (Conv.mk kr) (.cons_cons _ (.cons_cons _ (.cons _ slr))) ?_
 ·exact ⟨Nat.zero_le _,rfl,OwnOk.none _,(fun p hp9 => by cases hp9),rfl⟩
 ·rintro ⟨i,qs,oR⟩ ⟨hi,hql,h3,hqs,hra⟩
  refine Rq [1,4,5,12,13,14,15] ?_
  refine Cfg.cond rfl (b := (decide ((i : Int) < (m.vs.length : Int)))) kr (fun c1r => ?_) (fun c1r => ?_)
  ·have c1 := (dT c1r)
   obtain ⟨sa1,offa1,csa1,tea1,frea1,hva1,hma1,hca1⟩ := hM.v om
   refine Cg (Γ' := [(15,[],.bool (decide ((i : Int) < (m.vs.length : Int)))),(14,[],iN i),(13,[],iN m.vs.length),(12,[],.slice m.va m.vs.length m.vc),(5,[],pT mb),(4,[],pT rs),(1,[],.map (some tm))]) ?_
   refine Cfg.setG (Γ' := [(15,[],.bool (decide ((i : Int) < (m.vs.length : Int)))),(14,[],iN i),(13,[],iN m.vs.length),(12,[],.slice (some ⟨sa1,offa1,none⟩) m.vs.length m.vc),(5,[],pT mb),(4,[],pT rs),(1,[],.map (some tm))]) (congrArg (fun (xq : Option Addr) => ([(15,[],.bool (decide ((i : Int) < (m.vs.length : Int)))),(14,[],iN i),(13,[],iN m.vs.length),(12,[],.slice xq m.vs.length m.vc),(5,[],pT mb),(4,[],pT rs),(1,[],.map (some tm))] : Env)) hva1) ?_
   refine Rg [1,4,5,7,12,13,14] [dZ,(dS (uN (m.vs.getD i 0)))] (fun S => [(0 ≤ (i : Int) ∧ (i : Int) < (m.vs.length : Int)),(cE S sa1 (addO offa1 i) (uN (m.vs.getD i 0)))]) ⟨om,(fun w1 h => by rw [addO_eq]; exact (cell_cells (h.ro _ hma1)).trans (fl_one (g := fun n : Nat => uN n) 0 hca1 om)),trivial⟩ ?_
   refine Cfg.begA rfl kr [(rs,.cells #[.slice none 0 0,.slice none 0 0,.slice none 0 0] 28 (0,0))] ?_
   refine Ap [0,2,3] [] (some [1,4,5,12,13,14,18,20,21]) (bF 13 10) (.cons _ (.cons_cons _ (List.nil_sublist _))) 7 n0 trivial ?_
   refine CfgA.two 1 4 kr (fuel' := 6) rfl ?_ ?_
   ·
    refine Iu rfl  (Eff.quiet (raw := false) (orc := some (.slice (Own.a oR) ((rowsQ qs).length) (Own.c oR))) (v := .slice (Own.a oR) ((rowsQ qs).length) (Own.c oR)) (nd := (fun S => [(cE S mb 2 (.slice (Own.a oR) ((rowsQ qs).length) (Own.c oR)))])) (fun _ => kr) ⟨(oC 0 rfl rfl),trivial⟩ kr) (fun _ _ => (.cons _ (.cons_cons _ (List.nil_sublist _)))) ?_
    refine Au 4 rfl 5  (Eff.reV (Eff.wGet (ok := false) (z := .slice none 0 0) (r := tm) (k := (m.vs.getD i 0 : Int)) (es := x.1) (ck := x.2) rfl Tryz.underlying115 Tryz.underlying73 kr kr kr hx (fun w1 h => h.ro _ htm)) (fun _ => hT.get (m.vs.getD i 0) (K.getD_mem om))) (fun _ _ => (.cons _ (.cons_cons _ (List.nil_sublist _)))) ?_
    refine Ae 5 rfl 4  (Eff.callOF 73 1 (f (m.vs.getD i 0)).xs.length ((normF (f (m.vs.getD i 0)).xs).flatMap u32c) ([(mb,.cells #[.slice (Own.a o1) m.vs.length (Own.c o1),.slice (Own.a o2) m.es.length (Own.c o2),.slice (Own.a oR) ((rowsQ qs).length) (Own.c oR)] 28 (0,0)),(rs,.cells #[.slice none 0 0,.slice none 0 0,.slice none 0 0] 28 (0,0))]) ((Own.o 22 ((rowsQ qs).flatMap rowc) oR ++ (innR qs ++ (Own.o 73 (m.vs.flatMap u32c) o1 ++ (Own.o 76 (m.es.flatMap edc) o2 ++ []))))) (by rfl) rfl Tryz.func76 rfl rfl kr (fun w1 h => gNormal (f (m.vs.getD i 0)).a (f (m.vs.getD i 0)).c (f (m.vs.getD i 0)).xs Rl w1 (hT.inf _ (K.getD_mem om)) (h.hasR (fun e he => he)) (by have := (hT.len _ (K.getD_mem (z := 0) (l := m.vs) (i := i) om)).1; omega) (hT.len _ (K.getD_mem om)).2)) (fun _ _ => (.cons _ (.cons_cons _ (List.nil_sublist _)))) ?_
    rintro oq koq
    refine Ae 6 rfl 3  (Eff.buildSlice (e := 22) (cells := #[.slice (Own.a oq) ((f (m.vs.getD i 0)).xs.length) (Own.c oq)]) (parts := #[(0,.slice (Own.a oq) ((f (m.vs.getD i 0)).xs.length) (Own.c oq))]) rfl kr (fun _ => kr)) (fun _ _ => (.cons _ (.cons _ (.cons_cons _ (List.nil_sublist _))))) ?_
    rintro x24 ⟨hx24,nx24⟩
    refine Ae 7 rfl 2  (Eff.appendF rfl 1 24 Tryz.underlying26 kr (z := (.slice none 0 0)) kr kr oR (xs := ((rowsQ qs).flatMap rowc)) h3 kr (b2 := x24) (off2 := 0) (m := 1) (c2 := 1) kr (rowc (rowOf (oq,(normF (f (m.vs.getD i 0)).xs)))) rfl (by intro q hq; rw [List.mem_singleton.1 hq]; rfl) ([(x24,.cells #[.slice (Own.a oq) ((f (m.vs.getD i 0)).xs.length) (Own.c oq)] 22 (0,0)),(mb,.cells #[.slice (Own.a o1) m.vs.length (Own.c o1),.slice (Own.a o2) m.es.length (Own.c o2),.slice (Own.a oR) ((rowsQ qs).length) (Own.c oR)] 28 (0,0)),(rs,.cells #[.slice none 0 0,.slice none 0 0,.slice none 0 0] 28 (0,0))] ++ Own.o 73 ((normF (f (m.vs.getD i 0)).xs).flatMap u32c) oq) (innR qs ++ (Own.o 73 (m.vs.flatMap u32c) o1 ++ (Own.o 76 (m.es.flatMap edc) o2 ++ []))) (by rfl) (fun w1 h j v hj => by rw [show rowc (rowOf (oq,(normF (f (m.vs.getD i 0)).xs))) = [.slice (Own.a oq) (f (m.vs.getD i 0)).xs.length (Own.c oq)] from by show [Value.slice (Own.a oq) (normF (f (m.vs.getD i 0)).xs).length (Own.c oq)] = _; rw [normF_len]] at hj; exact src_arr h 0 rfl hj) om om) (fun _ _ => (.cons _ (.cons _ (.cons_cons _ (List.nil_sublist _))))) ?_
    rintro o3 ko3
    refine Ap [8] [] (some [1,4,5,12,13,14,25,26]) (tF 9 1) (.cons _ (.cons _ (.cons_cons _ (List.nil_sublist _)))) 1 n0 trivial ?_
    refine Au 9 rfl 0  (Eff.store1 (b := mb) (off := 2) (v := .slice (Own.a o3) (((rowsQ qs).length + 1)) (Own.c o3)) rfl kr kr rfl kr 1 (cs := #[.slice (Own.a o1) m.vs.length (Own.c o1),.slice (Own.a o2) m.es.length (Own.c o2),.slice (Own.a oR) ((rowsQ qs).length) (Own.c oR)]) (e := 28) kr (by show 2 < 3; decide)) (fun _ _ => (.cons _ (.cons _ (.cons_cons _ (List.nil_sublist _))))) ?_
    refine CfgA.done kr ?_
    refine Cg (Γ' := [(14,[],iN i),(13,[],iN m.vs.length),(12,[],.slice (some ⟨sa1,offa1,none⟩) m.vs.length m.vc),(5,[],pT mb),(4,[],pT rs),(1,[],.map (some tm))]) ?_
    refine Rg [1,4,5,12,13,14] [] (fun _ => [(i6 ((i : Int) + 1))]) ⟨om,trivial⟩ ?_
    have hq9 := norm_go (f := f) (i := i) om hra oq
    have hsn := rowsQ_snoc (oq,(normF (f (m.vs.getD i 0)).xs)) qs
    have hsl : (rowsQ ((oq,(normF (f (m.vs.getD i 0)).xs)) :: qs)).length = (rowsQ qs).length + 1 := by rw [hsn,List.length_append]; rfl
    have hsf : (rowsQ ((oq,(normF (f (m.vs.getD i 0)).xs)) :: qs)).flatMap rowc = (((rowsQ qs).flatMap rowc) ++ (rowc (rowOf (oq,(normF (f (m.vs.getD i 0)).xs))))) := by rw [hsn]; exact fm_snoc _ _
    have hTl := hT.len _ (K.getD_mem (z := 0) (l := m.vs) (i := i) om)
    refine Cfg.setO (congrArg (fun (xq : Array Value) => (([(x24,.cells #[.slice (Own.a oq) ((f (m.vs.getD i 0)).xs.length) (Own.c oq)] 22 (0,0)),(mb,.cells xq 28 (0,0)),(rs,.cells #[.slice none 0 0,.slice none 0 0,.slice none 0 0] 28 (0,0))] ++ (Own.o 73 ((normF (f (m.vs.getD i 0)).xs).flatMap u32c) oq ++ (Own.o 22 (((rowsQ qs).flatMap rowc) ++ (rowc (rowOf (oq,(normF (f (m.vs.getD i 0)).xs))))) o3 ++ (innR qs ++ (Own.o 73 (m.vs.flatMap u32c) o1 ++ (Own.o 76 (m.es.flatMap edc) o2 ++ [])))))) : LO)) (show _ = #[.slice (Own.a o1) m.vs.length (Own.c o1),.slice (Own.a o2) m.es.length (Own.c o2),.slice (Own.a o3) ((rowsQ ((oq,(normF (f (m.vs.getD i 0)).xs)) :: qs)).length) (Own.c o3)] from by rw [hsl]; rfl)) ?_
    refine Cfg.setO (congrArg (fun (xq : List Value) => (([(x24,.cells #[.slice (Own.a oq) ((f (m.vs.getD i 0)).xs.length) (Own.c oq)] 22 (0,0)),(mb,.cells #[.slice (Own.a o1) m.vs.length (Own.c o1),.slice (Own.a o2) m.es.length (Own.c o2),.slice (Own.a o3) ((rowsQ ((oq,(normF (f (m.vs.getD i 0)).xs)) :: qs)).length) (Own.c o3)] 28 (0,0)),(rs,.cells #[.slice none 0 0,.slice none 0 0,.slice none 0 0] 28 (0,0))] ++ (Own.o 73 ((normF (f (m.vs.getD i 0)).xs).flatMap u32c) oq ++ (Own.o 22 xq o3 ++ (innR qs ++ (Own.o 73 (m.vs.flatMap u32c) o1 ++ (Own.o 76 (m.es.flatMap edc) o2 ++ [])))))) : LO)) (show _ = ((rowsQ ((oq,(normF (f (m.vs.getD i 0)).xs)) :: qs)).flatMap rowc) from hsf.symm)) ?_
    refine Cfg.setS 12 (show .slice (some ⟨sa1,offa1,none⟩) m.vs.length m.vc = .slice m.va m.vs.length m.vc from congrArg (fun z => Value.slice z m.vs.length m.vc) hva1.symm) ?_
    refine Cfg.permO (O' := ([(x24,.cells #[.slice (Own.a oq) ((f (m.vs.getD i 0)).xs.length) (Own.c oq)] 22 (0,0)),(mb,.cells #[.slice (Own.a o1) m.vs.length (Own.c o1),.slice (Own.a o2) m.es.length (Own.c o2),.slice (Own.a o3) ((rowsQ ((oq,(normF (f (m.vs.getD i 0)).xs)) :: qs)).length) (Own.c o3)] 28 (0,0)),(rs,.cells #[.slice none 0 0,.slice none 0 0,.slice none 0 0] 28 (0,0))] ++ (Own.o 22 ((rowsQ ((oq,(normF (f (m.vs.getD i 0)).xs)) :: qs)).flatMap rowc) o3 ++ (innR ((oq,(normF (f (m.vs.getD i 0)).xs)) :: qs) ++ (Own.o 73 (m.vs.flatMap u32c) o1 ++ (Own.o 76 (m.es.flatMap edc) o2 ++ [])))))) (by exact (List.Perm.append_left _ ((List.perm_append_comm_assoc _ _ _).trans (List.Perm.of_eq (by rw [innR,List.append_assoc]))))) ?_
    refine Cfg.again rfl (i + 1,((oq,(normF (f (m.vs.getD i 0)).xs)) :: qs),o3) ⟨by omega,by rw [hsl]; omega,by rw [hsl,hsf]; exact ko3,(fun p hp9 => (List.mem_cons.1 hp9).elim (fun h9 => by rw [h9]; exact ⟨by show OwnOk oq 1 (normF (f (m.vs.getD i 0)).xs).length _; rw [normF_len]; exact koq,by show (normF (f (m.vs.getD i 0)).xs).length ≤ 320; rw [normF_len]; omega⟩) (hqs p)),hq9⟩ (by show m.vs.length - (i + 1) < m.vs.length - i; omega) (Conv.mk kr) (.cons _ slr)
   ·
    refine Iu rfl  (Eff.reV (Eff.wGet (ok := false) (z := .slice none 0 0) (r := tm) (k := (m.vs.getD i 0 : Int)) (es := x.1) (ck := x.2) rfl Tryz.underlying115 Tryz.underlying73 kr kr kr hx (fun w1 h => h.ro _ htm)) (fun _ => hT.get (m.vs.getD i 0) (K.getD_mem om))) (fun _ _ => (.cons _ (.cons_cons _ (List.nil_sublist _)))) ?_
    refine CfgA.two 1 5 kr (fuel' := 5) rfl ?_ ?_
    ·
     refine Iu rfl  (Eff.quiet (raw := false) (orc := some (.slice (Own.a oR) ((rowsQ qs).length) (Own.c oR))) (v := .slice (Own.a oR) ((rowsQ qs).length) (Own.c oR)) (nd := (fun S => [(cE S mb 2 (.slice (Own.a oR) ((rowsQ qs).length) (Own.c oR)))])) (fun _ => kr) ⟨(oC 0 rfl rfl),trivial⟩ kr) (fun _ _ => (.cons _ (.cons_cons _ (List.nil_sublist _)))) ?_
     refine Ae 5 rfl 4  (Eff.callOF 73 1 (f (m.vs.getD i 0)).xs.length ((normF (f (m.vs.getD i 0)).xs).flatMap u32c) ([(mb,.cells #[.slice (Own.a o1) m.vs.length (Own.c o1),.slice (Own.a o2) m.es.length (Own.c o2),.slice (Own.a oR) ((rowsQ qs).length) (Own.c oR)] 28 (0,0)),(rs,.cells #[.slice none 0 0,.slice none 0 0,.slice none 0 0] 28 (0,0))]) ((Own.o 22 ((rowsQ qs).flatMap rowc) oR ++ (innR qs ++ (Own.o 73 (m.vs.flatMap u32c) o1 ++ (Own.o 76 (m.es.flatMap edc) o2 ++ []))))) (by rfl) rfl Tryz.func76 rfl rfl kr (fun w1 h => gNormal (f (m.vs.getD i 0)).a (f (m.vs.getD i 0)).c (f (m.vs.getD i 0)).xs Rl w1 (hT.inf _ (K.getD_mem om)) (h.hasR (fun e he => he)) (by have := (hT.len _ (K.getD_mem (z := 0) (l := m.vs) (i := i) om)).1; omega) (hT.len _ (K.getD_mem om)).2)) (fun _ _ => (.cons _ (.cons_cons _ (List.nil_sublist _)))) ?_
     rintro oq koq
     refine Ae 6 rfl 3  (Eff.buildSlice (e := 22) (cells := #[.slice (Own.a oq) ((f (m.vs.getD i 0)).xs.length) (Own.c oq)]) (parts := #[(0,.slice (Own.a oq) ((f (m.vs.getD i 0)).xs.length) (Own.c oq))]) rfl kr (fun _ => kr)) (fun _ _ => (.cons _ (.cons _ (.cons_cons _ (List.nil_sublist _))))) ?_
     rintro x24 ⟨hx24,nx24⟩
     refine Ae 7 rfl 2  (Eff.appendF rfl 1 24 Tryz.underlying26 kr (z := (.slice none 0 0)) kr kr oR (xs := ((rowsQ qs).flatMap rowc)) h3 kr (b2 := x24) (off2 := 0) (m := 1) (c2 := 1) kr (rowc (rowOf (oq,(normF (f (m.vs.getD i 0)).xs)))) rfl (by intro q hq; rw [List.mem_singleton.1 hq]; rfl) ([(x24,.cells #[.slice (Own.a oq) ((f (m.vs.getD i 0)).xs.length) (Own.c oq)] 22 (0,0)),(mb,.cells #[.slice (Own.a o1) m.vs.length (Own.c o1),.slice (Own.a o2) m.es.length (Own.c o2),.slice (Own.a oR) ((rowsQ qs).length) (Own.c oR)] 28 (0,0)),(rs,.cells #[.slice none 0 0,.slice none 0 0,.slice none 0 0] 28 (0,0))] ++ Own.o 73 ((normF (f (m.vs.getD i 0)).xs).flatMap u32c) oq) (innR qs ++ (Own.o 73 (m.vs.flatMap u32c) o1 ++ (Own.o 76 (m.es.flatMap edc) o2 ++ []))) (by rfl) (fun w1 h j v hj => by rw [show rowc (rowOf (oq,(normF (f (m.vs.getD i 0)).xs))) = [.slice (Own.a oq) (f (m.vs.getD i 0)).xs.length (Own.c oq)] from by show [Value.slice (Own.a oq) (normF (f (m.vs.getD i 0)).xs).length (Own.c oq)] = _; rw [normF_len]] at hj; exact src_arr h 0 rfl hj) om om) (fun _ _ => (.cons _ (.cons _ (.cons_cons _ (List.nil_sublist _))))) ?_
     rintro o5 ko5
     refine Ap [8] [] (some [1,4,5,12,13,14,25,26]) (tF 9 1) (.cons _ (.cons _ (.cons_cons _ (List.nil_sublist _)))) 1 n0 trivial ?_
     refine Au 9 rfl 0  (Eff.store1 (b := mb) (off := 2) (v := .slice (Own.a o5) (((rowsQ qs).length + 1)) (Own.c o5)) rfl kr kr rfl kr 1 (cs := #[.slice (Own.a o1) m.vs.length (Own.c o1),.slice (Own.a o2) m.es.length (Own.c o2),.slice (Own.a oR) ((rowsQ qs).length) (Own.c oR)]) (e := 28) kr (by show 2 < 3; decide)) (fun _ _ => (.cons _ (.cons _ (.cons_cons _ (List.nil_sublist _))))) ?_
     refine CfgA.done kr ?_
     refine Cg (Γ' := [(14,[],iN i),(13,[],iN m.vs.length),(12,[],.slice (some ⟨sa1,offa1,none⟩) m.vs.length m.vc),(5,[],pT mb),(4,[],pT rs),(1,[],.map (some tm))]) ?_
     refine Rg [1,4,5,12,13,14] [] (fun _ => [(i6 ((i : Int) + 1))]) ⟨om,trivial⟩ ?_
     have hq9 := norm_go (f := f) (i := i) om hra oq
     have hsn := rowsQ_snoc (oq,(normF (f (m.vs.getD i 0)).xs)) qs
     have hsl : (rowsQ ((oq,(normF (f (m.vs.getD i 0)).xs)) :: qs)).length = (rowsQ qs).length + 1 := by rw [hsn,List.length_append]; rfl
     have hsf : (rowsQ ((oq,(normF (f (m.vs.getD i 0)).xs)) :: qs)).flatMap rowc = (((rowsQ qs).flatMap rowc) ++ (rowc (rowOf (oq,(normF (f (m.vs.getD i 0)).xs))))) := by rw [hsn]; exact fm_snoc _ _
     have hTl := hT.len _ (K.getD_mem (z := 0) (l := m.vs) (i := i) om)
     refine Cfg.setO (congrArg (fun (xq : Array Value) => (([(x24,.cells #[.slice (Own.a oq) ((f (m.vs.getD i 0)).xs.length) (Own.c oq)] 22 (0,0)),(mb,.cells xq 28 (0,0)),(rs,.cells #[.slice none 0 0,.slice none 0 0,.slice none 0 0] 28 (0,0))] ++ (Own.o 73 ((normF (f (m.vs.getD i 0)).xs).flatMap u32c) oq ++ (Own.o 22 (((rowsQ qs).flatMap rowc) ++ (rowc (rowOf (oq,(normF (f (m.vs.getD i 0)).xs))))) o5 ++ (innR qs ++ (Own.o 73 (m.vs.flatMap u32c) o1 ++ (Own.o 76 (m.es.flatMap edc) o2 ++ [])))))) : LO)) (show _ = #[.slice (Own.a o1) m.vs.length (Own.c o1),.slice (Own.a o2) m.es.length (Own.c o2),.slice (Own.a o5) ((rowsQ ((oq,(normF (f (m.vs.getD i 0)).xs)) :: qs)).length) (Own.c o5)] from by rw [hsl]; rfl)) ?_
     refine Cfg.setO (congrArg (fun (xq : List Value) => (([(x24,.cells #[.slice (Own.a oq) ((f (m.vs.getD i 0)).xs.length) (Own.c oq)] 22 (0,0)),(mb,.cells #[.slice (Own.a o1) m.vs.length (Own.c o1),.slice (Own.a o2) m.es.length (Own.c o2),.slice (Own.a o5) ((rowsQ ((oq,(normF (f (m.vs.getD i 0)).xs)) :: qs)).length) (Own.c o5)] 28 (0,0)),(rs,.cells #[.slice none 0 0,.slice none 0 0,.slice none 0 0] 28 (0,0))] ++ (Own.o 73 ((normF (f (m.vs.getD i 0)).xs).flatMap u32c) oq ++ (Own.o 22 xq o5 ++ (innR qs ++ (Own.o 73 (m.vs.flatMap u32c) o1 ++ (Own.o 76 (m.es.flatMap edc) o2 ++ [])))))) : LO)) (show _ = ((rowsQ ((oq,(normF (f (m.vs.getD i 0)).xs)) :: qs)).flatMap rowc) from hsf.symm)) ?_
     refine Cfg.setS 12 (show .slice (some ⟨sa1,offa1,none⟩) m.vs.length m.vc = .slice m.va m.vs.length m.vc from congrArg (fun z => Value.slice z m.vs.length m.vc) hva1.symm) ?_
     refine Cfg.permO (O' := ([(x24,.cells #[.slice (Own.a oq) ((f (m.vs.getD i 0)).xs.length) (Own.c oq)] 22 (0,0)),(mb,.cells #[.slice (Own.a o1) m.vs.length (Own.c o1),.slice (Own.a o2) m.es.length (Own.c o2),.slice (Own.a o5) ((rowsQ ((oq,(normF (f (m.vs.getD i 0)).xs)) :: qs)).length) (Own.c o5)] 28 (0,0)),(rs,.cells #[.slice none 0 0,.slice none 0 0,.slice none 0 0] 28 (0,0))] ++ (Own.o 22 ((rowsQ ((oq,(normF (f (m.vs.getD i 0)).xs)) :: qs)).flatMap rowc) o5 ++ (innR ((oq,(normF (f (m.vs.getD i 0)).xs)) :: qs) ++ (Own.o 73 (m.vs.flatMap u32c) o1 ++ (Own.o 76 (m.es.flatMap edc) o2 ++ [])))))) (by exact (List.Perm.append_left _ ((List.perm_append_comm_assoc _ _ _).trans (List.Perm.of_eq (by rw [innR,List.append_assoc]))))) ?_
     refine Cfg.again rfl (i + 1,((oq,(normF (f (m.vs.getD i 0)).xs)) :: qs),o5) ⟨by omega,by rw [hsl]; omega,by rw [hsl,hsf]; exact ko5,(fun p hp9 => (List.mem_cons.1 hp9).elim (fun h9 => by rw [h9]; exact ⟨by show OwnOk oq 1 (normF (f (m.vs.getD i 0)).xs).length _; rw [normF_len]; exact koq,by show (normF (f (m.vs.getD i 0)).xs).length ≤ 320; rw [normF_len]; omega⟩) (hqs p)),hq9⟩ (by show m.vs.length - (i + 1) < m.vs.length - i; omega) (Conv.mk kr) (.cons _ slr)
    ·
     refine Ie rfl  (Eff.callOF 73 1 (f (m.vs.getD i 0)).xs.length ((normF (f (m.vs.getD i 0)).xs).flatMap u32c) ([(mb,.cells #[.slice (Own.a o1) m.vs.length (Own.c o1),.slice (Own.a o2) m.es.length (Own.c o2),.slice (Own.a oR) ((rowsQ qs).length) (Own.c oR)] 28 (0,0)),(rs,.cells #[.slice none 0 0,.slice none 0 0,.slice none 0 0] 28 (0,0))]) ((Own.o 22 ((rowsQ qs).flatMap rowc) oR ++ (innR qs ++ (Own.o 73 (m.vs.flatMap u32c) o1 ++ (Own.o 76 (m.es.flatMap edc) o2 ++ []))))) (by rfl) rfl Tryz.func76 rfl rfl kr (fun w1 h => gNormal (f (m.vs.getD i 0)).a (f (m.vs.getD i 0)).c (f (m.vs.getD i 0)).xs Rl w1 (hT.inf _ (K.getD_mem om)) (h.hasR (fun e he => he)) (by have := (hT.len _ (K.getD_mem (z := 0) (l := m.vs) (i := i) om)).1; omega) (hT.len _ (K.getD_mem om)).2)) (fun _ _ => (.cons _ (.cons_cons _ (List.nil_sublist _)))) ?_
     rintro oq koq
     refine CfgA.two 1 6 kr (fuel' := 4) rfl ?_ ?_
     ·
      refine Iu rfl  (Eff.quiet (raw := false) (orc := some (.slice (Own.a oR) ((rowsQ qs).length) (Own.c oR))) (v := .slice (Own.a oR) ((rowsQ qs).length) (Own.c oR)) (nd := (fun S => [(cE S mb 2 (.slice (Own.a oR) ((rowsQ qs).length) (Own.c oR)))])) (fun _ => kr) ⟨(oC 0 rfl rfl),trivial⟩ kr) (fun _ _ => (.cons _ (.cons_cons _ (List.nil_sublist _)))) ?_
      refine Ae 6 rfl 3  (Eff.buildSlice (e := 22) (cells := #[.slice (Own.a oq) ((f (m.vs.getD i 0)).xs.length) (Own.c oq)]) (parts := #[(0,.slice (Own.a oq) ((f (m.vs.getD i 0)).xs.length) (Own.c oq))]) rfl kr (fun _ => kr)) (fun _ _ => (.cons _ (.cons _ (.cons_cons _ (List.nil_sublist _))))) ?_
      rintro x24 ⟨hx24,nx24⟩
      refine Ae 7 rfl 2  (Eff.appendF rfl 1 24 Tryz.underlying26 kr (z := (.slice none 0 0)) kr kr oR (xs := ((rowsQ qs).flatMap rowc)) h3 kr (b2 := x24) (off2 := 0) (m := 1) (c2 := 1) kr (rowc (rowOf (oq,(normF (f (m.vs.getD i 0)).xs)))) rfl (by intro q hq; rw [List.mem_singleton.1 hq]; rfl) ([(x24,.cells #[.slice (Own.a oq) ((f (m.vs.getD i 0)).xs.length) (Own.c oq)] 22 (0,0)),(mb,.cells #[.slice (Own.a o1) m.vs.length (Own.c o1),.slice (Own.a o2) m.es.length (Own.c o2),.slice (Own.a oR) ((rowsQ qs).length) (Own.c oR)] 28 (0,0)),(rs,.cells #[.slice none 0 0,.slice none 0 0,.slice none 0 0] 28 (0,0))] ++ Own.o 73 ((normF (f (m.vs.getD i 0)).xs).flatMap u32c) oq) (innR qs ++ (Own.o 73 (m.vs.flatMap u32c) o1 ++ (Own.o 76 (m.es.flatMap edc) o2 ++ []))) (by rfl) (fun w1 h j v hj => by rw [show rowc (rowOf (oq,(normF (f (m.vs.getD i 0)).xs))) = [.slice (Own.a oq) (f (m.vs.getD i 0)).xs.length (Own.c oq)] from by show [Value.slice (Own.a oq) (normF (f (m.vs.getD i 0)).xs).length (Own.c oq)] = _; rw [normF_len]] at hj; exact src_arr h 0 rfl hj) om om) (fun _ _ => (.cons _ (.cons _ (.cons_cons _ (List.nil_sublist _))))) ?_
      rintro o7 ko7
      refine Ap [8] [] (some [1,4,5,12,13,14,25,26]) (tF 9 1) (.cons _ (.cons _ (.cons_cons _ (List.nil_sublist _)))) 1 n0 trivial ?_
      refine Au 9 rfl 0  (Eff.store1 (b := mb) (off := 2) (v := .slice (Own.a o7) (((rowsQ qs).length + 1)) (Own.c o7)) rfl kr kr rfl kr 1 (cs := #[.slice (Own.a o1) m.vs.length (Own.c o1),.slice (Own.a o2) m.es.length (Own.c o2),.slice (Own.a oR) ((rowsQ qs).length) (Own.c oR)]) (e := 28) kr (by show 2 < 3; decide)) (fun _ _ => (.cons _ (.cons _ (.cons_cons _ (List.nil_sublist _))))) ?_
      refine CfgA.done kr ?_
      refine Cg (Γ' := [(14,[],iN i),(13,[],iN m.vs.length),(12,[],.slice (some ⟨sa1,offa1,none⟩) m.vs.length m.vc),(5,[],pT mb),(4,[],pT rs),(1,[],.map (some tm))]) ?_
      refine Rg [1,4,5,12,13,14] [] (fun _ => [(i6 ((i : Int) + 1))]) ⟨om,trivial⟩ ?_
      have hq9 := norm_go (f := f) (i := i) om hra oq
      have hsn := rowsQ_snoc (oq,(normF (f (m.vs.getD i 0)).xs)) qs
      have hsl : (rowsQ ((oq,(normF (f (m.vs.getD i 0)).xs)) :: qs)).length = (rowsQ qs).length + 1 := by rw [hsn,List.length_append]; rfl
      have hsf : (rowsQ ((oq,(normF (f (m.vs.getD i 0)).xs)) :: qs)).flatMap rowc = (((rowsQ qs).flatMap rowc) ++ (rowc (rowOf (oq,(normF (f (m.vs.getD i 0)).xs))))) := by rw [hsn]; exact fm_snoc _ _
      have hTl := hT.len _ (K.getD_mem (z := 0) (l := m.vs) (i := i) om)
      refine Cfg.setO (congrArg (fun (xq : Array Value) => (([(x24,.cells #[.slice (Own.a oq) ((f (m.vs.getD i 0)).xs.length) (Own.c oq)] 22 (0,0)),(mb,.cells xq 28 (0,0)),(rs,.cells #[.slice none 0 0,.slice none 0 0,.slice none 0 0] 28 (0,0))] ++ (Own.o 73 ((normF (f (m.vs.getD i 0)).xs).flatMap u32c) oq ++ (Own.o 22 (((rowsQ qs).flatMap rowc) ++ (rowc (rowOf (oq,(normF (f (m.vs.getD i 0)).xs))))) o7 ++ (innR qs ++ (Own.o 73 (m.vs.flatMap u32c) o1 ++ (Own.o 76 (m.es.flatMap edc) o2 ++ [])))))) : LO)) (show _ = #[.slice (Own.a o1) m.vs.length (Own.c o1),.slice (Own.a o2) m.es.length (Own.c o2),.slice (Own.a o7) ((rowsQ ((oq,(normF (f (m.vs.getD i 0)).xs)) :: qs)).length) (Own.c o7)] from by rw [hsl]; rfl)) ?_
      refine Cfg.setO (congrArg (fun (xq : List Value) => (([(x24,.cells #[.slice (Own.a oq) ((f (m.vs.getD i 0)).xs.length) (Own.c oq)] 22 (0,0)),(mb,.cells #[.slice (Own.a o1) m.vs.length (Own.c o1),.slice (Own.a o2) m.es.length (Own.c o2),.slice (Own.a o7) ((rowsQ ((oq,(normF (f (m.vs.getD i 0)).xs)) :: qs)).length) (Own.c o7)] 28 (0,0)),(rs,.cells #[.slice none 0 0,.slice none 0 0,.slice none 0 0] 28 (0,0))] ++ (Own.o 73 ((normF (f (m.vs.getD i 0)).xs).flatMap u32c) oq ++ (Own.o 22 xq o7 ++ (innR qs ++ (Own.o 73 (m.vs.flatMap u32c) o1 ++ (Own.o 76 (m.es.flatMap edc) o2 ++ [])))))) : LO)) (show _ = ((rowsQ ((oq,(normF (f (m.vs.getD i 0)).xs)) :: qs)).flatMap rowc) from hsf.symm)) ?_
      refine Cfg.setS 12 (show .slice (some ⟨sa1,offa1,none⟩) m.vs.length m.vc = .slice m.va m.vs.length m.vc from congrArg (fun z => Value.slice z m.vs.length m.vc) hva1.symm) ?_
      refine Cfg.permO (O' := ([(x24,.cells #[.slice (Own.a oq) ((f (m.vs.getD i 0)).xs.length) (Own.c oq)] 22 (0,0)),(mb,.cells #[.slice (Own.a o1) m.vs.length (Own.c o1),.slice (Own.a o2) m.es.length (Own.c o2),.slice (Own.a o7) ((rowsQ ((oq,(normF (f (m.vs.getD i 0)).xs)) :: qs)).length) (Own.c o7)] 28 (0,0)),(rs,.cells #[.slice none 0 0,.slice none 0 0,.slice none 0 0] 28 (0,0))] ++ (Own.o 22 ((rowsQ ((oq,(normF (f (m.vs.getD i 0)).xs)) :: qs)).flatMap rowc) o7 ++ (innR ((oq,(normF (f (m.vs.getD i 0)).xs)) :: qs) ++ (Own.o 73 (m.vs.flatMap u32c) o1 ++ (Own.o 76 (m.es.flatMap edc) o2 ++ [])))))) (by exact (List.Perm.append_left _ ((List.perm_append_comm_assoc _ _ _).trans (List.Perm.of_eq (by rw [innR,List.append_assoc]))))) ?_
      refine Cfg.again rfl (i + 1,((oq,(normF (f (m.vs.getD i 0)).xs)) :: qs),o7) ⟨by omega,by rw [hsl]; omega,by rw [hsl,hsf]; exact ko7,(fun p hp9 => (List.mem_cons.1 hp9).elim (fun h9 => by rw [h9]; exact ⟨by show OwnOk oq 1 (normF (f (m.vs.getD i 0)).xs).length _; rw [normF_len]; exact koq,by show (normF (f (m.vs.getD i 0)).xs).length ≤ 320; rw [normF_len]; omega⟩) (hqs p)),hq9⟩ (by show m.vs.length - (i + 1) < m.vs.length - i; omega) (Conv.mk kr) (.cons _ slr)
     ·
      refine Ie rfl  (Eff.buildSlice (e := 22) (cells := #[.slice (Own.a oq) ((f (m.vs.getD i 0)).xs.length) (Own.c oq)]) (parts := #[(0,.slice (Own.a oq) ((f (m.vs.getD i 0)).xs.length) (Own.c oq))]) rfl kr (fun _ => kr)) (fun _ _ => (.cons _ (.cons _ (.cons_cons _ (List.nil_sublist _))))) ?_
      rintro x24 ⟨hx24,nx24⟩
      refine Au 1 rfl 3  (Eff.quiet (raw := false) (orc := some (.slice (Own.a oR) ((rowsQ qs).length) (Own.c oR))) (v := .slice (Own.a oR) ((rowsQ qs).length) (Own.c oR)) (nd := (fun S => [(cE S mb 2 (.slice (Own.a oR) ((rowsQ qs).length) (Own.c oR)))])) (fun _ => kr) ⟨(oC 1 rfl rfl),trivial⟩ kr) (fun _ _ => (.cons _ (.cons _ (.cons_cons _ (List.nil_sublist _))))) ?_
      refine Ae 7 rfl 2  (Eff.appendF rfl 1 24 Tryz.underlying26 kr (z := (.slice none 0 0)) kr kr oR (xs := ((rowsQ qs).flatMap rowc)) h3 kr (b2 := x24) (off2 := 0) (m := 1) (c2 := 1) kr (rowc (rowOf (oq,(normF (f (m.vs.getD i 0)).xs)))) rfl (by intro q hq; rw [List.mem_singleton.1 hq]; rfl) ([(x24,.cells #[.slice (Own.a oq) ((f (m.vs.getD i 0)).xs.length) (Own.c oq)] 22 (0,0)),(mb,.cells #[.slice (Own.a o1) m.vs.length (Own.c o1),.slice (Own.a o2) m.es.length (Own.c o2),.slice (Own.a oR) ((rowsQ qs).length) (Own.c oR)] 28 (0,0)),(rs,.cells #[.slice none 0 0,.slice none 0 0,.slice none 0 0] 28 (0,0))] ++ Own.o 73 ((normF (f (m.vs.getD i 0)).xs).flatMap u32c) oq) (innR qs ++ (Own.o 73 (m.vs.flatMap u32c) o1 ++ (Own.o 76 (m.es.flatMap edc) o2 ++ []))) (by rfl) (fun w1 h j v hj => by rw [show rowc (rowOf (oq,(normF (f (m.vs.getD i 0)).xs))) = [.slice (Own.a oq) (f (m.vs.getD i 0)).xs.length (Own.c oq)] from by show [Value.slice (Own.a oq) (normF (f (m.vs.getD i 0)).xs).length (Own.c oq)] = _; rw [normF_len]] at hj; exact src_arr h 0 rfl hj) om om) (fun _ _ => (.cons _ (.cons _ (.cons_cons _ (List.nil_sublist _))))) ?_
      rintro o8 ko8
      refine Ap [8] [] (some [1,4,5,12,13,14,25,26]) (tF 9 1) (.cons _ (.cons _ (.cons_cons _ (List.nil_sublist _)))) 1 n0 trivial ?_
      refine Au 9 rfl 0  (Eff.store1 (b := mb) (off := 2) (v := .slice (Own.a o8) (((rowsQ qs).length + 1)) (Own.c o8)) rfl kr kr rfl kr 1 (cs := #[.slice (Own.a o1) m.vs.length (Own.c o1),.slice (Own.a o2) m.es.length (Own.c o2),.slice (Own.a oR) ((rowsQ qs).length) (Own.c oR)]) (e := 28) kr (by show 2 < 3; decide)) (fun _ _ => (.cons _ (.cons _ (.cons_cons _ (List.nil_sublist _))))) ?_
      refine CfgA.done kr ?_
      refine Cg (Γ' := [(14,[],iN i),(13,[],iN m.vs.length),(12,[],.slice (some ⟨sa1,offa1,none⟩) m.vs.length m.vc),(5,[],pT mb),(4,[],pT rs),(1,[],.map (some tm))]) ?_
      refine Rg [1,4,5,12,13,14] [] (fun _ => [(i6 ((i : Int) + 1))]) ⟨om,trivial⟩ ?_
      have hq9 := norm_go (f := f) (i := i) om hra oq
      have hsn := rowsQ_snoc (oq,(normF (f (m.vs.getD i 0)).xs)) qs
      have hsl : (rowsQ ((oq,(normF (f (m.vs.getD i 0)).xs)) :: qs)).length = (rowsQ qs).length + 1 := by rw [hsn,List.length_append]; rfl
      have hsf : (rowsQ ((oq,(normF (f (m.vs.getD i 0)).xs)) :: qs)).flatMap rowc = (((rowsQ qs).flatMap rowc) ++ (rowc (rowOf (oq,(normF (f (m.vs.getD i 0)).xs))))) := by rw [hsn]; exact fm_snoc _ _
      have hTl := hT.len _ (K.getD_mem (z := 0) (l := m.vs) (i := i) om)
      refine Cfg.setO (congrArg (fun (xq : Array Value) => (([(x24,.cells #[.slice (Own.a oq) ((f (m.vs.getD i 0)).xs.length) (Own.c oq)] 22 (0,0)),(mb,.cells xq 28 (0,0)),(rs,.cells #[.slice none 0 0,.slice none 0 0,.slice none 0 0] 28 (0,0))] ++ (Own.o 73 ((normF (f (m.vs.getD i 0)).xs).flatMap u32c) oq ++ (Own.o 22 (((rowsQ qs).flatMap rowc) ++ (rowc (rowOf (oq,(normF (f (m.vs.getD i 0)).xs))))) o8 ++ (innR qs ++ (Own.o 73 (m.vs.flatMap u32c) o1 ++ (Own.o 76 (m.es.flatMap edc) o2 ++ [])))))) : LO)) (show _ = #[.slice (Own.a o1) m.vs.length (Own.c o1),.slice (Own.a o2) m.es.length (Own.c o2),.slice (Own.a o8) ((rowsQ ((oq,(normF (f (m.vs.getD i 0)).xs)) :: qs)).length) (Own.c o8)] from by rw [hsl]; rfl)) ?_
      refine Cfg.setO (congrArg (fun (xq : List Value) => (([(x24,.cells #[.slice (Own.a oq) ((f (m.vs.getD i 0)).xs.length) (Own.c oq)] 22 (0,0)),(mb,.cells #[.slice (Own.a o1) m.vs.length (Own.c o1),.slice (Own.a o2) m.es.length (Own.c o2),.slice (Own.a o8) ((rowsQ ((oq,(normF (f (m.vs.getD i 0)).xs)) :: qs)).length) (Own.c o8)] 28 (0,0)),(rs,.cells #[.slice none 0 0,.slice none 0 0,.slice none 0 0] 28 (0,0))] ++ (Own.o 73 ((normF (f (m.vs.getD i 0)).xs).flatMap u32c) oq ++ (Own.o 22 xq o8 ++ (innR qs ++ (Own.o 73 (m.vs.flatMap u32c) o1 ++ (Own.o 76 (m.es.flatMap edc) o2 ++ [])))))) : LO)) (show _ = ((rowsQ ((oq,(normF (f (m.vs.getD i 0)).xs)) :: qs)).flatMap rowc) from hsf.symm)) ?_
      refine Cfg.setS 12 (show .slice (some ⟨sa1,offa1,none⟩) m.vs.length m.vc = .slice m.va m.vs.length m.vc from congrArg (fun z => Value.slice z m.vs.length m.vc) hva1.symm) ?_
      refine Cfg.permO (O' := ([(x24,.cells #[.slice (Own.a oq) ((f (m.vs.getD i 0)).xs.length) (Own.c oq)] 22 (0,0)),(mb,.cells #[.slice (Own.a o1) m.vs.length (Own.c o1),.slice (Own.a o2) m.es.length (Own.c o2),.slice (Own.a o8) ((rowsQ ((oq,(normF (f (m.vs.getD i 0)).xs)) :: qs)).length) (Own.c o8)] 28 (0,0)),(rs,.cells #[.slice none 0 0,.slice none 0 0,.slice none 0 0] 28 (0,0))] ++ (Own.o 22 ((rowsQ ((oq,(normF (f (m.vs.getD i 0)).xs)) :: qs)).flatMap rowc) o8 ++ (innR ((oq,(normF (f (m.vs.getD i 0)).xs)) :: qs) ++ (Own.o 73 (m.vs.flatMap u32c) o1 ++ (Own.o 76 (m.es.flatMap edc) o2 ++ [])))))) (by exact (List.Perm.append_left _ ((List.perm_append_comm_assoc _ _ _).trans (List.Perm.of_eq (by rw [innR,List.append_assoc]))))) ?_
      refine Cfg.again rfl (i + 1,((oq,(normF (f (m.vs.getD i 0)).xs)) :: qs),o8) ⟨by omega,by rw [hsl]; omega,by rw [hsl,hsf]; exact ko8,(fun p hp9 => (List.mem_cons.1 hp9).elim (fun h9 => by rw [h9]; exact ⟨by show OwnOk oq 1 (normF (f (m.vs.getD i 0)).xs).length _; rw [normF_len]; exact koq,by show (normF (f (m.vs.getD i 0)).xs).length ≤ 320; rw [normF_len]; omega⟩) (hqs p)),hq9⟩ (by show m.vs.length - (i + 1) < m.vs.length - i; omega) (Conv.mk kr) (.cons _ slr)
  ·have c1 := (dF c1r)
   refine Cfg.begL rfl ?_
   refine Lp 1 [(dS (.agg #[.slice (Own.a o1) m.vs.length (Own.c o1),.slice (Own.a o2) m.es.length (Own.c o2),.slice (Own.a oR) ((rowsQ qs).length) (Own.c oR)]))] (some [4,28]) (fun S => [(∀ w1,S w1 → (loadVar 28 ⟨mb,0,none⟩).run Tryz.prog w1 = .ok (.agg #[.slice (Own.a o1) m.vs.length (Own.c o1),.slice (Own.a o2) m.es.length (Own.c o2),.slice (Own.a oR) ((rowsQ qs).length) (Own.c oR)]) w1)]) ⟨(fun w1 h => h.oload 0 rfl Tryz.underlying28 rfl (n := 3) kr rfl),trivial⟩ ?_
   refine Lu (Eff.storeN (b := rs) (off := 0) (vs := #[.slice (Own.a o1) m.vs.length (Own.c o1),.slice (Own.a o2) m.es.length (Own.c o2),.slice (Own.a oR) ((rowsQ qs).length) (Own.c oR)]) (n := 3) rfl kr kr kr rfl (by intro q hq; simp only [List.mem_cons,List.not_mem_nil,or_false] at hq; rcases hq with rfl | rfl | rfl <;> rfl) 1 (cs := #[.slice none 0 0,.slice none 0 0,.slice none 0 0]) (e := 28) kr (by decide)) ?_
   refine CfgL.setO (congrArg (fun (xq : Array Value) => (([(mb,.cells #[.slice (Own.a o1) m.vs.length (Own.c o1),.slice (Own.a o2) m.es.length (Own.c o2),.slice (Own.a oR) ((rowsQ qs).length) (Own.c oR)] 28 (0,0)),(rs,.cells xq 28 (0,0))] ++ (Own.o 22 ((rowsQ qs).flatMap rowc) oR ++ (innR qs ++ (Own.o 73 (m.vs.flatMap u32c) o1 ++ (Own.o 76 (m.es.flatMap edc) o2 ++ []))))) : LO)) (show _ = #[.slice (Own.a o1) m.vs.length (Own.c o1),.slice (Own.a o2) m.es.length (Own.c o2),.slice (Own.a oR) ((rowsQ qs).length) (Own.c oR)] from rfl)) ?_
   refine CfgL.done rfl ?_
   refine Cg (Γ' := [(4,[],pT rs)]) ?_
   refine Cfg.ret rfl (rs := [.cell 4 28]) rfl [.agg #[.slice (Own.a o1) m.vs.length (Own.c o1),.slice (Own.a o2) m.es.length (Own.c o2),.slice (Own.a oR) ((rowsQ qs).length) (Own.c oR)]] ⟨⟨_,by kernel_rfl,(fun w1 h => h.oload 1 rfl Tryz.underlying28 rfl (n := 3) kr rfl)⟩,trivial⟩ (fun w1 hp => ?_)
   have hi2 : i = m.vs.length := by omega
   rw [hi2,List.take_length] at hra
   have h9 := hp.sub (.cons _ (.cons _ slr))
   rw [List.append_nil] at h9
   exact ⟨⟨o1,o2,oR,qs⟩,⟨ko1,ko2,h3,hqs,hra⟩,rfl,_,h9⟩
def g10 (lb eb : Nat) : MM := ⟨some ⟨lb,0,none⟩,2,[1,2],some ⟨eb,0,none⟩,1,[(1,1,2)],none,0,[]⟩
theorem g10_in {Rl : List (Nat × Obj)} {lb eb : Nat} (h1 : (lb,Obj.cells (nv [1,2]).toArray 73 (0,0)) ∈ Rl) (h2 : (eb,Obj.cells (edc (1,1,2)).toArray 76 (0,0)) ∈ Rl) : InM Rl (g10 lb eb) :=
 ⟨lit_inf.mono (fun e he => by rw [List.mem_singleton.1 he]; exact h1),(fun _ => ⟨eb,0,_,_,_,rfl,h2,fun j hj => by
  have hj : j < 3 := hj
  rcases (show j = 0 ∨ j = 1 ∨ j = 2 by omega) with rfl | rfl | rfl <;> rfl⟩),(fun h => absurd h (Nat.lt_irrefl 0)),(fun x hx => by cases hx),by show 2 ≤ _ ∧ 1 ≤ _ ∧ 0 ≤ _; decide⟩
abbrev tW (b9 b10 : Nat) : List (Int × Value) := mset (mset [] ((1 : Nat) : Int) (.slice (some ⟨b9,0,none⟩) 1 1)) ((2 : Nat) : Int) (.slice (some ⟨b10,0,none⟩) 1 1)
theorem tuOk {Rl : List (Nat × Obj)} {b9 b10 : Nat} (h1 : (b9,Obj.cells (nv [2]).toArray 73 (0,0)) ∈ Rl) (h2 : (b10,Obj.cells (nv [3]).toArray 73 (0,0)) ∈ Rl) : TuOk Rl (tW b9 b10) (fT b9 b10) [1,2] := by
 refine ⟨fun v hv => ?_,fun v hv => ?_,fun v hv => ?_⟩ <;> simp only [List.mem_cons,List.not_mem_nil,or_false] at hv <;> rcases hv with rfl | rfl
 ·rfl
 ·rfl
 ·exact lit_inf.mono (fun e he => by rw [List.mem_singleton.1 he]; exact h1)
 ·exact lit_inf.mono (fun e he => by rw [List.mem_singleton.1 he]; exact h2)
 ·show 1 ≤ 320 ∧ 1 ≤ 1; decide
 ·show 1 ≤ 320 ∧ 1 ≤ 1; decide
theorem of_rows {q : OfQ} {b9 b10 : Nat} (h : q.Ok [1,2] [(1,1,2)] (fT b9 b10)) : (q.m [1,2] [(1,1,2)]).rs.map RowU.xs = [[2],[3]] := by
 have h1 := h.hr
 show (rowsQ q.qs).map RowU.xs = _
 rw [rowsQ_xs,h1]
 show [normF [2],normF [3]] = _
 rw [ex_norm2,ex_norm3]
theorem of_hu {q : OfQ} {b9 b10 : Nat} (h : q.Ok [1,2] [(1,1,2)] (fT b9 b10)) : ∀ r ∈ (q.m [1,2] [(1,1,2)]).rs,∀ n ∈ r.xs,n < 4294967296 := by
 intro r hr n hn
 have h1 : r.xs ∈ (q.m [1,2] [(1,1,2)]).rs.map RowU.xs := List.mem_map.2 ⟨r,hr,rfl⟩
 rw [of_rows h] at h1
 simp only [List.mem_cons,List.not_mem_nil,or_false] at h1
 rcases h1 with h1 | h1 <;> rw [h1] at hn <;> rw [List.mem_singleton.1 hn] <;> decide
set_option maxRecDepth 100000 in
set_option maxHeartbeats 8000000 in
theorem awake10 (w : World) :
  Calls Tryz.prog 38 #[] w fun e w' => e = .returned (.bool true) ∧ Ext [] w w' := by
 refine enter [] [] [] Tryz.func38 rfl kr (HP.start w) ?_
 refine Rq [] ?_
 refine Cfg.begL rfl ?_
 refine Le (Eff.buildSlice (e := 73) (cells := #[.int .u32 1,.int .u32 2]) (parts := #[(0,.int .u32 1),(1,.int .u32 2)]) rfl kr (fun _ => kr)) ?_
 rintro lb ⟨hlb,nlb⟩
 refine Lp 1 [(dS (.agg (edc (1,1,2)).toArray))] none (fun S => [(∀ w1,S w1 → (Instr.build 76 #[(0,.int .u32 1),(1,.int .u32 1),(2,.int .u32 2)]).run Tryz.prog w1 = .ok (.agg (edc (1,1,2)).toArray) w1)]) ⟨(fun w1 _ => kr),trivial⟩ ?_
 refine Le (Eff.buildAgg (vs := (edc (1,1,2)).toArray) (n := 3) rfl kr Tryz.underlying23 kr (z := (.agg #[.int .u32 0,.int .u32 0,.int .u32 0])) kr rfl (by decide) (by decide)) ?_
 rintro eb ⟨heb,neb⟩
 refine Lp 1 [(dS (.agg (gc (g10 lb eb)).toArray))] (some [6]) (fun S => [(∀ w1,S w1 → (Instr.build 25 #[(0,.slice (some ⟨lb,0,none⟩) 2 2),(1,.slice (some ⟨eb,0,none⟩) 1 1)]).run Tryz.prog w1 = .ok (.agg (gc (g10 lb eb)).toArray) w1)]) ⟨(fun w1 _ => kr),trivial⟩ ?_
 refine Le (Eff.alloc (z := (.agg #[.slice none 0 0,.slice none 0 0])) rfl kr) ?_
 rintro gb ⟨hgb,ngb⟩
 refine Lu (Eff.storeN (b := gb) (off := 0) (vs := (gc (g10 lb eb)).toArray) (n := 2) rfl kr kr kr rfl (by intro q hq; simp only [gc,List.mem_cons,List.not_mem_nil,or_false] at hq; rcases hq with rfl | rfl <;> rfl) 0 (cs := #[.slice none 0 0,.slice none 0 0]) (e := 25) kr (by decide)) ?_
 refine oL 0 rfl (show _ = ((gc (g10 lb eb)).toArray) from rfl) ?_
 refine CfgL.done rfl ?_
 refine Cg (Γ' := [(1,[],pT gb)]) ?_
 refine Cfg.begL rfl ?_
 refine Lp 1 [(dS (.agg (gc (g10 lb eb)).toArray))] (some [7]) (fun S => [(∀ w1,S w1 → (loadVar 25 ⟨gb,0,none⟩).run Tryz.prog w1 = .ok (.agg (gc (g10 lb eb)).toArray) w1)]) ⟨(fun w1 h => h.oload 0 rfl Tryz.underlying25 rfl (n := 2) kr rfl),trivial⟩ ?_
 refine Le (Eff.mapNew rfl) ?_
 rintro tm ⟨htm,ntm⟩
 obtain ⟨x0,hx0⟩ : ∃ x0 : MX,x0 = (#[],0) ∧ WMapOk x0.1 x0.2 [] := ⟨_,rfl,WMapOk.empty _⟩
 refine Le (Eff.buildSlice (e := 73) (cells := #[.int .u32 2]) (parts := #[(0,.int .u32 2)]) rfl kr (fun _ => kr)) ?_
 rintro b9 ⟨hb9,nb9⟩
 refine Le (Eff.wIns (r := tm) (k := ((1 : Nat) : Int)) (u := .slice (some ⟨b9,0,none⟩) 1 1) (es := #[]) (ck := 0) rfl Tryz.underlying115 Tryz.underlying73 kr kr kr (WMapOk.empty 0) 1 kr) ?_
 rintro x1 hx1
 refine Le (Eff.buildSlice (e := 73) (cells := #[.int .u32 3]) (parts := #[(0,.int .u32 3)]) rfl kr (fun _ => kr)) ?_
 rintro b10 ⟨hb10,nb10⟩
 refine Le (Eff.wIns (r := tm) (k := ((2 : Nat) : Int)) (u := .slice (some ⟨b10,0,none⟩) 1 1) (es := x1.1) (ck := x1.2) rfl Tryz.underlying115 Tryz.underlying73 kr kr kr hx1 2 kr) ?_
 rintro x2 hx2
 refine Lq 1 [7,11] ?_
 refine Le (Eff.callH (fun q : OfQ => .agg (mc (q.m [1,2] [(1,1,2)])).toArray) [] (fun q => q.mem [1,2] [(1,1,2)]) (fun q => q.Ok [1,2] [(1,1,2)] (fT b9 b10)) ([(b10,.cells #[.int .u32 3] 73 (0,0)),(b9,.cells #[.int .u32 2] 73 (0,0)),(tm,.map x2.1 x2.2),(gb,.cells ((gc (g10 lb eb)).toArray) 25 (0,0)),(eb,.cells ((edc (1,1,2)).toArray) 76 (0,0)),(lb,.cells #[.int .u32 1,.int .u32 2] 73 (0,0))]) [] (by rfl) rfl Tryz.func63 rfl rfl kr (fun w1 h _ _ => eOf (g10 lb eb) tm x2 (tW b9 b10) (fT b9 b10) [(b10,Obj.cells #[.int .u32 3] 73 (0,0)),(b9,Obj.cells #[.int .u32 2] 73 (0,0)),(tm,Obj.map x2.1 x2.2),(gb,Obj.cells ((gc (g10 lb eb)).toArray) 25 (0,0)),(eb,Obj.cells ((edc (1,1,2)).toArray) 76 (0,0)),(lb,Obj.cells #[.int .u32 1,.int .u32 2] 73 (0,0))] w1 (g10_in (mG 5 rfl) (mG 4 rfl)) h.own hx2 (mG 2 rfl) (tuOk (mG 1 rfl) (mG 0 rfl)) (by show 2 ≤ 64; decide) (by show 1 ≤ 160; decide))) ?_
 rintro q hq
 have hin := hq.inM (by decide) (by decide)
 have hrs := of_rows hq
 have hus := of_hu hq
 refine Le (Eff.alloc (z := (.agg #[.slice none 0 0,.slice none 0 0,.slice none 0 0])) rfl kr) ?_
 rintro mb ⟨hmb,nmb⟩
 refine Lu (Eff.storeN (b := mb) (off := 0) (vs := (mc (q.m [1,2] [(1,1,2)])).toArray) (n := 3) rfl kr kr kr rfl (by intro v hv; simp only [mc,List.mem_cons,List.not_mem_nil,or_false] at hv; rcases hv with rfl | rfl | rfl <;> rfl) 0 (cs := #[.slice none 0 0,.slice none 0 0,.slice none 0 0]) (e := 28) kr (by decide)) ?_
 refine CfgL.setO (congrArg (fun (xq : Array Value) => (([(mb,.cells xq 28 (0,0)),(b10,.cells #[.int .u32 3] 73 (0,0)),(b9,.cells #[.int .u32 2] 73 (0,0)),(tm,.map x2.1 x2.2),(gb,.cells ((gc (g10 lb eb)).toArray) 25 (0,0)),(eb,.cells ((edc (1,1,2)).toArray) 76 (0,0)),(lb,.cells #[.int .u32 1,.int .u32 2] 73 (0,0))] ++ (OfQ.mem q [1,2] [(1,1,2)] ++ [])) : LO)) (show _ = ((mc (q.m [1,2] [(1,1,2)])).toArray) from rfl)) ?_
 refine CfgL.done rfl ?_
 refine Cg (Γ' := [(2,[],pT mb)]) ?_
 refine Cfg.begL rfl ?_
 refine Lp 1 [(dS (.agg (mc (q.m [1,2] [(1,1,2)])).toArray))] none (fun S => [(∀ w1,S w1 → (loadVar 28 ⟨mb,0,none⟩).run Tryz.prog w1 = .ok (.agg (mc (q.m [1,2] [(1,1,2)])).toArray) w1)]) ⟨(fun w1 h => h.oload 0 rfl Tryz.underlying28 rfl (n := 3) kr rfl),trivial⟩ ?_
 refine Lu (Eff.callA (vs := [.agg (mc (q.m [1,2] [(1,1,2)])).toArray]) (.int .i64 0) rfl Tryz.func39 rfl rfl kr (fun w1 h => by have h9 := rRight (q.m [1,2] [(1,1,2)]) (q.mem [1,2] [(1,1,2)]) w1 hin (fun e he => h.own e (show e ∈ ([(mb,Obj.cells ((mc (q.m [1,2] [(1,1,2)])).toArray) 28 (0,0)),(b10,Obj.cells #[.int .u32 3] 73 (0,0)),(b9,Obj.cells #[.int .u32 2] 73 (0,0)),(tm,Obj.map x2.1 x2.2),(gb,Obj.cells ((gc (g10 lb eb)).toArray) 25 (0,0)),(eb,Obj.cells ((edc (1,1,2)).toArray) 76 (0,0)),(lb,Obj.cells #[.int .u32 1,.int .u32 2] 73 (0,0))] ++ (OfQ.mem q [1,2] [(1,1,2)] ++ [])) from mR (mL he))) hus; rw [show (q.m [1,2] [(1,1,2)]).vs = [1,2] from rfl,show (q.m [1,2] [(1,1,2)]).es = [(1,1,2)] from rfl,hrs,ex_right] at h9; exact h9)) ?_
 refine Lp 3 [dZ,dZ,(1,false,some (.agg (mc (q.m [1,2] [(1,1,2)])).toArray))] (some [2,16,17]) (fun S => [((.bool true : Value) = .bool true),(∀ w1,S w1 → (loadVar 28 ⟨mb,0,none⟩).run Tryz.prog w1 = .ok (.agg (mc (q.m [1,2] [(1,1,2)])).toArray) w1)]) ⟨rfl,(fun w1 h => h.oload 0 rfl Tryz.underlying28 rfl (n := 3) kr rfl),trivial⟩ ?_
 refine Le (Eff.callH (vs := [.agg (mc (q.m [1,2] [(1,1,2)])).toArray]) (fun q : Option Addr × Nat => .slice q.1 1 q.2) [] (fun _ => []) (fun _ => True) [] (([(mb,Obj.cells ((mc (q.m [1,2] [(1,1,2)])).toArray) 28 (0,0)),(b10,Obj.cells #[.int .u32 3] 73 (0,0)),(b9,Obj.cells #[.int .u32 2] 73 (0,0)),(tm,Obj.map x2.1 x2.2),(gb,Obj.cells ((gc (g10 lb eb)).toArray) 25 (0,0)),(eb,Obj.cells ((edc (1,1,2)).toArray) 76 (0,0)),(lb,Obj.cells #[.int .u32 1,.int .u32 2] 73 (0,0))] ++ (OfQ.mem q [1,2] [(1,1,2)] ++ []))) rfl rfl Tryz.func64 rfl rfl kr (fun w1 h _ _ => by have h9 := rFaces (q.m [1,2] [(1,1,2)]) (q.mem [1,2] [(1,1,2)]) w1 hin (fun e he => h.own e (show e ∈ ([(mb,Obj.cells ((mc (q.m [1,2] [(1,1,2)])).toArray) 28 (0,0)),(b10,Obj.cells #[.int .u32 3] 73 (0,0)),(b9,Obj.cells #[.int .u32 2] 73 (0,0)),(tm,Obj.map x2.1 x2.2),(gb,Obj.cells ((gc (g10 lb eb)).toArray) 25 (0,0)),(eb,Obj.cells ((edc (1,1,2)).toArray) 76 (0,0)),(lb,Obj.cells #[.int .u32 1,.int .u32 2] 73 (0,0))] ++ (OfQ.mem q [1,2] [(1,1,2)] ++ [])) from mR (mL he))) (graphF_ok (show graphF [1,2] [(1,1,2)] = 0 by decide)) (univ_lt (fun x hx => by rw [List.mem_singleton.1 hx]; decide) (fun t ht n hn => by obtain ⟨r,h1,rfl⟩ := List.mem_map.1 ht; exact hus r h1 n hn)) (by rw [hrs]; show 5 ≤ 1000000; decide); rw [show (q.m [1,2] [(1,1,2)]).es = [(1,1,2)] from rfl,hrs,ex_faces] at h9; exact h9)) ?_
 rintro q1 -
 refine Lp 4 [(1,false,none),(1,false,none)] (some [2,22]) (fun _ => [((.bool true : Value) = .bool true),((.bool true : Value) = .bool true)]) ⟨rfl,rfl,trivial⟩ ?_
 refine CfgL.known 22 (b := ((1 : Int) == (1 : Int))) kr true (by decide) ?_
 refine Lp 1 [(1,false,some (.agg (mc (q.m [1,2] [(1,1,2)])).toArray))] (some [22,23]) (fun S => [((.bool true : Value) = .bool true),(∀ w1,S w1 → (loadVar 28 ⟨mb,0,none⟩).run Tryz.prog w1 = .ok (.agg (mc (q.m [1,2] [(1,1,2)])).toArray) w1)]) ⟨rfl,(fun w1 h => h.oload 0 rfl Tryz.underlying28 rfl (n := 3) kr rfl),trivial⟩ ?_
 refine Lu (Eff.callA (vs := [.agg (mc (q.m [1,2] [(1,1,2)])).toArray]) (.int .i64 0) rfl Tryz.func65 rfl rfl kr (fun w1 h => by have h9 := rGenus (q.m [1,2] [(1,1,2)]) (q.mem [1,2] [(1,1,2)]) w1 hin (fun e he => h.own e (show e ∈ ([(mb,Obj.cells ((mc (q.m [1,2] [(1,1,2)])).toArray) 28 (0,0)),(b10,Obj.cells #[.int .u32 3] 73 (0,0)),(b9,Obj.cells #[.int .u32 2] 73 (0,0)),(tm,Obj.map x2.1 x2.2),(gb,Obj.cells ((gc (g10 lb eb)).toArray) 25 (0,0)),(eb,Obj.cells ((edc (1,1,2)).toArray) 76 (0,0)),(lb,Obj.cells #[.int .u32 1,.int .u32 2] 73 (0,0))] ++ (OfQ.mem q [1,2] [(1,1,2)] ++ [])) from mR (mL he))) (graphF_ok (show graphF [1,2] [(1,1,2)] = 0 by decide)) (univ_lt (fun x hx => by rw [List.mem_singleton.1 hx]; decide) (fun t ht n hn => by obtain ⟨r,h1,rfl⟩ := List.mem_map.1 ht; exact hus r h1 n hn)) (by rw [hrs]; show 5 ≤ 1000000; decide) (by show ([1,2] : List Nat).Nodup; decide); rw [show (q.m [1,2] [(1,1,2)]).vs = [1,2] from rfl,show (q.m [1,2] [(1,1,2)]).es = [(1,1,2)] from rfl,hrs,ex_genus] at h9; exact h9)) ?_
 refine Lp 3 [(1,false,none)] (some [27]) (fun _ => [((.bool true : Value) = .bool true)]) ⟨rfl,trivial⟩ ?_
 refine Lu (Eff.callA (.bool true) rfl Tryz.func66 rfl rfl kr (fun w1 h => awake9A w1)) ?_
 refine Ld 2 [0] ?_
 refine Cfg.ret rfl (rs := [.tmp 0]) rfl [.bool true] ⟨kr,trivial⟩ (fun w1 hp => ?_)
 exact ⟨rfl,hp.ext⟩
set_option maxRecDepth 100000 in
theorem awake10A (w : World) :
  Calls Tryz.prog 13 #[] w fun e w' => e = .returned (.bool true) ∧ Ext [] w w' := by
 refine enter [] [] [] Tryz.func13 rfl kr (HP.start w) ?_
 refine Rq [] ?_
 refine Cfg.begL rfl ?_
 refine Lu (Eff.callA (.bool true) rfl Tryz.func38 rfl rfl kr (fun w1 h => awake10 w1)) ?_
 refine Ld 1 [0] ?_
 refine Cfg.ret rfl (rs := [.tmp 0]) rfl [.bool true] ⟨kr,trivial⟩ (fun w1 hp => ?_)
 exact ⟨rfl,hp.ext⟩
end Go.Proofs.YtbeeelgfhfmgbaaGreatDoor
namespace Go.Proofs.YtbeeelgfhfmgbaaGreatDoor
open K
set_option linter.unusedVariables false
theorem inS_dig (bk : Nat) (t : TypeId) (fr : Nat × Nat) (d : List UInt8) (h : d.length = 32) : InS [(bk,.cells (bv d) t fr)] (some ⟨bk,0,none⟩) ([d].length * 32) (fun j => .int .u8 ((([d].getD (j / 32) []).getD (j % 32) 0).toNat : Int)) := by
 intro _
 refine ⟨bk,0,_,t,fr,rfl,List.mem_singleton.2 rfl,fun j hj => ?_⟩
 simp only [List.length_cons,List.length_nil] at hj
 rw [Nat.zero_add,bv_get h om]
 simp only [show j / 32 = 0 by omega,show j % 32 = j by omega]
 rfl
theorem wDigest1 (l d : List UInt8) (bk : Nat) (t : TypeId) (w : World) (h : d.length = 32) (hr : l.length + 32 ≤ 140737488355328) (hh : Has w [(bk,.cells (bv d) t (0,0))]) :
  Calls Tryz.prog 18 #[.agg #[.string (tx l)],.slice (some ⟨bk,0,none⟩) 1 1] w fun e w' => e = .returned (.agg #[.string (tx (l ++ d))]) ∧ Ext [] w w' := by
 have := wDigest (tx l) (some ⟨bk,0,none⟩) 1 [d] [(bk,.cells (bv d) t (0,0))] w (inS_dig bk t (0,0) d h) hh (by simp [maxLen]) (by rw [flat_one,tx_size]; show _ + d.length ≤ _; omega) (fun i hi => by
  obtain rfl : i = 0 := by simpa using hi
  exact h)
 rw [flat_one] at this
 exact this
theorem rowG_room {α : Type} {f : α → List UInt8} {s : ByteArray} {xs : List α} {m : Nat} (hr : s.size + (four xs.length ++ flat f xs).length ≤ m) : s.size + (flat four [xs.length]).length ≤ m := by
 rw [List.length_append] at hr
 rw [flat_one]; omega
theorem inS_three (bk : Nat) (t : TypeId) (fr : Nat × Nat) (a b c : Nat) : InS [(bk,.cells #[.int .u32 (a : Int),.int .u32 (b : Int),.int .u32 (c : Int)] t fr)] (some ⟨bk,0,none⟩) [a,b,c].length (fun j => .int .u32 (([a,b,c].getD j 0 : Nat) : Int)) := by
 intro _
 refine ⟨bk,0,_,t,fr,rfl,List.mem_singleton.2 rfl,fun j hj => ?_⟩
 have hj : j < 3 := hj
 rw [Nat.zero_add]
 rcases (show j = 0 ∨ j = 1 ∨ j = 2 by omega) with rfl | rfl | rfl <;> rfl
theorem three_get {a b c m : Nat} (ha : a < m) (hb : b < m) (hc : c < m) (i : Nat) : [a,b,c].getD i 0 < m := by
 rcases i with _ | _ | _ | i
 ·exact ha
 ·exact hb
 ·exact hc
 ·show 0 < m; omega
theorem edL_flat (x : Ed) : edL x = flat four [x.1,x.2.1,x.2.2] := by unfold edL flat; rw [List.flatMap_cons,List.flatMap_cons,List.flatMap_cons,List.flatMap_nil,List.append_nil]
theorem edL_len (x : Ed) : (edL x).length = 12 := by unfold edL; rw [List.length_append,List.length_append]; unfold four; rw [be_len,be_len,be_len]
def E32 (x : Ed) : Prop := x.1 < 4294967296 ∧ x.2.1 < 4294967296 ∧ x.2.2 < 4294967296
set_option maxRecDepth 100000 in
theorem layU (s : ByteArray) (x : Nat) (w : World) (hx : x < 4294967296) (hr : s.size + 4 ≤ 140737488355328) :
  Calls Tryz.prog 44 #[.agg #[.string s],.int .u32 (x : Int)] w fun e w' => e = .returned (.agg #[.string (tx (s.data.toList ++ four x))]) ∧ Ext [] w w' := by
 have hts := tx_size
 refine enter [] [] [] Tryz.func44 rfl kr (HP.start w) ?_
 refine Cfg.begL rfl ?_
 refine Le (Eff.box (v := .agg #[.string s]) rfl kr) ?_
 rintro o ⟨ho,no⟩
 refine Le (Eff.alloc (z := (.agg #[.string ByteArray.empty])) rfl kr) ?_
 rintro rs ⟨hrs,nrs⟩
 refine CfgL.done rfl ?_
 refine Cg (Γ' := [(4,[],pT rs),(2,[],pT o),(1,[],uN x)]) ?_
 refine Cfg.begL rfl ?_
 refine Lp 2 [(dS (.agg #[.string s]))] (some [4,5,6]) (fun S => [(∀ w1,S w1 → (loadVar 54 ⟨o,0,none⟩).run Tryz.prog w1 = .ok (.agg #[.string s]) w1)]) ⟨(fun w1 h => h.oload 1 rfl Tryz.underlying54 rfl (n := 1) kr rfl),trivial⟩ ?_
 refine Le (Eff.buildSlice (e := 73) (cells := #[uN x]) (parts := #[(0,uN x)]) rfl kr (fun _ => kr)) ?_
 rintro x3 ⟨hx3,nx3⟩
 refine Lu (Eff.callA (.agg #[.string (tx (s.data.toList ++ flat four [x]))]) rfl Tryz.func47 rfl rfl kr (fun w1 h => wFour s (some ⟨x3,0,none⟩) 1 [x] [(x3,.cells #[uN x] 73 (0,0))] w1 (inS_num x3 73 (0,0) .u32 x) (h.has (fun e he => mG 0 (by rw [List.mem_singleton.1 he]; rfl))) (by simp [maxLen]) (by rw [flat_one]; have : (four x).length = 4 := be_len _ _; omega) (one_get hx (by decide)))) ?_
 refine Lu (Eff.storeN (b := rs) (off := 0) (vs := #[.string (tx (s.data.toList ++ flat four [x]))]) (n := 1) rfl kr kr kr rfl (by simp [K.one]) 1 (cs := #[.string ByteArray.empty]) (e := 54) kr (by simp)) ?_
 refine oL 1 rfl (show _ = #[.string (tx (s.data.toList ++ flat four [x]))] from rfl) ?_
 refine CfgL.done rfl ?_
 refine Cg (Γ' := [(4,[],pT rs)]) ?_
 refine Cfg.ret rfl (rs := [.cell 4 54]) rfl [.agg #[.string (tx (s.data.toList ++ flat four [x]))]] ⟨⟨_,by kernel_rfl,(fun w1 h => h.oload 1 rfl Tryz.underlying54 rfl (n := 1) kr rfl)⟩,trivial⟩ (fun w1 hp => ?_)
 exact ⟨by rw [flat_one]; rfl,hp.ext⟩
set_option maxRecDepth 100000 in
theorem layE (s : ByteArray) (x : Ed) (w : World) (hx : E32 x) (hr : s.size + 12 ≤ 140737488355328) :
  Calls Tryz.prog 46 #[.agg #[.string s],.agg (edc x).toArray] w fun e w' => e = .returned (.agg #[.string (tx (s.data.toList ++ edL x))]) ∧ Ext [] w w' := by
 have hts := tx_size
 refine enter [] [] [] Tryz.func46 rfl kr (HP.start w) ?_
 refine Cfg.begL rfl ?_
 refine Le (Eff.box (v := .agg #[.string s]) rfl kr) ?_
 rintro o ⟨ho,no⟩
 refine Le (Eff.box (v := .agg (edc x).toArray) rfl kr) ?_
 rintro xb ⟨hxb,nxb⟩
 refine Le (Eff.alloc (z := (.agg #[.string ByteArray.empty])) rfl kr) ?_
 rintro rs ⟨hrs,nrs⟩
 refine CfgL.done rfl ?_
 refine Cg (Γ' := [(4,[],pT rs),(3,[],pT xb),(2,[],pT o)]) ?_
 refine Cfg.begL rfl ?_
 refine Lp 7 [(dS (.agg #[.string s])),dZ,(dS (uN x.1)),dZ,(dS (uN x.2.1)),dZ,(dS (uN x.2.2))] (some [4,5,7,9,11]) (fun S => [(∀ w1,S w1 → (loadVar 54 ⟨o,0,none⟩).run Tryz.prog w1 = .ok (.agg #[.string s]) w1),(cE S xb 0 (uN x.1)),(cE S xb 1 (uN x.2.1)),(cE S xb 2 (uN x.2.2))]) ⟨(fun w1 h => h.oload 2 rfl Tryz.underlying54 rfl (n := 1) kr rfl),(oC 1 rfl rfl),(oC 1 rfl rfl),(oC 1 rfl rfl),trivial⟩ ?_
 refine Le (Eff.buildSlice (e := 73) (cells := #[uN x.1,uN x.2.1,uN x.2.2]) (parts := #[(0,uN x.1),(1,uN x.2.1),(2,uN x.2.2)]) rfl kr (fun _ => kr)) ?_
 rintro x4 ⟨hx4,nx4⟩
 refine Lu (Eff.callA (.agg #[.string (tx (s.data.toList ++ flat four [x.1,x.2.1,x.2.2]))]) rfl Tryz.func47 rfl rfl kr (fun w1 h => wFour s (some ⟨x4,0,none⟩) 3 [x.1,x.2.1,x.2.2] [(x4,.cells #[uN x.1,uN x.2.1,uN x.2.2] 73 (0,0))] w1 (inS_three x4 73 (0,0) x.1 x.2.1 x.2.2) (h.has (fun e he => mG 0 (by rw [List.mem_singleton.1 he]; rfl))) (by simp [maxLen]) (by rw [← edL_flat,edL_len]; exact hr) (three_get hx.1 hx.2.1 hx.2.2))) ?_
 refine Lu (Eff.storeN (b := rs) (off := 0) (vs := #[.string (tx (s.data.toList ++ flat four [x.1,x.2.1,x.2.2]))]) (n := 1) rfl kr kr kr rfl (by simp [K.one]) 1 (cs := #[.string ByteArray.empty]) (e := 54) kr (by simp)) ?_
 refine oL 1 rfl (show _ = #[.string (tx (s.data.toList ++ flat four [x.1,x.2.1,x.2.2]))] from rfl) ?_
 refine CfgL.done rfl ?_
 refine Cg (Γ' := [(4,[],pT rs)]) ?_
 refine Cfg.ret rfl (rs := [.cell 4 54]) rfl [.agg #[.string (tx (s.data.toList ++ flat four [x.1,x.2.1,x.2.2]))]] ⟨⟨_,by kernel_rfl,(fun w1 h => h.oload 1 rfl Tryz.underlying54 rfl (n := 1) kr rfl)⟩,trivial⟩ (fun w1 hp => ?_)
 exact ⟨by rw [edL_flat]; rfl,hp.ext⟩
set_option maxRecDepth 100000 in
theorem layD (s : ByteArray) (x : List UInt8) (w : World) (hx : x.length = 32) (hr : s.size + 32 ≤ 140737488355328) :
  Calls Tryz.prog 20 #[.agg #[.string s],.agg (bv x)] w fun e w' => e = .returned (.agg #[.string (tx (s.data.toList ++ x))]) ∧ Ext [] w w' := by
 have hts := tx_size
 refine enter [] [] [] Tryz.func20 rfl kr (HP.start w) ?_
 refine Cfg.begL rfl ?_
 refine Le (Eff.box (v := .agg #[.string s]) rfl kr) ?_
 rintro o ⟨ho,no⟩
 refine Le (Eff.box (v := .agg (bv x)) rfl kr) ?_
 rintro xb ⟨hxb,nxb⟩
 refine Le (Eff.alloc (z := (.agg #[.string ByteArray.empty])) rfl kr) ?_
 rintro rs ⟨hrs,nrs⟩
 refine CfgL.done rfl ?_
 refine Cg (Γ' := [(4,[],pT rs),(3,[],pT xb),(2,[],pT o)]) ?_
 refine Cfg.begL rfl ?_
 refine Lp 2 [(dS (.agg #[.string s])),(dS (.agg (bv x)))] (some [4,5,6]) (fun S => [(∀ w1,S w1 → (loadVar 54 ⟨o,0,none⟩).run Tryz.prog w1 = .ok (.agg #[.string s]) w1),(∀ w1,S w1 → (loadVar 30 ⟨xb,0,none⟩).run Tryz.prog w1 = .ok (.agg (bv x)) w1)]) ⟨(fun w1 h => h.oload 2 rfl Tryz.underlying54 rfl (n := 1) kr rfl),(fun w1 h => h.oload 1 rfl Tryz.underlying30 rfl (n := 32) kr ((bv_size _).trans hx)),trivial⟩ ?_
 refine Le (Eff.buildAgg (vs := (bv x)) (n := 32) rfl kr Tryz.underlying31 kr (z := (.agg #[.int .u8 0,.int .u8 0,.int .u8 0,.int .u8 0,.int .u8 0,.int .u8 0,.int .u8 0,.int .u8 0,.int .u8 0,.int .u8 0,.int .u8 0,.int .u8 0,.int .u8 0,.int .u8 0,.int .u8 0,.int .u8 0,.int .u8 0,.int .u8 0,.int .u8 0,.int .u8 0,.int .u8 0,.int .u8 0,.int .u8 0,.int .u8 0,.int .u8 0,.int .u8 0,.int .u8 0,.int .u8 0,.int .u8 0,.int .u8 0,.int .u8 0,.int .u8 0])) kr ((bv_size _).trans hx) (by decide) (by decide)) ?_
 rintro x4 ⟨hx4,nx4⟩
 refine Lu (Eff.callA (.agg #[.string (tx (s.data.toList ++ x))]) rfl Tryz.func18 rfl rfl kr (fun w1 h => wDigest1 s.data.toList x x4 30 w1 hx (by rw [ba_len]; exact hr) (h.has (fun e he => mG 0 (by rw [List.mem_singleton.1 he]; rfl))))) ?_
 refine Lu (Eff.storeN (b := rs) (off := 0) (vs := #[.string (tx (s.data.toList ++ x))]) (n := 1) rfl kr kr kr rfl (by simp [K.one]) 1 (cs := #[.string ByteArray.empty]) (e := 54) kr (by simp)) ?_
 refine oL 1 rfl (show _ = #[.string (tx (s.data.toList ++ x))] from rfl) ?_
 refine CfgL.done rfl ?_
 refine Cg (Γ' := [(4,[],pT rs)]) ?_
 refine Cfg.ret rfl (rs := [.cell 4 54]) rfl [.agg #[.string (tx (s.data.toList ++ x))]] ⟨⟨_,by kernel_rfl,(fun w1 h => h.oload 1 rfl Tryz.underlying54 rfl (n := 1) kr rfl)⟩,trivial⟩ (fun w1 hp => ?_)
 exact ⟨rfl,hp.ext⟩
set_option maxRecDepth 100000 in
set_option maxHeartbeats 4000000 in
theorem wRowU (s : ByteArray) (la : Option Addr) (cap : Nat) (xs : List Nat) (Rl : List (Nat × Obj)) (w : World) (hI : InF u32c 1 Rl la xs) (hW : ∀ x ∈ xs,x < 4294967296) (hR : Has w Rl) (hn : xs.length ≤ maxLen) (h32 : xs.length < 4294967296) (hr : s.size + (rowU xs).length ≤ 140737488355328) :
  Calls Tryz.prog 43 #[.agg #[.string s],.slice la xs.length cap,.func (.func 44) #[] #[]] w fun e w' => e = .returned (.agg #[.string (tx (s.data.toList ++ rowU xs))]) ∧ Ext [] w w' := by
 unfold maxLen at hn
 have hts := tx_size
 refine enter [] Rl [] Tryz.func43 rfl kr (HP.ofHas hR) ?_
 refine Cfg.begL rfl ?_
 refine Le (Eff.box (v := .agg #[.string s]) rfl kr) ?_
 rintro o ⟨ho,no⟩
 refine Le (Eff.alloc (z := (.agg #[.string ByteArray.empty])) rfl kr) ?_
 rintro rs ⟨hrs,nrs⟩
 refine CfgL.done rfl ?_
 refine Cg (Γ' := [(6,[],pT rs),(3,[],pT o),(1,[],.slice la xs.length cap),(2,[],.func (.func 44) #[] #[])]) ?_
 have hmod : ((xs.length : Int) % 4294967296) = (xs.length : Int) := by omega
 refine Cfg.begL rfl ?_
 refine Lp 4 [(dS (.agg #[.string s]))] (some [1,2,3,6,9,12]) (fun S => [(∀ w1,S w1 → (loadVar 54 ⟨o,0,none⟩).run Tryz.prog w1 = .ok (.agg #[.string s]) w1)]) ⟨(fun w1 h => h.oload 1 rfl Tryz.underlying54 rfl (n := 1) kr rfl),trivial⟩ ?_
 refine Le (Eff.buildSlice (e := 73) (cells := #[.int .u32 ((xs.length : Int) % 4294967296)]) (parts := #[(0,.int .u32 ((xs.length : Int) % 4294967296))]) rfl kr (fun _ => kr)) ?_
 rintro x3 ⟨hx3,nx3⟩
 refine Lu (Eff.callA (.agg #[.string (tx (s.data.toList ++ flat four [xs.length]))]) rfl Tryz.func47 rfl rfl kr (fun w1 h => wFour s (some ⟨x3,0,none⟩) 1 [xs.length] [(x3,.cells #[uN xs.length] 73 (0,0))] w1 (inS_num x3 73 (0,0) .u32 xs.length) (by have hq := h.own (x3,.cells #[.int .u32 ((xs.length : Int) % 4294967296)] 73 (0,0)) (mG 0 rfl); rw [hmod] at hq; intro e he; rw [List.mem_singleton.1 he]; exact hq) (by simp [maxLen]) (rowG_room (f := four) hr) (one_get h32 (by decide)))) ?_
 refine Lu (Eff.storeN (b := o) (off := 0) (vs := #[.string (tx (s.data.toList ++ flat four [xs.length]))]) (n := 1) rfl kr kr kr rfl (by simp [K.one]) 2 (cs := #[.string s]) (e := 54) kr (by simp)) ?_
 refine oL 2 rfl (show _ = #[.string (tx (s.data.toList ++ flat four [xs.length]))] from rfl) ?_
 refine CfgL.done rfl ?_
 refine Cg (Γ' := [(6,[],pT rs),(3,[],pT o),(1,[],.slice la xs.length cap),(2,[],.func (.func 44) #[] #[])]) ?_
 refine Rq [2,3,6,15,16,17] ?_
 refine oB 2 rfl (show _ = #[.string (tx (s.data.toList ++ (four xs.length ++ flat four (xs.take 0))))] from by rw [flat_one,List.take_zero,flat_nil,List.append_nil]) ?_
 refine Cfg.loop rfl (ι := Nat) (fun (i : Nat) => [(17,[],iN i),(16,[],iN xs.length),(15,[],.slice la xs.length cap),(6,[],pT rs),(3,[],pT o),(2,[],.func (.func 44) #[] #[])]) (fun (i : Nat) => [(rs,.cells #[.string ByteArray.empty] 54 (0,0)),(o,.cells #[.string (tx (s.data.toList ++ (four xs.length ++ flat four (xs.take i))))] 54 (0,0))]) (fun (i : Nat) => (i ≤ xs.length)) (fun (i : Nat) => xs.length - i) 0 ?_ (Conv.mk kr) (.cons _ (.cons_cons _ (.cons_cons _ .slnil))) ?_
 ·exact Nat.zero_le _
 ·rintro i hi
  refine Rq [2,3,6,15,16,17,18] ?_
  refine Cfg.cond rfl (b := (decide ((i : Int) < (xs.length : Int)))) kr (fun c1r => ?_) (fun c1r => ?_)
  ·have c1 := (dT c1r)
   have hroom : (tx (s.data.toList ++ (four xs.length ++ flat four (xs.take i)))).size + 4 ≤ 140737488355328 := by
    have hel : (four (xs.getD i 0)).length = 4 := be_len _ _
    have hpt := flat_part (f := four) (l := xs) (i := i) 0 om
    have h1 : (rowU xs).length = (four xs.length).length + (flat four xs).length := by unfold rowU; rw [List.length_append]
    rw [tx_size,List.length_append,List.length_append,ba_len]; omega
   obtain ⟨sb,off,cs,te,fre,rfl,hmem,hcs⟩ := hI om
   refine Conv.cfg (Γ' := [(18,[],.bool (decide ((i : Int) < (xs.length : Int)))),(17,[],iN i),(16,[],iN xs.length),(15,[],.slice (some ⟨sb,off,none⟩) xs.length cap),(6,[],pT rs),(3,[],pT o),(2,[],.func (.func 44) #[] #[])]) (Conv.mk kr) ?_
   refine Rg [2,3,6,8,15,16,17] [dZ,(dS (uN (xs.getD i 0)))] (fun S => [(0 ≤ (i : Int) ∧ (i : Int) < (xs.length : Int)),(cE S sb (addO off i) (uN (xs.getD i 0)))]) ⟨om,(fun w1 h => by rw [addO_eq]; exact (cell_cells (h.ro _ hmem)).trans (fl_one (g := fun n : Nat => uN n) 0 hcs om)),trivial⟩ ?_
   refine Cfg.begL rfl ?_
   refine Lp 3 [dZ,(dS (.agg #[.string (tx (s.data.toList ++ (four xs.length ++ flat four (xs.take i))))]))] (some [2,3,6,15,16,17,21,22,23]) (fun S => [(∀ w1,S w1 → (loadVar 54 ⟨o,0,none⟩).run Tryz.prog w1 = .ok (.agg #[.string (tx (s.data.toList ++ (four xs.length ++ flat four (xs.take i))))]) w1)]) ⟨(fun w1 h => h.oload 1 rfl Tryz.underlying54 rfl (n := 1) kr rfl),trivial⟩ ?_
   refine Lu (Eff.callAV (.agg #[.string (tx ((tx (s.data.toList ++ (four xs.length ++ flat four (xs.take i)))).data.toList ++ four (xs.getD i 0)))]) rfl kr Tryz.func44 rfl rfl kr (fun w1 h => layU _ _ w1 (hW _ (K.getD_mem (z := 0) (l := xs) (i := i) om)) hroom)) ?_
   refine Lu (Eff.storeN (b := o) (off := 0) (vs := #[.string (tx ((tx (s.data.toList ++ (four xs.length ++ flat four (xs.take i)))).data.toList ++ four (xs.getD i 0)))]) (n := 1) rfl kr kr kr rfl (by simp [K.one]) 1 (cs := #[.string (tx (s.data.toList ++ (four xs.length ++ flat four (xs.take i))))]) (e := 54) kr (by simp)) ?_
   refine oL 1 rfl (show _ = #[.string (tx ((tx (s.data.toList ++ (four xs.length ++ flat four (xs.take i)))).data.toList ++ four (xs.getD i 0)))] from rfl) ?_
   refine CfgL.done rfl ?_
   refine Cg (Γ' := [(17,[],iN i),(16,[],iN xs.length),(15,[],.slice (some ⟨sb,off,none⟩) xs.length cap),(6,[],pT rs),(3,[],pT o),(2,[],.func (.func 44) #[] #[])]) ?_
   refine Rg [2,3,6,15,16,17] [] (fun _ => [(i6 ((i : Int) + 1))]) ⟨om,trivial⟩ ?_
   refine oB 1 rfl (show _ = #[.string (tx (s.data.toList ++ (four xs.length ++ flat four (xs.take (i + 1)))))] from by rw [tx_list,flat_succ 0 om,List.append_assoc,List.append_assoc]) ?_
   refine Cfg.again rfl (i + 1) (show i + 1 ≤ xs.length by omega) om (Conv.mk kr) (.cons_cons _ (.cons_cons _ .slnil))
  ·have c1 := (dF c1r)
   obtain rfl : i = xs.length := by omega
   refine oB 1 rfl (show _ = #[.string (tx (s.data.toList ++ rowU xs))] from by rw [List.take_length]; rfl) ?_
   refine Conv.cfg (Γ' := [(16,[],iN xs.length),(15,[],.slice la xs.length cap),(6,[],pT rs),(3,[],pT o),(2,[],.func (.func 44) #[] #[])]) (Conv.mk kr) ?_
   refine Cfg.begL rfl ?_
   refine Lp 1 [(dS (.agg #[.string (tx (s.data.toList ++ rowU xs))]))] (some [6,26]) (fun S => [(∀ w1,S w1 → (loadVar 54 ⟨o,0,none⟩).run Tryz.prog w1 = .ok (.agg #[.string (tx (s.data.toList ++ rowU xs))]) w1)]) ⟨(fun w1 h => h.oload 1 rfl Tryz.underlying54 rfl (n := 1) kr rfl),trivial⟩ ?_
   refine Lu (Eff.storeN (b := rs) (off := 0) (vs := #[.string (tx (s.data.toList ++ rowU xs))]) (n := 1) rfl kr kr kr rfl (by simp [K.one]) 0 (cs := #[.string ByteArray.empty]) (e := 54) kr (by simp)) ?_
   refine CfgL.setO (congrArg (fun (xq : Array Value) => ([(rs,.cells xq 54 (0,0)),(o,.cells #[.string (tx (s.data.toList ++ rowU xs))] 54 (0,0))] : LO)) (show _ = #[.string (tx (s.data.toList ++ rowU xs))] from rfl)) ?_
   refine CfgL.done rfl ?_
   refine Cg (Γ' := [(6,[],pT rs)]) ?_
   refine Cfg.ret rfl (rs := [.cell 6 54]) rfl [.agg #[.string (tx (s.data.toList ++ rowU xs))]] ⟨⟨_,by kernel_rfl,(fun w1 h => h.oload 0 rfl Tryz.underlying54 rfl (n := 1) kr rfl)⟩,trivial⟩ (fun w1 hp => ?_)
   exact ⟨rfl,hp.ext⟩
set_option maxRecDepth 100000 in
set_option maxHeartbeats 4000000 in
theorem wRowE (s : ByteArray) (la : Option Addr) (cap : Nat) (xs : List Ed) (Rl : List (Nat × Obj)) (w : World) (hI : InF edc 3 Rl la xs) (hW : ∀ x ∈ xs,E32 x) (hR : Has w Rl) (hn : xs.length ≤ maxLen) (h32 : xs.length < 4294967296) (hr : s.size + (rowE xs).length ≤ 140737488355328) :
  Calls Tryz.prog 45 #[.agg #[.string s],.slice la xs.length cap,.func (.func 46) #[] #[]] w fun e w' => e = .returned (.agg #[.string (tx (s.data.toList ++ rowE xs))]) ∧ Ext [] w w' := by
 unfold maxLen at hn
 have hts := tx_size
 refine enter [] Rl [] Tryz.func45 rfl kr (HP.ofHas hR) ?_
 refine Cfg.begL rfl ?_
 refine Le (Eff.box (v := .agg #[.string s]) rfl kr) ?_
 rintro o ⟨ho,no⟩
 refine Le (Eff.alloc (z := (.agg #[.string ByteArray.empty])) rfl kr) ?_
 rintro rs ⟨hrs,nrs⟩
 refine CfgL.done rfl ?_
 refine Cg (Γ' := [(6,[],pT rs),(3,[],pT o),(1,[],.slice la xs.length cap),(2,[],.func (.func 46) #[] #[])]) ?_
 have hmod : ((xs.length : Int) % 4294967296) = (xs.length : Int) := by omega
 refine Cfg.begL rfl ?_
 refine Lp 4 [(dS (.agg #[.string s]))] (some [1,2,3,6,9,12]) (fun S => [(∀ w1,S w1 → (loadVar 54 ⟨o,0,none⟩).run Tryz.prog w1 = .ok (.agg #[.string s]) w1)]) ⟨(fun w1 h => h.oload 1 rfl Tryz.underlying54 rfl (n := 1) kr rfl),trivial⟩ ?_
 refine Le (Eff.buildSlice (e := 73) (cells := #[.int .u32 ((xs.length : Int) % 4294967296)]) (parts := #[(0,.int .u32 ((xs.length : Int) % 4294967296))]) rfl kr (fun _ => kr)) ?_
 rintro x3 ⟨hx3,nx3⟩
 refine Lu (Eff.callA (.agg #[.string (tx (s.data.toList ++ flat four [xs.length]))]) rfl Tryz.func47 rfl rfl kr (fun w1 h => wFour s (some ⟨x3,0,none⟩) 1 [xs.length] [(x3,.cells #[uN xs.length] 73 (0,0))] w1 (inS_num x3 73 (0,0) .u32 xs.length) (by have hq := h.own (x3,.cells #[.int .u32 ((xs.length : Int) % 4294967296)] 73 (0,0)) (mG 0 rfl); rw [hmod] at hq; intro e he; rw [List.mem_singleton.1 he]; exact hq) (by simp [maxLen]) (rowG_room (f := edL) hr) (one_get h32 (by decide)))) ?_
 refine Lu (Eff.storeN (b := o) (off := 0) (vs := #[.string (tx (s.data.toList ++ flat four [xs.length]))]) (n := 1) rfl kr kr kr rfl (by simp [K.one]) 2 (cs := #[.string s]) (e := 54) kr (by simp)) ?_
 refine oL 2 rfl (show _ = #[.string (tx (s.data.toList ++ flat four [xs.length]))] from rfl) ?_
 refine CfgL.done rfl ?_
 refine Cg (Γ' := [(6,[],pT rs),(3,[],pT o),(1,[],.slice la xs.length cap),(2,[],.func (.func 46) #[] #[])]) ?_
 refine Rq [2,3,6,15,16,17] ?_
 refine oB 2 rfl (show _ = #[.string (tx (s.data.toList ++ (four xs.length ++ flat edL (xs.take 0))))] from by rw [flat_one,List.take_zero,flat_nil,List.append_nil]) ?_
 refine Cfg.loop rfl (ι := Nat) (fun (i : Nat) => [(17,[],iN i),(16,[],iN xs.length),(15,[],.slice la xs.length cap),(6,[],pT rs),(3,[],pT o),(2,[],.func (.func 46) #[] #[])]) (fun (i : Nat) => [(rs,.cells #[.string ByteArray.empty] 54 (0,0)),(o,.cells #[.string (tx (s.data.toList ++ (four xs.length ++ flat edL (xs.take i))))] 54 (0,0))]) (fun (i : Nat) => (i ≤ xs.length)) (fun (i : Nat) => xs.length - i) 0 ?_ (Conv.mk kr) (.cons _ (.cons_cons _ (.cons_cons _ .slnil))) ?_
 ·exact Nat.zero_le _
 ·rintro i hi
  refine Rq [2,3,6,15,16,17,18] ?_
  refine Cfg.cond rfl (b := (decide ((i : Int) < (xs.length : Int)))) kr (fun c1r => ?_) (fun c1r => ?_)
  ·have c1 := (dT c1r)
   have hroom : (tx (s.data.toList ++ (four xs.length ++ flat edL (xs.take i)))).size + 12 ≤ 140737488355328 := by
    have hel := edL_len (xs.getD i ez)
    have hpt := flat_part (f := edL) (l := xs) (i := i) ez om
    have h1 : (rowE xs).length = (four xs.length).length + (flat edL xs).length := by unfold rowE; rw [List.length_append]
    rw [tx_size,List.length_append,List.length_append,ba_len]; omega
   obtain ⟨sb,off,cs,te,fre,rfl,hmem,hcs⟩ := hI om
   refine Conv.cfg (Γ' := [(18,[],.bool (decide ((i : Int) < (xs.length : Int)))),(17,[],iN i),(16,[],iN xs.length),(15,[],.slice (some ⟨sb,off,none⟩) xs.length cap),(6,[],pT rs),(3,[],pT o),(2,[],.func (.func 46) #[] #[])]) (Conv.mk kr) ?_
   refine Cfg.begL rfl ?_
   refine Lp 2 [dZ,(dS (.agg (edc (xs.getD i ez)).toArray))] (some [2,3,6,15,16,17,20]) (fun S => [(0 ≤ (i : Int) ∧ (i : Int) < (xs.length : Int)),(∀ w1,S w1 → (loadVar 76 ⟨sb,(addO off (i * 3)),none⟩).run Tryz.prog w1 = .ok (.agg (edc (xs.getD i ez)).toArray) w1)]) ⟨om,(fun w1 h => load_list Tryz.underlying76 rfl kr (edc_len _) (fun j v hj => by rw [addO_eq]; exact (cell_cells (h.ro _ hmem)).trans (fl_cell ez (fun x _ => edc_len x) hcs om hj))),trivial⟩ ?_
   refine Le (Eff.alloc (z := (.agg #[.int .u32 0,.int .u32 0,.int .u32 0])) rfl kr) ?_
   rintro xb ⟨hxb,nxb⟩
   refine Lu (Eff.storeN (b := xb) (off := 0) (vs := (edc (xs.getD i ez)).toArray) (n := 3) rfl kr kr kr (by rw [List.size_toArray]; rfl) (one_edc _) 0 (cs := #[.int .u32 0,.int .u32 0,.int .u32 0]) (e := 76) kr (by show 0 + 3 ≤ 3; decide)) ?_
   refine CfgL.setO (congrArg (fun (xq : Array Value) => ([(xb,.cells xq 76 (0,0)),(rs,.cells #[.string ByteArray.empty] 54 (0,0)),(o,.cells #[.string (tx (s.data.toList ++ (four xs.length ++ flat edL (xs.take i))))] 54 (0,0))] : LO)) (show _ = ((edc (xs.getD i ez)).toArray) from spl_all (by rw [List.size_toArray]; rfl))) ?_
   refine CfgL.done rfl ?_
   refine Cg (Γ' := [(8,[],pT xb),(17,[],iN i),(16,[],iN xs.length),(15,[],.slice (some ⟨sb,off,none⟩) xs.length cap),(6,[],pT rs),(3,[],pT o),(2,[],.func (.func 46) #[] #[])]) ?_
   refine Cfg.begL rfl ?_
   refine Lp 3 [dZ,(dS (.agg #[.string (tx (s.data.toList ++ (four xs.length ++ flat edL (xs.take i))))])),(dS (.agg (edc (xs.getD i ez)).toArray))] (some [2,3,6,15,16,17,21,22,23]) (fun S => [(∀ w1,S w1 → (loadVar 54 ⟨o,0,none⟩).run Tryz.prog w1 = .ok (.agg #[.string (tx (s.data.toList ++ (four xs.length ++ flat edL (xs.take i))))]) w1),(∀ w1,S w1 → (loadVar 76 ⟨xb,0,none⟩).run Tryz.prog w1 = .ok (.agg (edc (xs.getD i ez)).toArray) w1)]) ⟨(fun w1 h => h.oload 2 rfl Tryz.underlying54 rfl (n := 1) kr rfl),(fun w1 h => h.oload 0 rfl Tryz.underlying76 rfl (n := 3) kr rfl),trivial⟩ ?_
   refine Lu (Eff.callAV (.agg #[.string (tx ((tx (s.data.toList ++ (four xs.length ++ flat edL (xs.take i)))).data.toList ++ edL (xs.getD i ez)))]) rfl kr Tryz.func46 rfl rfl kr (fun w1 h => layE _ _ w1 (hW _ (K.getD_mem (z := ez) (l := xs) (i := i) om)) hroom)) ?_
   refine Lu (Eff.storeN (b := o) (off := 0) (vs := #[.string (tx ((tx (s.data.toList ++ (four xs.length ++ flat edL (xs.take i)))).data.toList ++ edL (xs.getD i ez)))]) (n := 1) rfl kr kr kr rfl (by simp [K.one]) 2 (cs := #[.string (tx (s.data.toList ++ (four xs.length ++ flat edL (xs.take i))))]) (e := 54) kr (by simp)) ?_
   refine oL 2 rfl (show _ = #[.string (tx ((tx (s.data.toList ++ (four xs.length ++ flat edL (xs.take i)))).data.toList ++ edL (xs.getD i ez)))] from rfl) ?_
   refine CfgL.done rfl ?_
   refine Cg (Γ' := [(17,[],iN i),(16,[],iN xs.length),(15,[],.slice (some ⟨sb,off,none⟩) xs.length cap),(6,[],pT rs),(3,[],pT o),(2,[],.func (.func 46) #[] #[])]) ?_
   refine Rg [2,3,6,15,16,17] [] (fun _ => [(i6 ((i : Int) + 1))]) ⟨om,trivial⟩ ?_
   refine oB 2 rfl (show _ = #[.string (tx (s.data.toList ++ (four xs.length ++ flat edL (xs.take (i + 1)))))] from by rw [tx_list,flat_succ ez om,List.append_assoc,List.append_assoc]) ?_
   refine Cfg.again rfl (i + 1) (show i + 1 ≤ xs.length by omega) om (Conv.mk kr) (.cons _ (.cons_cons _ (.cons_cons _ .slnil)))
  ·have c1 := (dF c1r)
   obtain rfl : i = xs.length := by omega
   refine oB 1 rfl (show _ = #[.string (tx (s.data.toList ++ rowE xs))] from by rw [List.take_length]; rfl) ?_
   refine Conv.cfg (Γ' := [(16,[],iN xs.length),(15,[],.slice la xs.length cap),(6,[],pT rs),(3,[],pT o),(2,[],.func (.func 46) #[] #[])]) (Conv.mk kr) ?_
   refine Cfg.begL rfl ?_
   refine Lp 1 [(dS (.agg #[.string (tx (s.data.toList ++ rowE xs))]))] (some [6,26]) (fun S => [(∀ w1,S w1 → (loadVar 54 ⟨o,0,none⟩).run Tryz.prog w1 = .ok (.agg #[.string (tx (s.data.toList ++ rowE xs))]) w1)]) ⟨(fun w1 h => h.oload 1 rfl Tryz.underlying54 rfl (n := 1) kr rfl),trivial⟩ ?_
   refine Lu (Eff.storeN (b := rs) (off := 0) (vs := #[.string (tx (s.data.toList ++ rowE xs))]) (n := 1) rfl kr kr kr rfl (by simp [K.one]) 0 (cs := #[.string ByteArray.empty]) (e := 54) kr (by simp)) ?_
   refine CfgL.setO (congrArg (fun (xq : Array Value) => ([(rs,.cells xq 54 (0,0)),(o,.cells #[.string (tx (s.data.toList ++ rowE xs))] 54 (0,0))] : LO)) (show _ = #[.string (tx (s.data.toList ++ rowE xs))] from rfl)) ?_
   refine CfgL.done rfl ?_
   refine Cg (Γ' := [(6,[],pT rs)]) ?_
   refine Cfg.ret rfl (rs := [.cell 6 54]) rfl [.agg #[.string (tx (s.data.toList ++ rowE xs))]] ⟨⟨_,by kernel_rfl,(fun w1 h => h.oload 0 rfl Tryz.underlying54 rfl (n := 1) kr rfl)⟩,trivial⟩ (fun w1 hp => ?_)
   exact ⟨rfl,hp.ext⟩
set_option maxRecDepth 100000 in
set_option maxHeartbeats 4000000 in
theorem wRowD (s : ByteArray) (la : Option Addr) (cap : Nat) (xs : List (List UInt8)) (Rl : List (Nat × Obj)) (w : World) (hI : InF dgc 32 Rl la xs) (hW : D32 xs) (hR : Has w Rl) (hn : xs.length ≤ maxLen) (h32 : xs.length < 4294967296) (hr : s.size + (rowD xs).length ≤ 140737488355328) :
  Calls Tryz.prog 19 #[.agg #[.string s],.slice la xs.length cap,.func (.func 20) #[] #[]] w fun e w' => e = .returned (.agg #[.string (tx (s.data.toList ++ rowD xs))]) ∧ Ext [] w w' := by
 unfold maxLen at hn
 have hts := tx_size
 refine enter [] Rl [] Tryz.func19 rfl kr (HP.ofHas hR) ?_
 refine Cfg.begL rfl ?_
 refine Le (Eff.box (v := .agg #[.string s]) rfl kr) ?_
 rintro o ⟨ho,no⟩
 refine Le (Eff.alloc (z := (.agg #[.string ByteArray.empty])) rfl kr) ?_
 rintro rs ⟨hrs,nrs⟩
 refine CfgL.done rfl ?_
 refine Cg (Γ' := [(6,[],pT rs),(3,[],pT o),(1,[],.slice la xs.length cap),(2,[],.func (.func 20) #[] #[])]) ?_
 have hmod : ((xs.length : Int) % 4294967296) = (xs.length : Int) := by omega
 refine Cfg.begL rfl ?_
 refine Lp 4 [(dS (.agg #[.string s]))] (some [1,2,3,6,9,12]) (fun S => [(∀ w1,S w1 → (loadVar 54 ⟨o,0,none⟩).run Tryz.prog w1 = .ok (.agg #[.string s]) w1)]) ⟨(fun w1 h => h.oload 1 rfl Tryz.underlying54 rfl (n := 1) kr rfl),trivial⟩ ?_
 refine Le (Eff.buildSlice (e := 73) (cells := #[.int .u32 ((xs.length : Int) % 4294967296)]) (parts := #[(0,.int .u32 ((xs.length : Int) % 4294967296))]) rfl kr (fun _ => kr)) ?_
 rintro x3 ⟨hx3,nx3⟩
 refine Lu (Eff.callA (.agg #[.string (tx (s.data.toList ++ flat four [xs.length]))]) rfl Tryz.func47 rfl rfl kr (fun w1 h => wFour s (some ⟨x3,0,none⟩) 1 [xs.length] [(x3,.cells #[uN xs.length] 73 (0,0))] w1 (inS_num x3 73 (0,0) .u32 xs.length) (by have hq := h.own (x3,.cells #[.int .u32 ((xs.length : Int) % 4294967296)] 73 (0,0)) (mG 0 rfl); rw [hmod] at hq; intro e he; rw [List.mem_singleton.1 he]; exact hq) (by simp [maxLen]) (rowG_room (f := (fun d => d)) hr) (one_get h32 (by decide)))) ?_
 refine Lu (Eff.storeN (b := o) (off := 0) (vs := #[.string (tx (s.data.toList ++ flat four [xs.length]))]) (n := 1) rfl kr kr kr rfl (by simp [K.one]) 2 (cs := #[.string s]) (e := 54) kr (by simp)) ?_
 refine oL 2 rfl (show _ = #[.string (tx (s.data.toList ++ flat four [xs.length]))] from rfl) ?_
 refine CfgL.done rfl ?_
 refine Cg (Γ' := [(6,[],pT rs),(3,[],pT o),(1,[],.slice la xs.length cap),(2,[],.func (.func 20) #[] #[])]) ?_
 refine Rq [2,3,6,15,16,17] ?_
 refine oB 2 rfl (show _ = #[.string (tx (s.data.toList ++ (four xs.length ++ flat (fun d => d) (xs.take 0))))] from by rw [flat_one,List.take_zero,flat_nil,List.append_nil]) ?_
 refine Cfg.loop rfl (ι := Nat) (fun (i : Nat) => [(17,[],iN i),(16,[],iN xs.length),(15,[],.slice la xs.length cap),(6,[],pT rs),(3,[],pT o),(2,[],.func (.func 20) #[] #[])]) (fun (i : Nat) => [(rs,.cells #[.string ByteArray.empty] 54 (0,0)),(o,.cells #[.string (tx (s.data.toList ++ (four xs.length ++ flat (fun d => d) (xs.take i))))] 54 (0,0))]) (fun (i : Nat) => (i ≤ xs.length)) (fun (i : Nat) => xs.length - i) 0 ?_ (Conv.mk kr) (.cons _ (.cons_cons _ (.cons_cons _ .slnil))) ?_
 ·exact Nat.zero_le _
 ·rintro i hi
  refine Rq [2,3,6,15,16,17,18] ?_
  refine Cfg.cond rfl (b := (decide ((i : Int) < (xs.length : Int)))) kr (fun c1r => ?_) (fun c1r => ?_)
  ·have c1 := (dT c1r)
   have hroom : (tx (s.data.toList ++ (four xs.length ++ flat (fun d => d) (xs.take i)))).size + 32 ≤ 140737488355328 := by
    have hel : (xs.getD i []).length = 32 := (hW _ (K.getD_mem (z := []) (l := xs) (i := i) om))
    have hpt := flat_part (f := (fun d => d)) (l := xs) (i := i) [] om
    have h1 : (rowD xs).length = (four xs.length).length + (flat (fun d => d) xs).length := by unfold rowD; rw [List.length_append]
    rw [tx_size,List.length_append,List.length_append,ba_len]; omega
   obtain ⟨sb,off,cs,te,fre,rfl,hmem,hcs⟩ := hI om
   refine Conv.cfg (Γ' := [(18,[],.bool (decide ((i : Int) < (xs.length : Int)))),(17,[],iN i),(16,[],iN xs.length),(15,[],.slice (some ⟨sb,off,none⟩) xs.length cap),(6,[],pT rs),(3,[],pT o),(2,[],.func (.func 20) #[] #[])]) (Conv.mk kr) ?_
   refine Cfg.begL rfl ?_
   refine Lp 2 [dZ,(dS (.agg (bv (xs.getD i []))))] (some [2,3,6,15,16,17,20]) (fun S => [(0 ≤ (i : Int) ∧ (i : Int) < (xs.length : Int)),(∀ w1,S w1 → (loadVar 30 ⟨sb,(addO off (i * 32)),none⟩).run Tryz.prog w1 = .ok (.agg (bv (xs.getD i []))) w1)]) ⟨om,(fun w1 h => load_bytes Tryz.underlying30 rfl kr (hW _ (K.getD_mem (z := []) (l := xs) (i := i) om)) (fun j hj => by rw [addO_eq]; exact (cell_cells (h.ro _ hmem)).trans (fl_cell [] (fun x hx => dgc_len (hW x hx)) hcs om (dg_byte (hW _ (K.getD_mem (z := []) (l := xs) (i := i) om)) hj)))),trivial⟩ ?_
   refine Le (Eff.alloc (z := (.agg (bv (List.replicate 32 0)))) rfl kr) ?_
   rintro xb ⟨hxb,nxb⟩
   refine Lu (Eff.storeN (b := xb) (off := 0) (vs := (bv (xs.getD i []))) (n := 32) rfl kr kr kr ((bv_size _).trans (hW _ (K.getD_mem (z := []) (l := xs) (i := i) om))) (all_bv _) 0 (cs := (bv (List.replicate 32 0))) (e := 30) kr (by show 0 + 32 ≤ 32; decide)) ?_
   refine CfgL.setO (congrArg (fun (xq : Array Value) => ([(xb,.cells xq 30 (0,0)),(rs,.cells #[.string ByteArray.empty] 54 (0,0)),(o,.cells #[.string (tx (s.data.toList ++ (four xs.length ++ flat (fun d => d) (xs.take i))))] 54 (0,0))] : LO)) (show _ = (bv (xs.getD i [])) from spl_all (by rw [bv_size,(hW _ (K.getD_mem (z := []) (l := xs) (i := i) om))]; rfl))) ?_
   refine CfgL.done rfl ?_
   refine Cg (Γ' := [(8,[],pT xb),(17,[],iN i),(16,[],iN xs.length),(15,[],.slice (some ⟨sb,off,none⟩) xs.length cap),(6,[],pT rs),(3,[],pT o),(2,[],.func (.func 20) #[] #[])]) ?_
   refine Cfg.begL rfl ?_
   refine Lp 3 [dZ,(dS (.agg #[.string (tx (s.data.toList ++ (four xs.length ++ flat (fun d => d) (xs.take i))))])),(dS (.agg (bv (xs.getD i []))))] (some [2,3,6,15,16,17,21,22,23]) (fun S => [(∀ w1,S w1 → (loadVar 54 ⟨o,0,none⟩).run Tryz.prog w1 = .ok (.agg #[.string (tx (s.data.toList ++ (four xs.length ++ flat (fun d => d) (xs.take i))))]) w1),(∀ w1,S w1 → (loadVar 30 ⟨xb,0,none⟩).run Tryz.prog w1 = .ok (.agg (bv (xs.getD i []))) w1)]) ⟨(fun w1 h => h.oload 2 rfl Tryz.underlying54 rfl (n := 1) kr rfl),(fun w1 h => h.oload 0 rfl Tryz.underlying30 rfl (n := 32) kr ((bv_size _).trans (hW _ (K.getD_mem (z := []) (l := xs) (i := i) om)))),trivial⟩ ?_
   refine Lu (Eff.callAV (.agg #[.string (tx ((tx (s.data.toList ++ (four xs.length ++ flat (fun d => d) (xs.take i)))).data.toList ++ (xs.getD i [])))]) rfl kr Tryz.func20 rfl rfl kr (fun w1 h => layD _ _ w1 (hW _ (K.getD_mem (z := []) (l := xs) (i := i) om)) hroom)) ?_
   refine Lu (Eff.storeN (b := o) (off := 0) (vs := #[.string (tx ((tx (s.data.toList ++ (four xs.length ++ flat (fun d => d) (xs.take i)))).data.toList ++ (xs.getD i [])))]) (n := 1) rfl kr kr kr rfl (by simp [K.one]) 2 (cs := #[.string (tx (s.data.toList ++ (four xs.length ++ flat (fun d => d) (xs.take i))))]) (e := 54) kr (by simp)) ?_
   refine oL 2 rfl (show _ = #[.string (tx ((tx (s.data.toList ++ (four xs.length ++ flat (fun d => d) (xs.take i)))).data.toList ++ (xs.getD i [])))] from rfl) ?_
   refine CfgL.done rfl ?_
   refine Cg (Γ' := [(17,[],iN i),(16,[],iN xs.length),(15,[],.slice (some ⟨sb,off,none⟩) xs.length cap),(6,[],pT rs),(3,[],pT o),(2,[],.func (.func 20) #[] #[])]) ?_
   refine Rg [2,3,6,15,16,17] [] (fun _ => [(i6 ((i : Int) + 1))]) ⟨om,trivial⟩ ?_
   refine oB 2 rfl (show _ = #[.string (tx (s.data.toList ++ (four xs.length ++ flat (fun d => d) (xs.take (i + 1)))))] from by rw [tx_list,flat_succ [] om,List.append_assoc,List.append_assoc]) ?_
   refine Cfg.again rfl (i + 1) (show i + 1 ≤ xs.length by omega) om (Conv.mk kr) (.cons _ (.cons_cons _ (.cons_cons _ .slnil)))
  ·have c1 := (dF c1r)
   obtain rfl : i = xs.length := by omega
   refine oB 1 rfl (show _ = #[.string (tx (s.data.toList ++ rowD xs))] from by rw [List.take_length]; rfl) ?_
   refine Conv.cfg (Γ' := [(16,[],iN xs.length),(15,[],.slice la xs.length cap),(6,[],pT rs),(3,[],pT o),(2,[],.func (.func 20) #[] #[])]) (Conv.mk kr) ?_
   refine Cfg.begL rfl ?_
   refine Lp 1 [(dS (.agg #[.string (tx (s.data.toList ++ rowD xs))]))] (some [6,26]) (fun S => [(∀ w1,S w1 → (loadVar 54 ⟨o,0,none⟩).run Tryz.prog w1 = .ok (.agg #[.string (tx (s.data.toList ++ rowD xs))]) w1)]) ⟨(fun w1 h => h.oload 1 rfl Tryz.underlying54 rfl (n := 1) kr rfl),trivial⟩ ?_
   refine Lu (Eff.storeN (b := rs) (off := 0) (vs := #[.string (tx (s.data.toList ++ rowD xs))]) (n := 1) rfl kr kr kr rfl (by simp [K.one]) 0 (cs := #[.string ByteArray.empty]) (e := 54) kr (by simp)) ?_
   refine CfgL.setO (congrArg (fun (xq : Array Value) => ([(rs,.cells xq 54 (0,0)),(o,.cells #[.string (tx (s.data.toList ++ rowD xs))] 54 (0,0))] : LO)) (show _ = #[.string (tx (s.data.toList ++ rowD xs))] from rfl)) ?_
   refine CfgL.done rfl ?_
   refine Cg (Γ' := [(6,[],pT rs)]) ?_
   refine Cfg.ret rfl (rs := [.cell 6 54]) rfl [.agg #[.string (tx (s.data.toList ++ rowD xs))]] ⟨⟨_,by kernel_rfl,(fun w1 h => h.oload 0 rfl Tryz.underlying54 rfl (n := 1) kr rfl)⟩,trivial⟩ (fun w1 hp => ?_)
   exact ⟨rfl,hp.ext⟩
end Go.Proofs.YtbeeelgfhfmgbaaGreatDoor
namespace Go.Proofs.YtbeeelgfhfmgbaaGreatDoor
open K
set_option linter.unusedVariables false
theorem mapxs_at (rs : List RowU) (i : Nat) : (rs.map RowU.xs).getD i [] = (rs.getD i rwz).xs := by
 rw [List.getD_eq_getElem?_getD,List.getD_eq_getElem?_getD,List.getElem?_map]
 cases rs[i]? <;> rfl
def txtE (t : ByteArray) : Int := if 200 < t.size then 5 else 0
def comE (ps : List (List UInt8)) (t : ByteArray) : Int := if 2 < ps.length then 6 else if ps.length = 2 ∧ ps.getD 0 [] = ps.getD 1 [] then 17 else txtE t
def chkO (o : OM) : Int := if o.k = 109 then rightF o.m.vs o.m.es (o.m.rs.map RowU.xs) else if o.k = 99 then comE o.c.ps o.c.t else if o.k = 116 then txtE o.t.t else 11
def objL (o : OM) : List UInt8 := be o.k 1 ++ (if o.k = 109 then mapL o.m.vs o.m.es (o.m.rs.map RowU.xs) else if o.k = 99 then comL o.c.d o.c.ps o.c.n o.c.t else tagL o.t.d o.t.t)
def objS (o : OM) : ByteArray := if chkO o ≠ 0 then ByteArray.empty else tx (objL o)
theorem chkO_map {o : OM} (h : (o.k : Int) = 109) : chkO o = rightF o.m.vs o.m.es (o.m.rs.map RowU.xs) := if_pos (by omega)
theorem chkO_com {o : OM} (h : (o.k : Int) = 99) : chkO o = comE o.c.ps o.c.t := (if_neg (by omega)).trans (if_pos (by omega))
theorem chkO_tag {o : OM} (h : (o.k : Int) = 116) : chkO o = txtE o.t.t := (if_neg (by omega)).trans ((if_neg (by omega)).trans (if_pos (by omega)))
theorem chkO_no {o : OM} (h1 : ¬ (o.k : Int) = 109) (h2 : ¬ (o.k : Int) = 99) (h3 : ¬ (o.k : Int) = 116) : chkO o = 11 := (if_neg (by omega)).trans ((if_neg (by omega)).trans (if_neg (by omega)))
theorem comE_many {ps : List (List UInt8)} {t : ByteArray} (h : (ps.length : Int) > 2) : comE ps t = 6 := if_pos (by omega)
theorem comE_same {ps : List (List UInt8)} {t : ByteArray} (h : ps.length = 2) (he : (ps.getD 0 [] == ps.getD 1 []) = true) : comE ps t = 17 := (if_neg (by omega)).trans (if_pos ⟨h,beq_iff_eq.1 he⟩)
theorem comE_txt {ps : List (List UInt8)} {t : ByteArray} (h : ¬ (ps.length : Int) > 2) (hs : ¬ (ps.length = 2 ∧ ps.getD 0 [] = ps.getD 1 [])) : comE ps t = txtE t := (if_neg (by omega)).trans (if_neg hs)
theorem comE_ok {ps : List (List UInt8)} {t : ByteArray} (h : comE ps t = 0) : ps.length ≤ 2 ∧ t.size ≤ 200 := by
 unfold comE txtE at h
 split at h
 ·exact absurd h (by decide)
 ·split at h
  ·exact absurd h (by decide)
  ·split at h
   ·exact absurd h (by decide)
   ·omega
theorem txtE_ok {t : ByteArray} (h : txtE t = 0) : t.size ≤ 200 := by
 unfold txtE at h
 split at h
 ·exact absurd h (by decide)
 ·omega
theorem chkO_kind {o : OM} (h : chkO o = 0) : o.k = 109 ∨ o.k = 99 ∨ o.k = 116 := by
 by_cases h1 : o.k = 109
 ·exact .inl h1
 ·by_cases h2 : o.k = 99
  ·exact .inr (.inl h2)
  ·by_cases h3 : o.k = 116
   ·exact .inr (.inr h3)
   ·rw [chkO_no om om om] at h; exact absurd h (by decide)
theorem flat_lenle {α : Type} {f : α → List UInt8} {b : Nat} : ∀ {l : List α},(∀ x ∈ l,(f x).length ≤ b) → (flat f l).length ≤ b * l.length
 | [],_ => Nat.zero_le _
 | x :: l,h => by
  have h1 := flat_lenle (l := l) (fun y hy => h y (List.mem_cons_of_mem _ hy))
  have h2 := h x mH
  show (List.flatMap f (x :: l)).length ≤ b * (x :: l).length
  rw [List.flatMap_cons,List.length_append,List.length_cons,Nat.mul_add,Nat.mul_one]
  have h3 : (flat f l).length = (List.flatMap f l).length := rfl
  omega
theorem four_len (n : Nat) : (four n).length = 4 := be_len _ _
theorem rowU_len (l : List Nat) : (rowU l).length ≤ 4 + 4 * l.length := by
 unfold rowU
 rw [List.length_append,four_len]
 have := flat_lenle (f := four) (l := l) (b := 4) (fun x _ => by rw [four_len]; exact Nat.le_refl _)
 omega
theorem rowE_len (l : List Ed) : (rowE l).length ≤ 4 + 12 * l.length := by
 unfold rowE
 rw [List.length_append,four_len]
 have := flat_lenle (f := edL) (l := l) (b := 12) (fun x _ => by rw [edL_len]; exact Nat.le_refl _)
 omega
theorem rowD_len {l : List (List UInt8)} (h : D32 l) : (rowD l).length ≤ 4 + 32 * l.length := by
 unfold rowD
 rw [List.length_append,four_len]
 have := flat_lenle (f := fun d : List UInt8 => d) (l := l) (b := 32) (fun x hx => by rw [h x hx]; exact Nat.le_refl _)
 omega
theorem mapL_len {vs : List Nat} {es : List Ed} {rs : List (List Nat)} (h : MapIn vs es rs) : (mapL vs es rs).length ≤ 100000 := by
 unfold mapL
 rw [List.length_append,List.length_append]
 have h1 := rowU_len vs
 have h2 := rowE_len es
 have h3 := flat_lenle (f := rowU) (l := rs) (b := 1284) (fun x hx => by have := rowU_len x; have := (h.rn x hx).1; omega)
 have := h.v
 have := h.e
 have := h.r
 omega
theorem comL_len {d : List UInt8} {ps : List (List UInt8)} {n : Nat} {t : ByteArray} (hd : d.length = 32) (hD : D32 ps) (h : ps.length ≤ 2) (ht : t.size ≤ 200) : (comL d ps n t).length ≤ 1000 := by
 unfold comL
 rw [List.length_append,List.length_append,List.length_append,text4_len,hd]
 have h1 := rowD_len hD
 have h2 : (eight n).length = 8 := be_len _ _
 omega
set_option maxRecDepth 100000 in
set_option maxHeartbeats 8000000 in
theorem layM (s : ByteArray) (m : MM) (Rl : List (Nat × Obj)) (w : World) (hM : InM Rl m) (hR : Has w Rl) (hi : MapIn m.vs m.es (m.rs.map RowU.xs)) (hr : s.size + (mapL m.vs m.es (m.rs.map RowU.xs)).length ≤ 140737488355328) :
  Calls Tryz.prog 17 #[.agg #[.string s],.agg (mc m).toArray] w fun e w' => e = .returned (.agg #[.string (tx (s.data.toList ++ mapL m.vs m.es (m.rs.map RowU.xs)))]) ∧ Ext [] w w' := by
 have hts := tx_size
 have hiv := hi.v
 have hie := hi.e
 have hlm : (mapL m.vs m.es (m.rs.map RowU.xs)).length = (rowU m.vs).length + ((rowE m.es).length + (flat rowU (m.rs.map RowU.xs)).length) := by unfold mapL; rw [List.length_append,List.length_append]
 have hrl : m.rs.length = m.vs.length := by have := hi.r; rw [List.length_map] at this; exact this
 refine enter [] Rl [] Tryz.func17 rfl kr (HP.ofHas hR) ?_
 refine Cfg.begL rfl ?_
 refine Le (Eff.box (v := .agg #[.string s]) rfl kr) ?_
 rintro o ⟨ho,no⟩
 refine Le (Eff.box (v := .agg (mc m).toArray) rfl kr) ?_
 rintro mb ⟨hmb,nmb⟩
 refine Le (Eff.alloc (z := (.agg #[.string ByteArray.empty])) rfl kr) ?_
 rintro rs ⟨hrs,nrs⟩
 refine CfgL.done rfl ?_
 refine Cg (Γ' := [(4,[],pT rs),(3,[],pT mb),(2,[],pT o)]) ?_
 refine Cfg.begL rfl ?_
 refine Lp 4 [(dS (.agg #[.string s])),dZ,dZ,(dS (.slice m.va m.vs.length m.vc))] (some [2,3,4,7,10]) (fun S => [(∀ w1,S w1 → (loadVar 54 ⟨o,0,none⟩).run Tryz.prog w1 = .ok (.agg #[.string s]) w1),(cE S mb 0 (.slice m.va m.vs.length m.vc))]) ⟨(fun w1 h => h.oload 2 rfl Tryz.underlying54 rfl (n := 1) kr rfl),(fun w1 h => h.ocell 1 rfl (by rw [List.getElem?_toArray]; exact rfl)),trivial⟩ ?_
 refine Lu (Eff.callA (.agg #[.string (tx (s.data.toList ++ rowU m.vs))]) rfl Tryz.func43 rfl rfl kr (fun w1 h => wRowU s m.va m.vc m.vs Rl w1 hM.v hi.vn (h.hasR (fun e he => he)) (by unfold maxLen; omega) om om)) ?_
 refine Lu (Eff.storeN (b := o) (off := 0) (vs := #[.string (tx (s.data.toList ++ rowU m.vs))]) (n := 1) rfl kr kr kr rfl (by simp [K.one]) 2 (cs := #[.string s]) (e := 54) kr (by simp)) ?_
 refine oL 2 rfl (show _ = #[.string (tx (s.data.toList ++ rowU m.vs))] from rfl) ?_
 refine CfgL.done rfl ?_
 refine Cg (Γ' := [(4,[],pT rs),(3,[],pT mb),(2,[],pT o)]) ?_
 refine Cfg.begL rfl ?_
 refine Lp 4 [(dS (.agg #[.string (tx (s.data.toList ++ rowU m.vs))])),dZ,dZ,(dS (.slice m.ea m.es.length m.ec))] (some [2,3,4,12,15]) (fun S => [(∀ w1,S w1 → (loadVar 54 ⟨o,0,none⟩).run Tryz.prog w1 = .ok (.agg #[.string (tx (s.data.toList ++ rowU m.vs))]) w1),(cE S mb 1 (.slice m.ea m.es.length m.ec))]) ⟨(fun w1 h => h.oload 2 rfl Tryz.underlying54 rfl (n := 1) kr rfl),(fun w1 h => h.ocell 1 rfl (by rw [List.getElem?_toArray]; exact rfl)),trivial⟩ ?_
 refine Lu (Eff.callA (.agg #[.string (tx ((tx (s.data.toList ++ rowU m.vs)).data.toList ++ rowE m.es))]) rfl Tryz.func45 rfl rfl kr (fun w1 h => wRowE (tx (s.data.toList ++ rowU m.vs)) m.ea m.ec m.es Rl w1 hM.e hi.en (h.hasR (fun e he => he)) (by unfold maxLen; omega) om (by rw [tx_size,List.length_append,ba_len]; omega))) ?_
 refine Lu (Eff.storeN (b := o) (off := 0) (vs := #[.string (tx ((tx (s.data.toList ++ rowU m.vs)).data.toList ++ rowE m.es))]) (n := 1) rfl kr kr kr rfl (by simp [K.one]) 2 (cs := #[.string (tx (s.data.toList ++ rowU m.vs))]) (e := 54) kr (by simp)) ?_
 refine oL 2 rfl (show _ = #[.string (tx ((tx (s.data.toList ++ rowU m.vs)).data.toList ++ rowE m.es))] from rfl) ?_
 refine CfgL.done rfl ?_
 refine Cg (Γ' := [(4,[],pT rs),(3,[],pT mb),(2,[],pT o)]) ?_
 refine Rg [2,4,18,19,20] [dZ,(dS (.slice m.ra m.rs.length m.rc))] (fun S => [(cE S mb 2 (.slice m.ra m.rs.length m.rc))]) ⟨(fun w1 h => h.ocell 1 rfl (by rw [List.getElem?_toArray]; exact rfl)),trivial⟩ ?_
 refine oB 2 rfl (show _ = #[.string (tx (s.data.toList ++ (rowU m.vs ++ (rowE m.es ++ flat rowU ((m.rs.map RowU.xs).take 0)))))] from by rw [tx_list,List.take_zero,flat_nil,List.append_nil,List.append_assoc]) ?_
 refine Cfg.loop rfl (ι := Nat) (fun (i : Nat) => [(20,[],iN i),(19,[],iN m.rs.length),(18,[],.slice m.ra m.rs.length m.rc),(4,[],pT rs),(2,[],pT o)]) (fun (i : Nat) => [(rs,.cells #[.string ByteArray.empty] 54 (0,0)),(o,.cells #[.string (tx (s.data.toList ++ (rowU m.vs ++ (rowE m.es ++ flat rowU ((m.rs.map RowU.xs).take i)))))] 54 (0,0))]) (fun (i : Nat) => (i ≤ m.rs.length)) (fun (i : Nat) => m.rs.length - i) 0 ?_ (Conv.mk kr) (.cons_cons _ (.cons _ (.cons_cons _ .slnil))) ?_
 ·exact Nat.zero_le _
 ·rintro i hi0
  refine Rq [2,4,18,19,20,21] ?_
  refine Cfg.cond rfl (b := (decide ((i : Int) < (m.rs.length : Int)))) kr (fun c1r => ?_) (fun c1r => ?_)
  ·have c1 := (dT c1r)
   obtain ⟨sc1,offc1,csc1,tec1,frec1,hvc1,hmc1,hcc1⟩ := hM.r om
   refine Cg (Γ' := [(21,[],.bool (decide ((i : Int) < (m.rs.length : Int)))),(20,[],iN i),(19,[],iN m.rs.length),(18,[],.slice m.ra m.rs.length m.rc),(4,[],pT rs),(2,[],pT o)]) ?_
   refine Cfg.setG (Γ' := [(21,[],.bool (decide ((i : Int) < (m.rs.length : Int)))),(20,[],iN i),(19,[],iN m.rs.length),(18,[],.slice (some ⟨sc1,offc1,none⟩) m.rs.length m.rc),(4,[],pT rs),(2,[],pT o)]) (congrArg (fun (xq : Option Addr) => ([(21,[],.bool (decide ((i : Int) < (m.rs.length : Int)))),(20,[],iN i),(19,[],iN m.rs.length),(18,[],.slice xq m.rs.length m.rc),(4,[],pT rs),(2,[],pT o)] : Env)) hvc1) ?_
   refine Rg [2,4,6,18,19,20] [dZ,(dS (.slice (m.rs.getD i rwz).a ((m.rs.getD i rwz).xs.length) ((m.rs.getD i rwz).c)))] (fun S => [(0 ≤ (i : Int) ∧ (i : Int) < (m.rs.length : Int)),(cE S sc1 (addO offc1 i) (.slice (m.rs.getD i rwz).a ((m.rs.getD i rwz).xs.length) ((m.rs.getD i rwz).c)))]) ⟨om,(fun w1 h => by rw [addO_eq]; exact (cell_cells (h.ro _ hmc1)).trans (fl_one (g := fun r : RowU => .slice r.a r.xs.length r.c) rwz hcc1 om)),trivial⟩ ?_
   refine Cfg.begL rfl ?_
   refine Lp 2 [(dS (.agg #[.string (tx (s.data.toList ++ (rowU m.vs ++ (rowE m.es ++ flat rowU ((m.rs.map RowU.xs).take i)))))]))] (some [2,4,18,19,20,24,25]) (fun S => [(∀ w1,S w1 → (loadVar 54 ⟨o,0,none⟩).run Tryz.prog w1 = .ok (.agg #[.string (tx (s.data.toList ++ (rowU m.vs ++ (rowE m.es ++ flat rowU ((m.rs.map RowU.xs).take i)))))]) w1)]) ⟨(fun w1 h => h.oload 1 rfl Tryz.underlying54 rfl (n := 1) kr rfl),trivial⟩ ?_
   have hpt := flat_part (f := rowU) (l := (m.rs.map RowU.xs)) (i := i) [] (by rw [List.length_map]; omega)
   rw [mapxs_at] at hpt
   have hXr := hi.rn (m.rs.getD i rwz).xs (List.mem_map.2 ⟨_,K.getD_mem (z := rwz) (l := m.rs) (i := i) om,rfl⟩)
   refine Lu (Eff.callA (.agg #[.string (tx ((tx (s.data.toList ++ (rowU m.vs ++ (rowE m.es ++ flat rowU ((m.rs.map RowU.xs).take i))))).data.toList ++ rowU (m.rs.getD i rwz).xs))]) rfl Tryz.func43 rfl rfl kr (fun w1 h => wRowU (tx (s.data.toList ++ (rowU m.vs ++ (rowE m.es ++ flat rowU ((m.rs.map RowU.xs).take i))))) (m.rs.getD i rwz).a (m.rs.getD i rwz).c (m.rs.getD i rwz).xs Rl w1 (hM.i _ (K.getD_mem (z := rwz) (l := m.rs) (i := i) om)).1 hXr.2 (h.hasR (fun e he => he)) (by unfold maxLen; omega) om (by rw [tx_size,List.length_append,List.length_append,List.length_append,ba_len]; omega))) ?_
   refine Lu (Eff.storeN (b := o) (off := 0) (vs := #[.string (tx ((tx (s.data.toList ++ (rowU m.vs ++ (rowE m.es ++ flat rowU ((m.rs.map RowU.xs).take i))))).data.toList ++ rowU (m.rs.getD i rwz).xs))]) (n := 1) rfl kr kr kr rfl (by simp [K.one]) 1 (cs := #[.string (tx (s.data.toList ++ (rowU m.vs ++ (rowE m.es ++ flat rowU ((m.rs.map RowU.xs).take i)))))]) (e := 54) kr (by simp)) ?_
   refine oL 1 rfl (show _ = #[.string (tx ((tx (s.data.toList ++ (rowU m.vs ++ (rowE m.es ++ flat rowU ((m.rs.map RowU.xs).take i))))).data.toList ++ rowU (m.rs.getD i rwz).xs))] from rfl) ?_
   refine CfgL.done rfl ?_
   refine Cg (Γ' := [(20,[],iN i),(19,[],iN m.rs.length),(18,[],.slice (some ⟨sc1,offc1,none⟩) m.rs.length m.rc),(4,[],pT rs),(2,[],pT o)]) ?_
   refine Rg [2,4,18,19,20] [] (fun _ => [(i6 ((i : Int) + 1))]) ⟨om,trivial⟩ ?_
   refine oB 1 rfl (show _ = #[.string (tx (s.data.toList ++ (rowU m.vs ++ (rowE m.es ++ flat rowU ((m.rs.map RowU.xs).take (i + 1))))))] from by rw [tx_list,flat_succ [] (by rw [List.length_map]; omega),mapxs_at,List.append_assoc,List.append_assoc,List.append_assoc]) ?_
   refine Cfg.setS 18 (show .slice (some ⟨sc1,offc1,none⟩) m.rs.length m.rc = .slice m.ra m.rs.length m.rc from congrArg (fun z => Value.slice z m.rs.length m.rc) hvc1.symm) ?_
   refine Cfg.again rfl (i + 1) (show i + 1 ≤ m.rs.length by omega) om (Conv.mk kr) (.cons_cons _ (.cons_cons _ .slnil))
  ·have c1 := (dF c1r)
   obtain rfl : i = m.rs.length := by omega
   refine oB 1 rfl (show _ = #[.string (tx (s.data.toList ++ mapL m.vs m.es (m.rs.map RowU.xs)))] from by rw [List.take_of_length_le (by rw [List.length_map]; exact Nat.le_refl _)]; rfl) ?_
   refine Conv.cfg (Γ' := [(19,[],iN m.rs.length),(18,[],.slice m.ra m.rs.length m.rc),(4,[],pT rs),(2,[],pT o)]) (Conv.mk kr) ?_
   refine Cfg.begL rfl ?_
   refine Lp 1 [(dS (.agg #[.string (tx (s.data.toList ++ mapL m.vs m.es (m.rs.map RowU.xs)))]))] (some [4,28]) (fun S => [(∀ w1,S w1 → (loadVar 54 ⟨o,0,none⟩).run Tryz.prog w1 = .ok (.agg #[.string (tx (s.data.toList ++ mapL m.vs m.es (m.rs.map RowU.xs)))]) w1)]) ⟨(fun w1 h => h.oload 1 rfl Tryz.underlying54 rfl (n := 1) kr rfl),trivial⟩ ?_
   refine Lu (Eff.storeN (b := rs) (off := 0) (vs := #[.string (tx (s.data.toList ++ mapL m.vs m.es (m.rs.map RowU.xs)))]) (n := 1) rfl kr kr kr rfl (by simp [K.one]) 0 (cs := #[.string ByteArray.empty]) (e := 54) kr (by simp)) ?_
   refine CfgL.setO (congrArg (fun (xq : Array Value) => ([(rs,.cells xq 54 (0,0)),(o,.cells #[.string (tx (s.data.toList ++ mapL m.vs m.es (m.rs.map RowU.xs)))] 54 (0,0))] : LO)) (show _ = #[.string (tx (s.data.toList ++ mapL m.vs m.es (m.rs.map RowU.xs)))] from rfl)) ?_
   refine CfgL.done rfl ?_
   refine Cg (Γ' := [(4,[],pT rs)]) ?_
   refine Cfg.ret rfl (rs := [.cell 4 54]) rfl [.agg #[.string (tx (s.data.toList ++ mapL m.vs m.es (m.rs.map RowU.xs)))]] ⟨⟨_,by kernel_rfl,(fun w1 h => h.oload 0 rfl Tryz.underlying54 rfl (n := 1) kr rfl)⟩,trivial⟩ (fun w1 hp => ?_)
   exact ⟨rfl,hp.ext⟩
set_option maxRecDepth 100000 in
theorem oText (t : ByteArray) (w : World) (ht : t.size ≤ 9223372036854775807) :
  Calls Tryz.prog 40 #[.string t] w fun e w' => e = .returned (.int .i64 (txtE t)) ∧ Ext [] w w' := by
 refine enter [] [] [] Tryz.func40 rfl kr (HP.start w) ?_
 refine Rq [0] ?_
 refine Rq [5] ?_
 refine Cfg.cond rfl (b := (decide ((t.size : Int) > (200 : Int)))) kr (fun c1r => ?_) (fun c1r => ?_)
 ·have c1 := (dT c1r)
  refine Rq [2] ?_
  refine Cfg.ret rfl (rs := [.tmp 2]) rfl [.int .i64 5] ⟨kr,trivial⟩ (fun w1 hp => ?_)
  have hfin : txtE t = 5 := if_pos om
  rw [hfin]
  exact ⟨rfl,hp.ext⟩
 ·have c1 := (dF c1r)
  refine Rq [2] ?_
  refine Cfg.ret rfl (rs := [.tmp 2]) rfl [.int .i64 0] ⟨kr,trivial⟩ (fun w1 hp => ?_)
  have hfin : txtE t = 0 := if_neg om
  rw [hfin]
  exact ⟨rfl,hp.ext⟩
set_option maxRecDepth 100000 in
set_option maxHeartbeats 8000000 in
theorem oChk (o : OM) (Rl : List (Nat × Obj)) (w : World) (hO : InO Rl o) (hR : Has w Rl) (hu : ∀ r ∈ o.m.rs,∀ n ∈ r.xs,n < 4294967296) (ht1 : o.c.t.size ≤ 9223372036854775807) (ht2 : o.t.t.size ≤ 9223372036854775807) :
  Calls Tryz.prog 15 #[.agg (oc o).toArray] w fun e w' => e = .returned (.int .i64 (chkO o)) ∧ Ext [] w w' := by
 have hoc := hO.c.d
 have hot := hO.t
 have hcn := hO.c.n
 refine enter [] Rl [] Tryz.func15 rfl kr (HP.ofHas hR) ?_
 refine Cfg.begL rfl ?_
 refine Le (Eff.box (v := .agg (oc o).toArray) rfl kr) ?_
 rintro bx ⟨hbx,nbx⟩
 refine Ld 1 [1] ?_
 refine Rg [1,5] [dZ,(dS (.int .u8 (o.k : Int)))] (fun S => [(cE S bx 0 (.int .u8 (o.k : Int)))]) ⟨(fun w1 h => h.ocell 0 rfl (by rw [List.getElem?_toArray]; exact rfl)),trivial⟩ ?_
 refine Rq [1,5,6] ?_
 refine Cfg.cond rfl (b := ((o.k : Int) == (109 : Int))) kr (fun c1r => ?_) (fun c1r => ?_)
 ·have c1 := (beq_iff_eq.1 c1r)
  refine Cfg.begL rfl ?_
  refine Lp 2 [dZ,(dS (.agg (mc o.m).toArray))] (some [9]) (fun S => [(∀ w1,S w1 → (loadVar 28 ⟨bx,1,none⟩).run Tryz.prog w1 = .ok (.agg (mc o.m).toArray) w1)]) ⟨(fun w1 h => load_list Tryz.underlying28 rfl kr rfl (fun j v hj => h.ocell 0 rfl (by rw [List.getElem?_toArray]; exact (fun j v hj => oc_map (by exact hj)) j v hj))),trivial⟩ ?_
  refine Lu (Eff.callA (.int .i64 (rightF o.m.vs o.m.es (o.m.rs.map RowU.xs))) rfl Tryz.func39 rfl rfl kr (fun w1 h => rRight o.m Rl w1 hO.m (h.hasR (fun e he => he)) hu)) ?_
  refine Ld 1 [2] ?_
  refine Cfg.ret rfl (rs := [.tmp 2]) rfl [.int .i64 (rightF o.m.vs o.m.es (o.m.rs.map RowU.xs))] ⟨kr,trivial⟩ (fun w1 hp => ?_)
  -- ['c1T']
  have hfin : chkO o = (rightF o.m.vs o.m.es (o.m.rs.map RowU.xs)) := (chkO_map c1)
  rw [hfin]
  exact ⟨rfl,hp.ext⟩
 ·have c1 := (beq_eq_false_iff_ne.1 c1r)
  refine Rq [1,5,11] ?_
  refine Cfg.cond rfl (b := ((o.k : Int) == (99 : Int))) kr (fun c2r => ?_) (fun c2r => ?_)
  ·have c2 := (beq_iff_eq.1 c2r)
   refine Rg [1,3] [dZ,dZ,(dS (.slice o.c.pa o.c.ps.length o.c.pc))] (fun S => [(cE S bx 36 (.slice o.c.pa o.c.ps.length o.c.pc))]) ⟨(fun w1 h => h.ocell 0 rfl (by rw [List.getElem?_toArray]; exact (oc_com (j := 32) (cc_p hoc)))),trivial⟩ ?_
   refine Cfg.reg rfl [1,3,18] [] (Γ' := [(18,[],.bool (decide ((o.c.ps.length : Int) > (2 : Int)))),(3,[],.slice o.c.pa o.c.ps.length o.c.pc),(1,[],pT bx)]) (nd := (fun _ => [])) (fun _ => kr) trivial ?_
   refine Cfg.cond rfl (b := (decide ((o.c.ps.length : Int) > (2 : Int)))) kr (fun c3r => ?_) (fun c3r => ?_)
   ·have c3 := (dT c3r)
    refine Rq [2] ?_
    refine Cfg.ret rfl (rs := [.tmp 2]) rfl [.int .i64 6] ⟨kr,trivial⟩ (fun w1 hp => ?_)
    -- ['c1F','c2T','c3T']
    have hfin : chkO o = (6 : Int) := (chkO_com c2).trans (comE_many c3)
    rw [hfin]
    exact ⟨rfl,hp.ext⟩
   ·have c3 := (dF c3r)
    by_cases hl2 : o.c.ps.length = 2
    ·
     obtain ⟨sa,offa,csa,tea,frea,hpa,hma,hca⟩ := hO.c.p om
     refine Cfg.setS 3 (show .slice o.c.pa o.c.ps.length o.c.pc = .slice (some ⟨sa,offa,none⟩) o.c.ps.length o.c.pc from by rw [hpa]) ?_
     refine Cfg.begA rfl kr [(bx,.cells ((oc o).toArray) 38 (0,0))] ?_
     refine Ap [0,1,2,3] [] (some [1,3,22]) (tF 4 8) (.cons_cons _ .slnil) 8 n0 trivial ?_
     refine CfgA.known 22 (b := ((o.c.ps.length : Int) == (2 : Int))) kr true (by simp [hl2]) ?_
     refine Ap [4,5,7,8] [(1,false,none),(1,false,none),(1,false,none),(1,false,none)] (some [1,22,24,27]) (bF 447 12) (.cons_cons _ .slnil) 4 (fun _ => [((.bool true : Value) = .bool true),((.bool true : Value) = .bool true),(0 ≤ (0 : Int) ∧ (0 : Int) < (o.c.ps.length : Int)),((.bool true : Value) = .bool true),((.bool true : Value) = .bool true),(0 ≤ (1 : Int) ∧ (1 : Int) < (o.c.ps.length : Int))]) ⟨rfl,rfl,om,rfl,rfl,om,trivial⟩ ?_
     refine CfgA.two 6 9 kr (fuel' := 3) rfl ?_ ?_
     ·
      refine Iu rfl  (Eff.quiet (raw := false) (orc := some (.agg (bv (o.c.ps.getD 0 [])))) (v := .agg (bv (o.c.ps.getD 0 []))) (nd := (fun S => [(∀ w1,S w1 → (loadVar 30 ⟨sa,(addO offa (0 * 32)),none⟩).run Tryz.prog w1 = .ok (.agg (bv (o.c.ps.getD 0 []))) w1)])) (fun _ => kr) ⟨(fun w1 h => load_bytes Tryz.underlying30 rfl kr (hO.c.w.at om) (fun j hj => by simp only [addO_eq]; exact (cell_cells (h.ro _ hma)).trans (fl_cell [] (fun x hx => dgc_len (hO.c.w x hx)) hca (i := 0) om (dg_byte (hO.c.w.at om) hj)))),trivial⟩ kr) (fun _ _ => (.cons_cons _ .slnil)) ?_
      refine Au 9 rfl 2  (Eff.quiet (raw := false) (orc := some (.agg (bv (o.c.ps.getD 1 [])))) (v := .agg (bv (o.c.ps.getD 1 []))) (nd := (fun S => [(∀ w1,S w1 → (loadVar 30 ⟨sa,(addO offa (1 * 32)),none⟩).run Tryz.prog w1 = .ok (.agg (bv (o.c.ps.getD 1 []))) w1)])) (fun _ => kr) ⟨(fun w1 h => load_bytes Tryz.underlying30 rfl kr (hO.c.w.at om) (fun j hj => by simp only [addO_eq]; exact (cell_cells (h.ro _ hma)).trans (fl_cell [] (fun x hx => dgc_len (hO.c.w x hx)) hca (i := 1) om (dg_byte (hO.c.w.at om) hj)))),trivial⟩ kr) (fun _ _ => (.cons_cons _ .slnil)) ?_
      refine Ap [10,11] [(1,false,some (.bool ((o.c.ps.getD 0 []) == (o.c.ps.getD 1 []))))] (some [1,30]) (tF 12 0) (.cons_cons _ .slnil) 0 (fun S => [((.bool true : Value) = .bool true),(∀ w1,S w1 → (Op.equal 30 (.agg (bv (o.c.ps.getD 0 []))) (.agg (bv (o.c.ps.getD 1 [])))).run Tryz.prog w1 = .ok ((o.c.ps.getD 0 []) == (o.c.ps.getD 1 [])) w1)]) ⟨rfl,(fun _ _ => equal_bv Tryz.underlying30 Tryz.underlying5 kr (hO.c.w.at om) (hO.c.w.at om)),trivial⟩ ?_
      refine CfgA.done kr ?_
      refine Cfg.cond rfl (b := ((o.c.ps.getD 0 []) == (o.c.ps.getD 1 []))) kr (fun c5r => ?_) (fun c5r => ?_)
      ·have c5 : (((o.c.ps.getD 0 []) == (o.c.ps.getD 1 [])) = true) := c5r
       refine Rq [2] ?_
       refine Cfg.ret rfl (rs := [.tmp 2]) rfl [.int .i64 17] ⟨kr,trivial⟩ (fun w1 hp => ?_)
       -- ['c1F','c2T','c3F','l2','c4T','c5T']
       have hfin : chkO o = (17 : Int) := (chkO_com c2).trans (comE_same hl2 c5)
       rw [hfin]
       exact ⟨rfl,hp.ext⟩
      ·have c5 : (((o.c.ps.getD 0 []) == (o.c.ps.getD 1 [])) = false) := c5r
       refine Cfg.begL rfl ?_
       refine Lp 3 [dZ,dZ,(dS (.string o.c.t))] (some [33]) (fun S => [(cE S bx 38 (.string o.c.t))]) ⟨(fun w1 h => h.ocell 0 rfl (by rw [List.getElem?_toArray]; exact (oc_com (j := 34) (cc_t hoc)))),trivial⟩ ?_
       refine Lu (Eff.callA (.int .i64 (txtE o.c.t)) rfl Tryz.func40 rfl rfl kr (fun w1 _ => oText o.c.t w1 ht1)) ?_
       refine Ld 1 [2] ?_
       refine Cfg.ret rfl (rs := [.tmp 2]) rfl [.int .i64 (txtE o.c.t)] ⟨kr,trivial⟩ (fun w1 hp => ?_)
       -- ['c1F','c2T','c3F','l2','c4T','c5F']
       have hfin : chkO o = (txtE o.c.t) := (chkO_com c2).trans (comE_txt c3 (fun h => absurd h.2 (beq_eq_false_iff_ne.1 c5)))
       rw [hfin]
       exact ⟨rfl,hp.ext⟩
     ·
      refine Iu rfl  (Eff.quiet (raw := false) (orc := some (.agg (bv (o.c.ps.getD 1 [])))) (v := .agg (bv (o.c.ps.getD 1 []))) (nd := (fun S => [(∀ w1,S w1 → (loadVar 30 ⟨sa,(addO offa (1 * 32)),none⟩).run Tryz.prog w1 = .ok (.agg (bv (o.c.ps.getD 1 []))) w1)])) (fun _ => kr) ⟨(fun w1 h => load_bytes Tryz.underlying30 rfl kr (hO.c.w.at om) (fun j hj => by simp only [addO_eq]; exact (cell_cells (h.ro _ hma)).trans (fl_cell [] (fun x hx => dgc_len (hO.c.w x hx)) hca (i := 1) om (dg_byte (hO.c.w.at om) hj)))),trivial⟩ kr) (fun _ _ => (.cons_cons _ .slnil)) ?_
      refine Au 6 rfl 2  (Eff.quiet (raw := false) (orc := some (.agg (bv (o.c.ps.getD 0 [])))) (v := .agg (bv (o.c.ps.getD 0 []))) (nd := (fun S => [(∀ w1,S w1 → (loadVar 30 ⟨sa,(addO offa (0 * 32)),none⟩).run Tryz.prog w1 = .ok (.agg (bv (o.c.ps.getD 0 []))) w1)])) (fun _ => kr) ⟨(fun w1 h => load_bytes Tryz.underlying30 rfl kr (hO.c.w.at om) (fun j hj => by simp only [addO_eq]; exact (cell_cells (h.ro _ hma)).trans (fl_cell [] (fun x hx => dgc_len (hO.c.w x hx)) hca (i := 0) om (dg_byte (hO.c.w.at om) hj)))),trivial⟩ kr) (fun _ _ => (.cons_cons _ .slnil)) ?_
      refine Ap [10,11] [(1,false,some (.bool ((o.c.ps.getD 0 []) == (o.c.ps.getD 1 []))))] (some [1,30]) (tF 12 0) (.cons_cons _ .slnil) 0 (fun S => [((.bool true : Value) = .bool true),(∀ w1,S w1 → (Op.equal 30 (.agg (bv (o.c.ps.getD 0 []))) (.agg (bv (o.c.ps.getD 1 [])))).run Tryz.prog w1 = .ok ((o.c.ps.getD 0 []) == (o.c.ps.getD 1 [])) w1)]) ⟨rfl,(fun _ _ => equal_bv Tryz.underlying30 Tryz.underlying5 kr (hO.c.w.at om) (hO.c.w.at om)),trivial⟩ ?_
      refine CfgA.done kr ?_
      refine Cfg.cond rfl (b := ((o.c.ps.getD 0 []) == (o.c.ps.getD 1 []))) kr (fun c6r => ?_) (fun c6r => ?_)
      ·have c6 : (((o.c.ps.getD 0 []) == (o.c.ps.getD 1 [])) = true) := c6r
       refine Cfg.reg rfl [2] [] (Γ' := [(2,[],.int .i64 17)]) (nd := (fun _ => [])) (fun _ => kr) trivial ?_
       refine Cfg.ret rfl (rs := [.tmp 2]) rfl [.int .i64 17] ⟨kr,trivial⟩ (fun w1 hp => ?_)
       -- ['c1F','c2T','c3F','l2','c4T','c6T']
       have hfin : chkO o = (17 : Int) := (chkO_com c2).trans (comE_same hl2 c6)
       rw [hfin]
       exact ⟨rfl,hp.ext⟩
      ·have c6 : (((o.c.ps.getD 0 []) == (o.c.ps.getD 1 [])) = false) := c6r
       refine Cfg.begL rfl ?_
       refine Lp 3 [dZ,dZ,(dS (.string o.c.t))] (some [33]) (fun S => [(cE S bx 38 (.string o.c.t))]) ⟨(fun w1 h => h.ocell 0 rfl (by rw [List.getElem?_toArray]; exact (oc_com (j := 34) (cc_t hoc)))),trivial⟩ ?_
       refine Lu (Eff.callA (.int .i64 (txtE o.c.t)) rfl Tryz.func40 rfl rfl kr (fun w1 _ => oText o.c.t w1 ht1)) ?_
       refine Ld 1 [2] ?_
       refine Cfg.ret rfl (rs := [.tmp 2]) rfl [.int .i64 (txtE o.c.t)] ⟨kr,trivial⟩ (fun w1 hp => ?_)
       -- ['c1F','c2T','c3F','l2','c4T','c6F']
       have hfin : chkO o = (txtE o.c.t) := (chkO_com c2).trans (comE_txt c3 (fun h => absurd h.2 (beq_eq_false_iff_ne.1 c6)))
       rw [hfin]
       exact ⟨rfl,hp.ext⟩
    ·
     refine Cfg.begA rfl kr [(bx,.cells ((oc o).toArray) 38 (0,0))] ?_
     refine Ap [0,1,2,3] [] (some [1,3,22]) (tF 4 8) (.cons_cons _ .slnil) 8 n0 trivial ?_
     refine CfgA.known 22 (b := ((o.c.ps.length : Int) == (2 : Int))) kr false (by rw [beq_eq_false_iff_ne]; omega) ?_
     refine Ap [4,5,6,7,8,9,10,11] [(2,false,none),(2,false,none),(2,false,none),(2,false,none),(2,false,none),(2,false,none),(2,false,none)] (some [1,30]) (tF 12 0) (.cons_cons _ .slnil) 0 (fun _ => [((.bool false : Value) ≠ .bool true),((.bool false : Value) ≠ .bool true),((.bool false : Value) ≠ .bool true),((.bool false : Value) ≠ .bool true),((.bool false : Value) ≠ .bool true),((.bool false : Value) ≠ .bool true),((.bool false : Value) ≠ .bool true)]) ⟨(by simp),(by simp),(by simp),(by simp),(by simp),(by simp),(by simp),trivial⟩ ?_
     refine CfgA.done kr ?_
     refine Cfg.condF rfl (b := false) kr rfl ?_
     refine Cfg.begL rfl ?_
     refine Lp 3 [dZ,dZ,(dS (.string o.c.t))] (some [33]) (fun S => [(cE S bx 38 (.string o.c.t))]) ⟨(fun w1 h => h.ocell 0 rfl (by rw [List.getElem?_toArray]; exact (oc_com (j := 34) (cc_t hoc)))),trivial⟩ ?_
     refine Lu (Eff.callA (.int .i64 (txtE o.c.t)) rfl Tryz.func40 rfl rfl kr (fun w1 _ => oText o.c.t w1 ht1)) ?_
     refine Ld 1 [2] ?_
     refine Cfg.ret rfl (rs := [.tmp 2]) rfl [.int .i64 (txtE o.c.t)] ⟨kr,trivial⟩ (fun w1 hp => ?_)
     -- ['c1F','c2T','c3F','n2','c7F']
     have hfin : chkO o = (txtE o.c.t) := (chkO_com c2).trans (comE_txt c3 (fun h => hl2 h.1))
     rw [hfin]
     exact ⟨rfl,hp.ext⟩
  ·have c2 := (beq_eq_false_iff_ne.1 c2r)
   refine Rq [1,35] ?_
   refine Cfg.cond rfl (b := ((o.k : Int) == (116 : Int))) kr (fun c9r => ?_) (fun c9r => ?_)
   ·have c9 := (beq_iff_eq.1 c9r)
    refine Cfg.begL rfl ?_
    refine CfgL.pure 3 [dZ,dZ,(dS (.string o.t.t))] (some [39]) (Γ' := [(39,[],.string o.t.t)]) (nd := (fun S => [(cE S bx 71 (.string o.t.t))])) kr (fun _ => kr) ⟨(fun w1 h => h.ocell 0 rfl (by rw [List.getElem?_toArray]; exact (oc_tag hoc (j := 32) (tc_t hot)))),trivial⟩ ?_
    refine Lu (Eff.callA (.int .i64 (txtE o.t.t)) rfl Tryz.func40 rfl rfl kr (fun w1 _ => oText o.t.t w1 ht2)) ?_
    refine Ld 1 [2] ?_
    refine Cfg.ret rfl (rs := [.tmp 2]) rfl [.int .i64 (txtE o.t.t)] ⟨kr,trivial⟩ (fun w1 hp => ?_)
    -- ['c1F','c2F','c9T']
    have hfin : chkO o = (txtE o.t.t) := chkO_tag c9
    rw [hfin]
    exact ⟨rfl,hp.ext⟩
   ·have c9 := (beq_eq_false_iff_ne.1 c9r)
    refine Rq [2] ?_
    refine Cfg.ret rfl (rs := [.tmp 2]) rfl [.int .i64 11] ⟨kr,trivial⟩ (fun w1 hp => ?_)
    -- ['c1F','c2F','c9F']
    have hfin : chkO o = (11 : Int) := chkO_no c1 c2 c9
    rw [hfin]
    exact ⟨rfl,hp.ext⟩
end Go.Proofs.YtbeeelgfhfmgbaaGreatDoor
namespace Go.Proofs.YtbeeelgfhfmgbaaGreatDoor
open K
set_option linter.unusedVariables false
set_option linter.unusedSimpArgs false
theorem objS_no {o : OM} (h : chkO o ≠ 0) : objS o = ByteArray.empty := if_pos h
theorem objS_map {o : OM} (h : chkO o = 0) (hk : (o.k : Int) = 109) : objS o = tx (be o.k 1 ++ mapL o.m.vs o.m.es (o.m.rs.map RowU.xs)) := by
 unfold objS objL; rw [if_neg (fun h9 => h9 h),if_pos om]
theorem objS_com {o : OM} (h : chkO o = 0) (hk : (o.k : Int) = 99) : objS o = tx (be o.k 1 ++ comL o.c.d o.c.ps o.c.n o.c.t) := by
 unfold objS objL; rw [if_neg (fun h9 => h9 h),if_neg om,if_pos om]
theorem objS_tag {o : OM} (h : chkO o = 0) (hk : (o.k : Int) = 116) : objS o = tx (be o.k 1 ++ tagL o.t.d o.t.t) := by
 unfold objS objL; rw [if_neg (fun h9 => h9 h),if_neg om,if_neg om]
set_option maxRecDepth 100000 in
set_option maxHeartbeats 8000000 in
theorem oByt (o : OM) (Rl : List (Nat × Obj)) (w : World) (hO : InO Rl o) (hR : Has w Rl) (hu : ∀ r ∈ o.m.rs,∀ n ∈ r.xs,n < 4294967296) (ht1 : o.c.t.size ≤ 9223372036854775807) (ht2 : o.t.t.size ≤ 9223372036854775807) (hn : o.c.n < 18446744073709551616) :
  Calls Tryz.prog 6 #[.agg (oc o).toArray] w fun e w' => e = .returned (.tuple #[.string (objS o),.int .i64 (chkO o)]) ∧ Ext [] w w' := by
 have hoc := hO.c.d
 have hot := hO.t
 have hcn := hO.c.n
 have hb1 : (be o.k 1).length = 1 := be_len _ _
 refine enter [] Rl [] Tryz.func6 rfl kr (HP.ofHas hR) ?_
 refine Cfg.begL rfl ?_
 refine Le (Eff.box (v := .agg (oc o).toArray) rfl kr) ?_
 rintro bx ⟨hbx,nbx⟩
 refine Ld 2 [1] ?_
 refine Cfg.begL rfl ?_
 refine Lp 1 [(dS (.agg (oc o).toArray))] none (fun S => [(∀ w1,S w1 → (loadVar 38 ⟨bx,0,none⟩).run Tryz.prog w1 = .ok (.agg (oc o).toArray) w1)]) ⟨(fun w1 h => load_list Tryz.underlying38 rfl kr (oc_len hoc hot) (fun j v hj => h.ocell 0 rfl (by rw [List.getElem?_toArray]; exact (fun j v hj => by rw [Nat.zero_add]; exact hj) j v hj))),trivial⟩ ?_
 refine Lu (Eff.callA (.int .i64 (chkO o)) rfl Tryz.func15 rfl rfl kr (fun w1 h => oChk o Rl w1 hO (h.hasR (fun e he => he)) hu ht1 ht2)) ?_
 refine Ld 1 [1,4] ?_
 refine Rq [1,4,9] ?_
 refine Cfg.cond rfl (b := ((chkO o) != (0 : Int))) kr (fun c1r => ?_) (fun c1r => ?_)
 ·have c1 := (bne_iff_ne.1 c1r)
  refine Rq [2,3] ?_
  refine Cfg.ret rfl (rs := [.tmp 2,.tmp 3]) rfl [.string ⟨#[]⟩,.int .i64 (chkO o)] ⟨kr,by kernel_rfl,trivial⟩ (fun w1 hp => ?_)
  rw [objS_no c1]
  exact ⟨rfl,hp.ext⟩
 ·have c1 := (bne_eq_false_iff_eq.1 c1r)
  have h0 : chkO o = 0 := by omega
  have hkk := chkO_kind h0
  refine Cfg.begL rfl ?_
  refine Lp 3 [(dS (.agg #[.string ByteArray.empty])),dZ,(dS (.int .u8 (o.k : Int)))] (some [1,11,13]) (fun S => [(∀ w1,S w1 → (Instr.build 54 #[]).run Tryz.prog w1 = .ok (.agg #[.string ByteArray.empty]) w1),(cE S bx 0 (.int .u8 (o.k : Int)))]) ⟨(fun _ _ => kr),(fun w1 h => h.ocell 0 rfl (by rw [List.getElem?_toArray]; exact rfl)),trivial⟩ ?_
  refine Lu (Eff.callA (.agg #[.string (tx (be o.k 1))]) rfl Tryz.func16 rfl rfl kr (fun w1 _ => wByte ByteArray.empty o.k w1 om (by show 0 + 1 ≤ _; decide))) ?_
  refine Le (Eff.alloc (z := (.agg #[.string ByteArray.empty])) rfl kr) ?_
  rintro o5 ⟨ho5,no5⟩
  refine Lu (Eff.storeN (b := o5) (off := 0) (vs := #[.string (tx (be o.k 1))]) (n := 1) rfl kr kr kr rfl (by simp [K.one]) 0 (cs := #[.string ByteArray.empty]) (e := 54) kr (by simp)) ?_
  refine oL 0 rfl (show _ = #[.string (tx (be o.k 1))] from rfl) ?_
  refine CfgL.done rfl ?_
  refine Cg (Γ' := [(5,[],pT o5),(1,[],pT bx)]) ?_
  refine Rg [1,5,16] [dZ,(dS (.int .u8 (o.k : Int)))] (fun S => [(cE S bx 0 (.int .u8 (o.k : Int)))]) ⟨(fun w1 h => h.ocell 1 rfl (by rw [List.getElem?_toArray]; exact rfl)),trivial⟩ ?_
  refine Rq [1,5,16,17] ?_
  refine Cfg.cond rfl (b := ((o.k : Int) == (109 : Int))) kr (fun c2r => ?_) (fun c2r => ?_)
  ·have c2 := (beq_iff_eq.1 c2r)
   have hr0 := (chkO_map c2).symm.trans h0
   have hin := rightF_in hr0 (fun t ht n hn => by obtain ⟨r,h1,rfl⟩ := List.mem_map.1 ht; exact hu r h1 n hn)
   have hml := mapL_len hin
   refine Cfg.begL rfl ?_
   refine Lp 3 [(dS (.agg #[.string (tx (be o.k 1))])),dZ,(dS (.agg (mc o.m).toArray))] (some [5,19,21]) (fun S => [(∀ w1,S w1 → (loadVar 54 ⟨o5,0,none⟩).run Tryz.prog w1 = .ok (.agg #[.string (tx (be o.k 1))]) w1),(∀ w1,S w1 → (loadVar 28 ⟨bx,1,none⟩).run Tryz.prog w1 = .ok (.agg (mc o.m).toArray) w1)]) ⟨(fun w1 h => h.oload 0 rfl Tryz.underlying54 rfl (n := 1) kr rfl),(fun w1 h => load_list Tryz.underlying28 rfl kr rfl (fun j v hj => h.ocell 1 rfl (by rw [List.getElem?_toArray]; exact (fun j v hj => oc_map (by exact hj)) j v hj))),trivial⟩ ?_
   refine Lu (Eff.callA (.agg #[.string (tx ((be o.k 1) ++ mapL o.m.vs o.m.es (o.m.rs.map RowU.xs)))]) rfl Tryz.func17 rfl rfl kr (fun w1 h => layM (tx (be o.k 1)) o.m Rl w1 hO.m (h.hasR (fun e he => he)) hin (by rw [tx_size,hb1]; omega))) ?_
   refine Lu (Eff.storeN (b := o5) (off := 0) (vs := #[.string (tx ((be o.k 1) ++ mapL o.m.vs o.m.es (o.m.rs.map RowU.xs)))]) (n := 1) rfl kr kr kr rfl (by simp [K.one]) 0 (cs := #[.string (tx (be o.k 1))]) (e := 54) kr (by simp)) ?_
   refine oL 0 rfl (show _ = #[.string (tx ((be o.k 1) ++ mapL o.m.vs o.m.es (o.m.rs.map RowU.xs)))] from rfl) ?_
   refine CfgL.done rfl ?_
   refine Cg (Γ' := [(5,[],pT o5)]) ?_
   refine Cfg.begL rfl ?_
   refine Lp 1 [(dS (.agg #[.string (tx ((be o.k 1) ++ mapL o.m.vs o.m.es (o.m.rs.map RowU.xs)))]))] (some [60]) (fun S => [(∀ w1,S w1 → (loadVar 54 ⟨o5,0,none⟩).run Tryz.prog w1 = .ok (.agg #[.string (tx ((be o.k 1) ++ mapL o.m.vs o.m.es (o.m.rs.map RowU.xs)))]) w1)]) ⟨(fun w1 h => h.oload 0 rfl Tryz.underlying54 rfl (n := 1) kr rfl),trivial⟩ ?_
   refine Lu (Eff.callA (.string (tx ((be o.k 1) ++ mapL o.m.vs o.m.es (o.m.rs.map RowU.xs)))) rfl Tryz.func23 rfl rfl kr (fun w1 _ => wString (tx ((be o.k 1) ++ mapL o.m.vs o.m.es (o.m.rs.map RowU.xs))) w1)) ?_
   refine Ld 2 [2,3] ?_
   refine Cfg.ret rfl (rs := [.tmp 2,.tmp 3]) rfl [.string (tx ((be o.k 1) ++ mapL o.m.vs o.m.es (o.m.rs.map RowU.xs))),.int .i64 0] ⟨kr,by kernel_rfl,trivial⟩ (fun w1 hp => ?_)
   rw [objS_map h0 c2,h0]
   exact ⟨rfl,hp.ext⟩
  ·have c2 := (beq_eq_false_iff_ne.1 c2r)
   refine Rq [1,5,16,23] ?_
   refine Cfg.cond rfl (b := ((o.k : Int) == (99 : Int))) kr (fun c3r => ?_) (fun c3r => ?_)
   ·have c3 := (beq_iff_eq.1 c3r)
    have hc0 := comE_ok ((chkO_com c3).symm.trans h0)
    have hrd := rowD_len hO.c.w
    obtain ⟨hc1,hc2⟩ := hc0
    refine Cfg.begL rfl ?_
    refine Lp 4 [(dS (.agg #[.string (tx (be o.k 1))])),dZ,dZ,(dS (.agg (bv o.c.d)))] (some [1,5,25,28]) (fun S => [(∀ w1,S w1 → (loadVar 54 ⟨o5,0,none⟩).run Tryz.prog w1 = .ok (.agg #[.string (tx (be o.k 1))]) w1),(∀ w1,S w1 → (loadVar 30 ⟨bx,4,none⟩).run Tryz.prog w1 = .ok (.agg (bv o.c.d)) w1)]) ⟨(fun w1 h => h.oload 0 rfl Tryz.underlying54 rfl (n := 1) kr rfl),(fun w1 h => load_list (vs := dgc o.c.d) Tryz.underlying30 rfl kr (dgc_len hoc) (fun j v hj => h.ocell 1 rfl (by rw [List.getElem?_toArray]; exact (fun j v hj => oc_com (cc_d hj)) j v hj))),trivial⟩ ?_
    refine Le (Eff.buildAgg (vs := (bv o.c.d)) (n := 32) rfl kr Tryz.underlying31 kr (z := (.agg #[.int .u8 0,.int .u8 0,.int .u8 0,.int .u8 0,.int .u8 0,.int .u8 0,.int .u8 0,.int .u8 0,.int .u8 0,.int .u8 0,.int .u8 0,.int .u8 0,.int .u8 0,.int .u8 0,.int .u8 0,.int .u8 0,.int .u8 0,.int .u8 0,.int .u8 0,.int .u8 0,.int .u8 0,.int .u8 0,.int .u8 0,.int .u8 0,.int .u8 0,.int .u8 0,.int .u8 0,.int .u8 0,.int .u8 0,.int .u8 0,.int .u8 0,.int .u8 0])) kr ((bv_size _).trans hoc) (by decide) (by decide)) ?_
    rintro x29 ⟨hx29,nx29⟩
    refine Lu (Eff.callA (.agg #[.string (tx ((be o.k 1) ++ o.c.d))]) rfl Tryz.func18 rfl rfl kr (fun w1 h => wDigest1 (be o.k 1) o.c.d x29 30 w1 hoc (by rw [hb1]; decide) (h.has (fun e he => mG 0 (by rw [List.mem_singleton.1 he]; rfl))))) ?_
    refine Lu (Eff.storeN (b := o5) (off := 0) (vs := #[.string (tx ((be o.k 1) ++ o.c.d))]) (n := 1) rfl kr kr kr rfl (by simp [K.one]) 1 (cs := #[.string (tx (be o.k 1))]) (e := 54) kr (by simp)) ?_
    refine oL 1 rfl (show _ = #[.string (tx ((be o.k 1) ++ o.c.d))] from rfl) ?_
    refine CfgL.done rfl ?_
    refine Cg (Γ' := [(5,[],pT o5),(1,[],pT bx)]) ?_
    refine Cfg.begL rfl ?_
    refine Lp 4 [(dS (.agg #[.string (tx ((be o.k 1) ++ o.c.d))])),dZ,dZ,(dS (.slice o.c.pa o.c.ps.length o.c.pc))] (some [1,5,31,34]) (fun S => [(∀ w1,S w1 → (loadVar 54 ⟨o5,0,none⟩).run Tryz.prog w1 = .ok (.agg #[.string (tx ((be o.k 1) ++ o.c.d))]) w1),(cE S bx 36 (.slice o.c.pa o.c.ps.length o.c.pc))]) ⟨(fun w1 h => h.oload 1 rfl Tryz.underlying54 rfl (n := 1) kr rfl),(fun w1 h => h.ocell 2 rfl (by rw [List.getElem?_toArray]; exact (oc_com (j := 32) (cc_p hoc)))),trivial⟩ ?_
    refine Lu (Eff.callA (.agg #[.string (tx (((be o.k 1) ++ o.c.d) ++ rowD o.c.ps))]) rfl Tryz.func19 rfl rfl kr (fun w1 h => wRowD (tx ((be o.k 1) ++ o.c.d)) o.c.pa o.c.pc o.c.ps Rl w1 hO.c.p hO.c.w (h.hasR (fun e he => he)) (by unfold maxLen; omega) om (by simp only [tx_size,List.length_append,flat_one,text4_len,hb1,hoc,hot]; omega))) ?_
    refine Lu (Eff.storeN (b := o5) (off := 0) (vs := #[.string (tx (((be o.k 1) ++ o.c.d) ++ rowD o.c.ps))]) (n := 1) rfl kr kr kr rfl (by simp [K.one]) 1 (cs := #[.string (tx ((be o.k 1) ++ o.c.d))]) (e := 54) kr (by simp)) ?_
    refine oL 1 rfl (show _ = #[.string (tx (((be o.k 1) ++ o.c.d) ++ rowD o.c.ps))] from rfl) ?_
    refine CfgL.done rfl ?_
    refine Cg (Γ' := [(5,[],pT o5),(1,[],pT bx)]) ?_
    refine Cfg.begA rfl kr [(x29,.cells (bv o.c.d) 30 (0,0)),(bx,.cells ((oc o).toArray) 38 (0,0))] ?_
    refine Ap [1,2,3,6,7,8] [dZ,dZ,(dS (.int .u64 (o.c.n : Int))),dZ,dZ,(dS (.string o.c.t))] (some [5,39,44]) (bF 462 12) (.cons_cons _ (.cons _ (.cons_cons _ .slnil))) 6 (fun S => [(cE S bx 37 (.int .u64 (o.c.n : Int))),(cE S bx 38 (.string o.c.t))]) ⟨(fun w1 h => h.ocell 1 rfl (by rw [List.getElem?_toArray]; exact (oc_com (j := 33) (cc_n hoc)))),(fun w1 h => h.ocell 1 rfl (by rw [List.getElem?_toArray]; exact (oc_com (j := 34) (cc_t hoc)))),trivial⟩ ?_
    refine CfgA.fam (ι := Option (Unit) × Option (Nat) × Option (Unit) × Option (Nat) × Option (Unit)) (fun (zq : Option (Unit) × Option (Nat) × Option (Unit) × Option (Nat) × Option (Unit)) => match zq with | (oo0,oo4,oo5,oo9,oo10) => (optL oo0 (fun (_ : Unit) => [(36,[],.agg #[.string (tx (((be o.k 1) ++ o.c.d) ++ rowD o.c.ps))])]) ++ (optL oo4 (fun (x40 : Nat) => [(40,[],.slice (some ⟨x40,0,none⟩) 1 1)]) ++ (optL oo5 (fun (_ : Unit) => [(41,[],.agg #[.string (tx ((((be o.k 1) ++ o.c.d) ++ rowD o.c.ps) ++ flat eight [o.c.n]))])]) ++ (optL oo9 (fun (x45 : Nat) => [(45,[],.slice (some ⟨x45,0,none⟩) 1 1)]) ++ (optL oo10 (fun (_ : Unit) => [(46,[],.agg #[.string (tx (((((be o.k 1) ++ o.c.d) ++ rowD o.c.ps) ++ flat eight [o.c.n]) ++ flat text4 [o.c.t]))])]) ++ [(44,[],.string o.c.t),(39,[],.int .u64 (o.c.n : Int)),(5,[],pT o5)])))))) (fun (zq : Option (Unit) × Option (Nat) × Option (Unit) × Option (Nat) × Option (Unit)) => match zq with | (oo0,oo4,oo5,oo9,oo10) => (optL oo4 (fun (x40 : Nat) => [(x40,.cells #[.int .u64 (o.c.n : Int)] 32 (0,0))]) ++ (optL oo9 (fun (x45 : Nat) => [(x45,.cells #[.string o.c.t] 9 (0,0))]) ++ ([(x29,.cells (bv o.c.d) 30 (0,0)),(o5,.cells #[.string (tx (((be o.k 1) ++ o.c.d) ++ rowD o.c.ps))] 54 (0,0)),(bx,.cells ((oc o).toArray) 38 (0,0))] ++ [])))) (fun (zq : Option (Unit) × Option (Nat) × Option (Unit) × Option (Nat) × Option (Unit)) => match zq with | (oo0,oo4,oo5,oo9,oo10) => #[oo0.isSome,true,true,true,oo4.isSome,oo5.isSome,true,true,true,oo9.isSome,oo10.isSome,false]) (fun (zq : Option (Unit) × Option (Nat) × Option (Unit) × Option (Nat) × Option (Unit)) => match zq with | (oo0,oo4,oo5,oo9,oo10) => 6 - (optN oo0 + optN oo4 + optN oo5 + optN oo9 + optN oo10)) (fun (zq : Option (Unit) × Option (Nat) × Option (Unit) × Option (Nat) × Option (Unit)) => match zq with | (oo0,oo4,oo5,oo9,oo10) => (oo5.isSome = true → oo0.isSome = true) ∧ (oo5.isSome = true → oo4.isSome = true) ∧ (oo10.isSome = true → oo5.isSome = true) ∧ (oo10.isSome = true → oo9.isSome = true) ∧ (oo10.isSome = true → oo5.isSome = true) ∧ True) (none,none,none,none,none) ⟨nofun,nofun,nofun,nofun,nofun,trivial⟩ kr kr (List.Perm.refl _) (Conv.mk kr) ?_
    rintro ⟨oo0,oo4,oo5,oo9,oo10⟩ hz IH
    obtain ⟨dd5_0,dd5_4,dd10_5,dd10_9,dd10_5,-⟩ := hz
    rcases oo0 with _ | ⟨⟩
    ·
     rcases oo4 with _ | x40
     ·
      rcases oo5 with _ | ⟨⟩
      ·
       rcases oo9 with _ | x45
       ·
        rcases oo10 with _ | ⟨⟩
        ·
         refine CfgA.to (l' := (bF 462 12)) (fuel' := 6) (O' := [(x29,.cells (bv o.c.d) 30 (0,0)),(o5,.cells #[.string (tx (((be o.k 1) ++ o.c.d) ++ rowD o.c.ps))] 54 (0,0)),(bx,.cells ((oc o).toArray) 38 (0,0))]) (Γ' := [(44,[],.string o.c.t),(39,[],.int .u64 (o.c.n : Int)),(5,[],pT o5)]) ?_ kr kr (List.Perm.refl _) (Conv.mk kr)
         refine CfgA.many [0,4,9] kr (by decide) (fuel' := 5) kr ⟨?_,?_,?_,trivial⟩
         ·
          refine Iu rfl  (Eff.quiet (raw := false) (orc := some (.agg #[.string (tx (((be o.k 1) ++ o.c.d) ++ rowD o.c.ps))])) (v := .agg #[.string (tx (((be o.k 1) ++ o.c.d) ++ rowD o.c.ps))]) (nd := (fun S => [(∀ w1,S w1 → (loadVar 54 ⟨o5,0,none⟩).run Tryz.prog w1 = .ok (.agg #[.string (tx (((be o.k 1) ++ o.c.d) ++ rowD o.c.ps))]) w1)])) (fun _ => kr) ⟨(fun w1 h => h.oload 1 rfl Tryz.underlying54 rfl (n := 1) kr rfl),trivial⟩ kr) (fun _ _ => (.cons_cons _ (.cons _ (.cons_cons _ .slnil)))) ?_
          exact CfgA.to (IH (some (),none,none,none,none) ⟨nofun,nofun,nofun,nofun,nofun,trivial⟩ (lt4 kr)) kr kr (.refl _) (Conv.mk kr)
         ·
          refine Ie rfl  (Eff.buildSlice (e := 32) (cells := #[.int .u64 (o.c.n : Int)]) (parts := #[(0,.int .u64 (o.c.n : Int))]) rfl kr (fun _ => kr)) (fun _ _ => (.cons _ (.cons_cons _ (.cons _ (.cons_cons _ .slnil))))) ?_
          rintro x40 ⟨hx40,nx40⟩
          exact CfgA.to (IH (none,some x40,none,none,none) ⟨nofun,nofun,nofun,nofun,nofun,trivial⟩ (lt4 kr)) kr kr (.refl _) (Conv.mk kr)
         ·
          refine Ie rfl  (Eff.buildSlice (e := 9) (cells := #[.string o.c.t]) (parts := #[(0,.string o.c.t)]) rfl kr (fun _ => kr)) (fun _ _ => (.cons _ (.cons_cons _ (.cons _ (.cons_cons _ .slnil))))) ?_
          rintro x45 ⟨hx45,nx45⟩
          exact CfgA.to (IH (none,none,none,some x45,none) ⟨nofun,nofun,nofun,nofun,nofun,trivial⟩ (lt4 kr)) kr kr (.refl _) (Conv.mk kr)
        ·
         exact absurd (dd10_5 rfl) (by decide)
       ·
        rcases oo10 with _ | ⟨⟩
        ·
         refine CfgA.to (l' := (bF 974 12)) (fuel' := 5) (O' := [(x45,.cells #[.string o.c.t] 9 (0,0)),(x29,.cells (bv o.c.d) 30 (0,0)),(o5,.cells #[.string (tx (((be o.k 1) ++ o.c.d) ++ rowD o.c.ps))] 54 (0,0)),(bx,.cells ((oc o).toArray) 38 (0,0))]) (Γ' := [(45,[],.slice (some ⟨x45,0,none⟩) 1 1),(44,[],.string o.c.t),(39,[],.int .u64 (o.c.n : Int)),(5,[],pT o5)]) ?_ kr kr (List.Perm.refl _) (Conv.mk kr)
         refine CfgA.many [0,4] kr (by decide) (fuel' := 4) kr ⟨?_,?_,trivial⟩
         ·
          refine Iu rfl  (Eff.quiet (raw := false) (orc := some (.agg #[.string (tx (((be o.k 1) ++ o.c.d) ++ rowD o.c.ps))])) (v := .agg #[.string (tx (((be o.k 1) ++ o.c.d) ++ rowD o.c.ps))]) (nd := (fun S => [(∀ w1,S w1 → (loadVar 54 ⟨o5,0,none⟩).run Tryz.prog w1 = .ok (.agg #[.string (tx (((be o.k 1) ++ o.c.d) ++ rowD o.c.ps))]) w1)])) (fun _ => kr) ⟨(fun w1 h => h.oload 2 rfl Tryz.underlying54 rfl (n := 1) kr rfl),trivial⟩ kr) (fun _ _ => (.cons _ (.cons_cons _ (.cons _ (.cons_cons _ .slnil))))) ?_
          exact CfgA.to (IH (some (),none,none,some x45,none) ⟨nofun,nofun,nofun,nofun,nofun,trivial⟩ (lt4 kr)) kr kr (.refl _) (Conv.mk kr)
         ·
          refine Ie rfl  (Eff.buildSlice (e := 32) (cells := #[.int .u64 (o.c.n : Int)]) (parts := #[(0,.int .u64 (o.c.n : Int))]) rfl kr (fun _ => kr)) (fun _ _ => (.cons _ (.cons _ (.cons_cons _ (.cons _ (.cons_cons _ .slnil)))))) ?_
          rintro x40 ⟨hx40,nx40⟩
          exact CfgA.to (IH (none,some x40,none,some x45,none) ⟨nofun,nofun,nofun,nofun,nofun,trivial⟩ (lt4 kr)) kr kr (.refl _) (Conv.mk kr)
        ·
         exact absurd (dd10_5 rfl) (by decide)
      ·
       exact absurd (dd5_0 rfl) (by decide)
     ·
      rcases oo5 with _ | ⟨⟩
      ·
       rcases oo9 with _ | x45
       ·
        rcases oo10 with _ | ⟨⟩
        ·
         refine CfgA.to (l' := (bF 478 12)) (fuel' := 5) (O' := [(x40,.cells #[.int .u64 (o.c.n : Int)] 32 (0,0)),(x29,.cells (bv o.c.d) 30 (0,0)),(o5,.cells #[.string (tx (((be o.k 1) ++ o.c.d) ++ rowD o.c.ps))] 54 (0,0)),(bx,.cells ((oc o).toArray) 38 (0,0))]) (Γ' := [(40,[],.slice (some ⟨x40,0,none⟩) 1 1),(44,[],.string o.c.t),(39,[],.int .u64 (o.c.n : Int)),(5,[],pT o5)]) ?_ kr kr (List.Perm.refl _) (Conv.mk kr)
         refine CfgA.many [0,9] kr (by decide) (fuel' := 4) kr ⟨?_,?_,trivial⟩
         ·
          refine Iu rfl  (Eff.quiet (raw := false) (orc := some (.agg #[.string (tx (((be o.k 1) ++ o.c.d) ++ rowD o.c.ps))])) (v := .agg #[.string (tx (((be o.k 1) ++ o.c.d) ++ rowD o.c.ps))]) (nd := (fun S => [(∀ w1,S w1 → (loadVar 54 ⟨o5,0,none⟩).run Tryz.prog w1 = .ok (.agg #[.string (tx (((be o.k 1) ++ o.c.d) ++ rowD o.c.ps))]) w1)])) (fun _ => kr) ⟨(fun w1 h => h.oload 2 rfl Tryz.underlying54 rfl (n := 1) kr rfl),trivial⟩ kr) (fun _ _ => (.cons _ (.cons_cons _ (.cons _ (.cons_cons _ .slnil))))) ?_
          exact CfgA.to (IH (some (),some x40,none,none,none) ⟨nofun,nofun,nofun,nofun,nofun,trivial⟩ (lt4 kr)) kr kr (.refl _) (Conv.mk kr)
         ·
          refine Ie rfl  (Eff.buildSlice (e := 9) (cells := #[.string o.c.t]) (parts := #[(0,.string o.c.t)]) rfl kr (fun _ => kr)) (fun _ _ => (.cons _ (.cons _ (.cons_cons _ (.cons _ (.cons_cons _ .slnil)))))) ?_
          rintro x45 ⟨hx45,nx45⟩
          exact CfgA.to (IH (none,some x40,none,some x45,none) ⟨nofun,nofun,nofun,nofun,nofun,trivial⟩ (lt4 kr)) kr kr (pmid (l₁ := [(x40,Obj.cells #[.int .u64 (o.c.n : Int)] 32 (0,0))])) (Conv.mk kr)
        ·
         exact absurd (dd10_5 rfl) (by decide)
       ·
        rcases oo10 with _ | ⟨⟩
        ·
         refine CfgA.to (l' := (bF 990 12)) (fuel' := 4) (O' := [(x40,.cells #[.int .u64 (o.c.n : Int)] 32 (0,0)),(x45,.cells #[.string o.c.t] 9 (0,0)),(x29,.cells (bv o.c.d) 30 (0,0)),(o5,.cells #[.string (tx (((be o.k 1) ++ o.c.d) ++ rowD o.c.ps))] 54 (0,0)),(bx,.cells ((oc o).toArray) 38 (0,0))]) (Γ' := [(40,[],.slice (some ⟨x40,0,none⟩) 1 1),(45,[],.slice (some ⟨x45,0,none⟩) 1 1),(44,[],.string o.c.t),(39,[],.int .u64 (o.c.n : Int)),(5,[],pT o5)]) ?_ kr kr (List.Perm.refl _) (Conv.mk kr)
         refine CfgA.many [0] kr (by decide) (fuel' := 3) kr ⟨?_,trivial⟩
         ·
          refine Iu rfl  (Eff.quiet (raw := false) (orc := some (.agg #[.string (tx (((be o.k 1) ++ o.c.d) ++ rowD o.c.ps))])) (v := .agg #[.string (tx (((be o.k 1) ++ o.c.d) ++ rowD o.c.ps))]) (nd := (fun S => [(∀ w1,S w1 → (loadVar 54 ⟨o5,0,none⟩).run Tryz.prog w1 = .ok (.agg #[.string (tx (((be o.k 1) ++ o.c.d) ++ rowD o.c.ps))]) w1)])) (fun _ => kr) ⟨(fun w1 h => h.oload 3 rfl Tryz.underlying54 rfl (n := 1) kr rfl),trivial⟩ kr) (fun _ _ => (.cons _ (.cons _ (.cons_cons _ (.cons _ (.cons_cons _ .slnil)))))) ?_
          exact CfgA.to (IH (some (),some x40,none,some x45,none) ⟨nofun,nofun,nofun,nofun,nofun,trivial⟩ (lt4 kr)) kr kr (.refl _) (Conv.mk kr)
        ·
         exact absurd (dd10_5 rfl) (by decide)
      ·
       exact absurd (dd5_0 rfl) (by decide)
    ·
     rcases oo4 with _ | x40
     ·
      rcases oo5 with _ | ⟨⟩
      ·
       rcases oo9 with _ | x45
       ·
        rcases oo10 with _ | ⟨⟩
        ·
         refine CfgA.to (l' := (bF 463 12)) (fuel' := 5) (O' := [(x29,.cells (bv o.c.d) 30 (0,0)),(o5,.cells #[.string (tx (((be o.k 1) ++ o.c.d) ++ rowD o.c.ps))] 54 (0,0)),(bx,.cells ((oc o).toArray) 38 (0,0))]) (Γ' := [(36,[],.agg #[.string (tx (((be o.k 1) ++ o.c.d) ++ rowD o.c.ps))]),(44,[],.string o.c.t),(39,[],.int .u64 (o.c.n : Int)),(5,[],pT o5)]) ?_ kr kr (List.Perm.refl _) (Conv.mk kr)
         refine CfgA.many [4,9] kr (by decide) (fuel' := 4) kr ⟨?_,?_,trivial⟩
         ·
          refine Ie rfl  (Eff.buildSlice (e := 32) (cells := #[.int .u64 (o.c.n : Int)]) (parts := #[(0,.int .u64 (o.c.n : Int))]) rfl kr (fun _ => kr)) (fun _ _ => (.cons _ (.cons_cons _ (.cons _ (.cons_cons _ .slnil))))) ?_
          rintro x40 ⟨hx40,nx40⟩
          exact CfgA.to (IH (some (),some x40,none,none,none) ⟨nofun,nofun,nofun,nofun,nofun,trivial⟩ (lt4 kr)) kr kr (.refl _) (Conv.mk kr)
         ·
          refine Ie rfl  (Eff.buildSlice (e := 9) (cells := #[.string o.c.t]) (parts := #[(0,.string o.c.t)]) rfl kr (fun _ => kr)) (fun _ _ => (.cons _ (.cons_cons _ (.cons _ (.cons_cons _ .slnil))))) ?_
          rintro x45 ⟨hx45,nx45⟩
          exact CfgA.to (IH (some (),none,none,some x45,none) ⟨nofun,nofun,nofun,nofun,nofun,trivial⟩ (lt4 kr)) kr kr (.refl _) (Conv.mk kr)
        ·
         exact absurd (dd10_5 rfl) (by decide)
       ·
        rcases oo10 with _ | ⟨⟩
        ·
         refine CfgA.to (l' := (bF 975 12)) (fuel' := 4) (O' := [(x45,.cells #[.string o.c.t] 9 (0,0)),(x29,.cells (bv o.c.d) 30 (0,0)),(o5,.cells #[.string (tx (((be o.k 1) ++ o.c.d) ++ rowD o.c.ps))] 54 (0,0)),(bx,.cells ((oc o).toArray) 38 (0,0))]) (Γ' := [(36,[],.agg #[.string (tx (((be o.k 1) ++ o.c.d) ++ rowD o.c.ps))]),(45,[],.slice (some ⟨x45,0,none⟩) 1 1),(44,[],.string o.c.t),(39,[],.int .u64 (o.c.n : Int)),(5,[],pT o5)]) ?_ kr kr (List.Perm.refl _) (Conv.mk kr)
         refine CfgA.many [4] kr (by decide) (fuel' := 3) kr ⟨?_,trivial⟩
         ·
          refine Ie rfl  (Eff.buildSlice (e := 32) (cells := #[.int .u64 (o.c.n : Int)]) (parts := #[(0,.int .u64 (o.c.n : Int))]) rfl kr (fun _ => kr)) (fun _ _ => (.cons _ (.cons _ (.cons_cons _ (.cons _ (.cons_cons _ .slnil)))))) ?_
          rintro x40 ⟨hx40,nx40⟩
          exact CfgA.to (IH (some (),some x40,none,some x45,none) ⟨nofun,nofun,nofun,nofun,nofun,trivial⟩ (lt4 kr)) kr kr (.refl _) (Conv.mk kr)
        ·
         exact absurd (dd10_5 rfl) (by decide)
      ·
       exact absurd (dd5_4 rfl) (by decide)
     ·
      rcases oo5 with _ | ⟨⟩
      ·
       rcases oo9 with _ | x45
       ·
        rcases oo10 with _ | ⟨⟩
        ·
         refine CfgA.to (l' := (bF 479 12)) (fuel' := 4) (O' := [(x40,.cells #[.int .u64 (o.c.n : Int)] 32 (0,0)),(x29,.cells (bv o.c.d) 30 (0,0)),(o5,.cells #[.string (tx (((be o.k 1) ++ o.c.d) ++ rowD o.c.ps))] 54 (0,0)),(bx,.cells ((oc o).toArray) 38 (0,0))]) (Γ' := [(36,[],.agg #[.string (tx (((be o.k 1) ++ o.c.d) ++ rowD o.c.ps))]),(40,[],.slice (some ⟨x40,0,none⟩) 1 1),(44,[],.string o.c.t),(39,[],.int .u64 (o.c.n : Int)),(5,[],pT o5)]) ?_ kr kr (List.Perm.refl _) (Conv.mk kr)
         refine CfgA.many [5,9] kr (by decide) (fuel' := 3) kr ⟨?_,?_,trivial⟩
         ·
          refine Iu rfl  (Eff.callA (.agg #[.string (tx ((((be o.k 1) ++ o.c.d) ++ rowD o.c.ps) ++ flat eight [o.c.n]))]) rfl Tryz.func21 rfl rfl kr (fun w1 h => wEight (tx (((be o.k 1) ++ o.c.d) ++ rowD o.c.ps)) (some ⟨x40,0,none⟩) 1 [o.c.n] [(x40,.cells #[.int .u64 (o.c.n : Int)] 32 (0,0))] w1 (inS_num x40 32 (0,0) .u64 o.c.n) (h.has (fun e he => mG 0 (by rw [List.mem_singleton.1 he]; rfl))) (by simp [maxLen]) (by have h8 : (eight o.c.n).length = 8 := be_len _ _; simp only [tx_size,List.length_append,flat_one,hb1,hoc,h8]; omega) (one_get hn (by decide)))) (fun _ _ => (.cons _ (.cons_cons _ (.cons _ (.cons_cons _ .slnil))))) ?_
          exact CfgA.to (IH (some (),some x40,some (),none,none) ⟨(fun _ => rfl),(fun _ => rfl),nofun,nofun,nofun,trivial⟩ (lt4 kr)) kr kr (.refl _) (Conv.mk kr)
         ·
          refine Ie rfl  (Eff.buildSlice (e := 9) (cells := #[.string o.c.t]) (parts := #[(0,.string o.c.t)]) rfl kr (fun _ => kr)) (fun _ _ => (.cons _ (.cons _ (.cons_cons _ (.cons _ (.cons_cons _ .slnil)))))) ?_
          rintro x45 ⟨hx45,nx45⟩
          exact CfgA.to (IH (some (),some x40,none,some x45,none) ⟨nofun,nofun,nofun,nofun,nofun,trivial⟩ (lt4 kr)) kr kr (pmid (l₁ := [(x40,Obj.cells #[.int .u64 (o.c.n : Int)] 32 (0,0))])) (Conv.mk kr)
        ·
         exact absurd (dd10_5 rfl) (by decide)
       ·
        rcases oo10 with _ | ⟨⟩
        ·
         refine CfgA.to (l' := (bF 991 12)) (fuel' := 3) (O' := [(x40,.cells #[.int .u64 (o.c.n : Int)] 32 (0,0)),(x45,.cells #[.string o.c.t] 9 (0,0)),(x29,.cells (bv o.c.d) 30 (0,0)),(o5,.cells #[.string (tx (((be o.k 1) ++ o.c.d) ++ rowD o.c.ps))] 54 (0,0)),(bx,.cells ((oc o).toArray) 38 (0,0))]) (Γ' := [(36,[],.agg #[.string (tx (((be o.k 1) ++ o.c.d) ++ rowD o.c.ps))]),(40,[],.slice (some ⟨x40,0,none⟩) 1 1),(45,[],.slice (some ⟨x45,0,none⟩) 1 1),(44,[],.string o.c.t),(39,[],.int .u64 (o.c.n : Int)),(5,[],pT o5)]) ?_ kr kr (List.Perm.refl _) (Conv.mk kr)
         refine CfgA.many [5] kr (by decide) (fuel' := 2) kr ⟨?_,trivial⟩
         ·
          refine Iu rfl  (Eff.callA (.agg #[.string (tx ((((be o.k 1) ++ o.c.d) ++ rowD o.c.ps) ++ flat eight [o.c.n]))]) rfl Tryz.func21 rfl rfl kr (fun w1 h => wEight (tx (((be o.k 1) ++ o.c.d) ++ rowD o.c.ps)) (some ⟨x40,0,none⟩) 1 [o.c.n] [(x40,.cells #[.int .u64 (o.c.n : Int)] 32 (0,0))] w1 (inS_num x40 32 (0,0) .u64 o.c.n) (h.has (fun e he => mG 0 (by rw [List.mem_singleton.1 he]; rfl))) (by simp [maxLen]) (by have h8 : (eight o.c.n).length = 8 := be_len _ _; simp only [tx_size,List.length_append,flat_one,hb1,hoc,h8]; omega) (one_get hn (by decide)))) (fun _ _ => (.cons _ (.cons _ (.cons_cons _ (.cons _ (.cons_cons _ .slnil)))))) ?_
          exact CfgA.to (IH (some (),some x40,some (),some x45,none) ⟨(fun _ => rfl),(fun _ => rfl),nofun,nofun,nofun,trivial⟩ (lt4 kr)) kr kr (.refl _) (Conv.mk kr)
        ·
         exact absurd (dd10_5 rfl) (by decide)
      ·
       rcases oo9 with _ | x45
       ·
        rcases oo10 with _ | ⟨⟩
        ·
         refine CfgA.to (l' := tF 9 3) (fuel' := 3) (O' := [(x40,.cells #[.int .u64 (o.c.n : Int)] 32 (0,0)),(x29,.cells (bv o.c.d) 30 (0,0)),(o5,.cells #[.string (tx (((be o.k 1) ++ o.c.d) ++ rowD o.c.ps))] 54 (0,0)),(bx,.cells ((oc o).toArray) 38 (0,0))]) (Γ' := [(36,[],.agg #[.string (tx (((be o.k 1) ++ o.c.d) ++ rowD o.c.ps))]),(40,[],.slice (some ⟨x40,0,none⟩) 1 1),(41,[],.agg #[.string (tx ((((be o.k 1) ++ o.c.d) ++ rowD o.c.ps) ++ flat eight [o.c.n]))]),(44,[],.string o.c.t),(39,[],.int .u64 (o.c.n : Int)),(5,[],pT o5)]) ?_ kr kr (List.Perm.refl _) (Conv.mk kr)
         refine CfgA.many [9] kr (by decide) (fuel' := 2) kr ⟨?_,trivial⟩
         ·
          refine Ie rfl  (Eff.buildSlice (e := 9) (cells := #[.string o.c.t]) (parts := #[(0,.string o.c.t)]) rfl kr (fun _ => kr)) (fun _ _ => (.cons _ (.cons _ (.cons_cons _ (.cons _ (.cons_cons _ .slnil)))))) ?_
          rintro x45 ⟨hx45,nx45⟩
          exact CfgA.to (IH (some (),some x40,some (),some x45,none) ⟨(fun _ => rfl),(fun _ => rfl),nofun,nofun,nofun,trivial⟩ (lt4 kr)) kr kr (pmid (l₁ := [(x40,Obj.cells #[.int .u64 (o.c.n : Int)] 32 (0,0))])) (Conv.mk kr)
        ·
         exact absurd (dd10_9 rfl) (by decide)
       ·
        rcases oo10 with _ | ⟨⟩
        ·
         refine CfgA.to (l' := tF 10 2) (fuel' := 2) (O' := [(x40,.cells #[.int .u64 (o.c.n : Int)] 32 (0,0)),(x45,.cells #[.string o.c.t] 9 (0,0)),(x29,.cells (bv o.c.d) 30 (0,0)),(o5,.cells #[.string (tx (((be o.k 1) ++ o.c.d) ++ rowD o.c.ps))] 54 (0,0)),(bx,.cells ((oc o).toArray) 38 (0,0))]) (Γ' := [(36,[],.agg #[.string (tx (((be o.k 1) ++ o.c.d) ++ rowD o.c.ps))]),(40,[],.slice (some ⟨x40,0,none⟩) 1 1),(41,[],.agg #[.string (tx ((((be o.k 1) ++ o.c.d) ++ rowD o.c.ps) ++ flat eight [o.c.n]))]),(45,[],.slice (some ⟨x45,0,none⟩) 1 1),(44,[],.string o.c.t),(39,[],.int .u64 (o.c.n : Int)),(5,[],pT o5)]) ?_ kr kr (List.Perm.refl _) (Conv.mk kr)
         refine CfgA.many [10] kr (by decide) (fuel' := 1) kr ⟨?_,trivial⟩
         ·
          refine Iu rfl  (Eff.callA (.agg #[.string (tx (((((be o.k 1) ++ o.c.d) ++ rowD o.c.ps) ++ flat eight [o.c.n]) ++ flat text4 [o.c.t]))]) rfl Tryz.func22 rfl rfl kr (fun w1 h => wText (tx ((((be o.k 1) ++ o.c.d) ++ rowD o.c.ps) ++ flat eight [o.c.n])) (some ⟨x45,0,none⟩) 1 [o.c.t] [(x45,.cells #[.string o.c.t] 9 (0,0))] w1 (inS_text x45 9 (0,0) o.c.t) (h.has (fun e he => mG 1 (by rw [List.mem_singleton.1 he]; rfl))) (one_len _) (by have h8 : (eight o.c.n).length = 8 := be_len _ _; simp only [tx_size,List.length_append,flat_one,text4_len,hb1,hoc,h8]; omega))) (fun _ _ => (.cons _ (.cons _ (.cons_cons _ (.cons _ (.cons_cons _ .slnil)))))) ?_
          exact CfgA.to (IH (some (),some x40,some (),some x45,some ()) ⟨(fun _ => rfl),(fun _ => rfl),(fun _ => rfl),(fun _ => rfl),(fun _ => rfl),trivial⟩ (lt4 kr)) kr kr (.refl _) (Conv.mk kr)
        ·
         refine CfgA.to (l' := tF 11 1) (fuel' := 1) (O' := [(x40,.cells #[.int .u64 (o.c.n : Int)] 32 (0,0)),(x45,.cells #[.string o.c.t] 9 (0,0)),(x29,.cells (bv o.c.d) 30 (0,0)),(o5,.cells #[.string (tx (((be o.k 1) ++ o.c.d) ++ rowD o.c.ps))] 54 (0,0)),(bx,.cells ((oc o).toArray) 38 (0,0))]) (Γ' := [(36,[],.agg #[.string (tx (((be o.k 1) ++ o.c.d) ++ rowD o.c.ps))]),(40,[],.slice (some ⟨x40,0,none⟩) 1 1),(41,[],.agg #[.string (tx ((((be o.k 1) ++ o.c.d) ++ rowD o.c.ps) ++ flat eight [o.c.n]))]),(45,[],.slice (some ⟨x45,0,none⟩) 1 1),(46,[],.agg #[.string (tx (((((be o.k 1) ++ o.c.d) ++ rowD o.c.ps) ++ flat eight [o.c.n]) ++ flat text4 [o.c.t]))]),(44,[],.string o.c.t),(39,[],.int .u64 (o.c.n : Int)),(5,[],pT o5)]) ?_ kr kr (List.Perm.refl _) (Conv.mk kr)
         refine Au 11 rfl 0  (Eff.storeN (b := o5) (off := 0) (vs := #[.string (tx (((((be o.k 1) ++ o.c.d) ++ rowD o.c.ps) ++ flat eight [o.c.n]) ++ flat text4 [o.c.t]))]) (n := 1) rfl kr kr kr rfl (by simp [K.one]) 3 (cs := #[.string (tx (((be o.k 1) ++ o.c.d) ++ rowD o.c.ps))]) (e := 54) kr (by simp)) (fun _ _ => (.cons _ (.cons _ (.cons_cons _ (.cons _ (.cons_cons _ .slnil)))))) ?_
         refine oA 3 rfl (show _ = #[.string (tx (((((be o.k 1) ++ o.c.d) ++ rowD o.c.ps) ++ flat eight [o.c.n]) ++ flat text4 [o.c.t]))] from rfl) ?_
         refine CfgA.done kr ?_
         refine Cg (Γ' := [(5,[],pT o5)]) ?_
         refine Cfg.begL rfl ?_
         refine Lp 1 [(dS (.agg #[.string (tx (((((be o.k 1) ++ o.c.d) ++ rowD o.c.ps) ++ flat eight [o.c.n]) ++ flat text4 [o.c.t]))]))] (some [60]) (fun S => [(∀ w1,S w1 → (loadVar 54 ⟨o5,0,none⟩).run Tryz.prog w1 = .ok (.agg #[.string (tx (((((be o.k 1) ++ o.c.d) ++ rowD o.c.ps) ++ flat eight [o.c.n]) ++ flat text4 [o.c.t]))]) w1)]) ⟨(fun w1 h => h.oload 3 rfl Tryz.underlying54 rfl (n := 1) kr rfl),trivial⟩ ?_
         refine Lu (Eff.callA (.string (tx (((((be o.k 1) ++ o.c.d) ++ rowD o.c.ps) ++ flat eight [o.c.n]) ++ flat text4 [o.c.t]))) rfl Tryz.func23 rfl rfl kr (fun w1 _ => wString (tx (((((be o.k 1) ++ o.c.d) ++ rowD o.c.ps) ++ flat eight [o.c.n]) ++ flat text4 [o.c.t])) w1)) ?_
         refine Ld 2 [2,3] ?_
         refine Cfg.ret rfl (rs := [.tmp 2,.tmp 3]) rfl [.string (tx (((((be o.k 1) ++ o.c.d) ++ rowD o.c.ps) ++ flat eight [o.c.n]) ++ flat text4 [o.c.t])),.int .i64 0] ⟨kr,by kernel_rfl,trivial⟩ (fun w1 hp => ?_)
         rw [objS_com h0 c3,h0]
         exact ⟨by rw [flat_one,flat_one,List.append_assoc,List.append_assoc,List.append_assoc]; rfl,hp.ext⟩
   ·have c3 := (beq_eq_false_iff_ne.1 c3r)
    have hk6 : (o.k : Int) = 116 := by omega
    have ht0 := txtE_ok ((chkO_tag hk6).symm.trans h0)
    refine Rq [1,5,47] ?_
    refine Cfg.condT rfl (b := ((o.k : Int) == (116 : Int))) kr (by rw [beq_iff_eq]; omega) ?_
    refine Cfg.begA rfl kr [(bx,.cells ((oc o).toArray) 38 (0,0))] ?_
    refine Ap [1,2,3,6,7,8] [dZ,dZ,(dS (.agg (bv o.t.d))),dZ,dZ,(dS (.string o.t.t))] (some [5,52,57]) (bF 462 12) (.cons _ (.cons_cons _ .slnil)) 6 (fun S => [(∀ w1,S w1 → (loadVar 30 ⟨bx,39,none⟩).run Tryz.prog w1 = .ok (.agg (bv o.t.d)) w1),(cE S bx 71 (.string o.t.t))]) ⟨(fun w1 h => load_list (vs := dgc o.t.d) Tryz.underlying30 rfl kr (dgc_len hot) (fun j v hj => h.ocell 0 rfl (by rw [List.getElem?_toArray]; exact (fun j v hj => oc_tag hoc (tc_d hj)) j v hj))),(fun w1 h => h.ocell 0 rfl (by rw [List.getElem?_toArray]; exact (oc_tag hoc (j := 32) (tc_t hot)))),trivial⟩ ?_
    refine CfgA.fam (ι := Option (Unit) × Option (Nat) × Option (Unit) × Option (Nat) × Option (Unit)) (fun (zq : Option (Unit) × Option (Nat) × Option (Unit) × Option (Nat) × Option (Unit)) => match zq with | (oo0,oo4,oo5,oo9,oo10) => (optL oo0 (fun (_ : Unit) => [(49,[],.agg #[.string (tx (be o.k 1))])]) ++ (optL oo4 (fun (x53 : Nat) => [(53,[],.slice (some ⟨x53,0,none⟩) 1 1)]) ++ (optL oo5 (fun (_ : Unit) => [(54,[],.agg #[.string (tx ((be o.k 1) ++ o.t.d))])]) ++ (optL oo9 (fun (x58 : Nat) => [(58,[],.slice (some ⟨x58,0,none⟩) 1 1)]) ++ (optL oo10 (fun (_ : Unit) => [(59,[],.agg #[.string (tx (((be o.k 1) ++ o.t.d) ++ flat text4 [o.t.t]))])]) ++ [(57,[],.string o.t.t),(52,[],.agg (bv o.t.d)),(5,[],pT o5)])))))) (fun (zq : Option (Unit) × Option (Nat) × Option (Unit) × Option (Nat) × Option (Unit)) => match zq with | (oo0,oo4,oo5,oo9,oo10) => (optL oo4 (fun (x53 : Nat) => [(x53,.cells (bv o.t.d) 30 (0,0))]) ++ (optL oo9 (fun (x58 : Nat) => [(x58,.cells #[.string o.t.t] 9 (0,0))]) ++ ([(o5,.cells #[.string (tx (be o.k 1))] 54 (0,0)),(bx,.cells ((oc o).toArray) 38 (0,0))] ++ [])))) (fun (zq : Option (Unit) × Option (Nat) × Option (Unit) × Option (Nat) × Option (Unit)) => match zq with | (oo0,oo4,oo5,oo9,oo10) => #[oo0.isSome,true,true,true,oo4.isSome,oo5.isSome,true,true,true,oo9.isSome,oo10.isSome,false]) (fun (zq : Option (Unit) × Option (Nat) × Option (Unit) × Option (Nat) × Option (Unit)) => match zq with | (oo0,oo4,oo5,oo9,oo10) => 6 - (optN oo0 + optN oo4 + optN oo5 + optN oo9 + optN oo10)) (fun (zq : Option (Unit) × Option (Nat) × Option (Unit) × Option (Nat) × Option (Unit)) => match zq with | (oo0,oo4,oo5,oo9,oo10) => (oo5.isSome = true → oo0.isSome = true) ∧ (oo5.isSome = true → oo4.isSome = true) ∧ (oo10.isSome = true → oo5.isSome = true) ∧ (oo10.isSome = true → oo9.isSome = true) ∧ (oo10.isSome = true → oo5.isSome = true) ∧ True) (none,none,none,none,none) ⟨nofun,nofun,nofun,nofun,nofun,trivial⟩ kr kr (List.Perm.refl _) (Conv.mk kr) ?_
    rintro ⟨oo0,oo4,oo5,oo9,oo10⟩ hz IH
    obtain ⟨dd5_0,dd5_4,dd10_5,dd10_9,dd10_5,-⟩ := hz
    rcases oo0 with _ | ⟨⟩
    ·
     rcases oo4 with _ | x53
     ·
      rcases oo5 with _ | ⟨⟩
      ·
       rcases oo9 with _ | x58
       ·
        rcases oo10 with _ | ⟨⟩
        ·
         refine CfgA.to (l' := (bF 462 12)) (fuel' := 6) (O' := [(o5,.cells #[.string (tx (be o.k 1))] 54 (0,0)),(bx,.cells ((oc o).toArray) 38 (0,0))]) (Γ' := [(57,[],.string o.t.t),(52,[],.agg (bv o.t.d)),(5,[],pT o5)]) ?_ kr kr (List.Perm.refl _) (Conv.mk kr)
         refine CfgA.many [0,4,9] kr (by decide) (fuel' := 5) kr ⟨?_,?_,?_,trivial⟩
         ·
          refine Iu rfl  (Eff.quiet (raw := false) (orc := some (.agg #[.string (tx (be o.k 1))])) (v := .agg #[.string (tx (be o.k 1))]) (nd := (fun S => [(∀ w1,S w1 → (loadVar 54 ⟨o5,0,none⟩).run Tryz.prog w1 = .ok (.agg #[.string (tx (be o.k 1))]) w1)])) (fun _ => kr) ⟨(fun w1 h => h.oload 0 rfl Tryz.underlying54 rfl (n := 1) kr rfl),trivial⟩ kr) (fun _ _ => (.cons _ (.cons_cons _ .slnil))) ?_
          exact CfgA.to (IH (some (),none,none,none,none) ⟨nofun,nofun,nofun,nofun,nofun,trivial⟩ (lt4 kr)) kr kr (.refl _) (Conv.mk kr)
         ·
          refine Ie rfl  (Eff.buildAgg (vs := (bv o.t.d)) (n := 32) rfl kr Tryz.underlying31 kr (z := (.agg #[.int .u8 0,.int .u8 0,.int .u8 0,.int .u8 0,.int .u8 0,.int .u8 0,.int .u8 0,.int .u8 0,.int .u8 0,.int .u8 0,.int .u8 0,.int .u8 0,.int .u8 0,.int .u8 0,.int .u8 0,.int .u8 0,.int .u8 0,.int .u8 0,.int .u8 0,.int .u8 0,.int .u8 0,.int .u8 0,.int .u8 0,.int .u8 0,.int .u8 0,.int .u8 0,.int .u8 0,.int .u8 0,.int .u8 0,.int .u8 0,.int .u8 0,.int .u8 0])) kr ((bv_size _).trans hot) (by decide) (by decide)) (fun _ _ => (.cons _ (.cons _ (.cons_cons _ .slnil)))) ?_
          rintro x53 ⟨hx53,nx53⟩
          exact CfgA.to (IH (none,some x53,none,none,none) ⟨nofun,nofun,nofun,nofun,nofun,trivial⟩ (lt4 kr)) kr kr (.refl _) (Conv.mk kr)
         ·
          refine Ie rfl  (Eff.buildSlice (e := 9) (cells := #[.string o.t.t]) (parts := #[(0,.string o.t.t)]) rfl kr (fun _ => kr)) (fun _ _ => (.cons _ (.cons _ (.cons_cons _ .slnil)))) ?_
          rintro x58 ⟨hx58,nx58⟩
          exact CfgA.to (IH (none,none,none,some x58,none) ⟨nofun,nofun,nofun,nofun,nofun,trivial⟩ (lt4 kr)) kr kr (.refl _) (Conv.mk kr)
        ·
         exact absurd (dd10_5 rfl) (by decide)
       ·
        rcases oo10 with _ | ⟨⟩
        ·
         refine CfgA.to (l' := (bF 974 12)) (fuel' := 5) (O' := [(x58,.cells #[.string o.t.t] 9 (0,0)),(o5,.cells #[.string (tx (be o.k 1))] 54 (0,0)),(bx,.cells ((oc o).toArray) 38 (0,0))]) (Γ' := [(58,[],.slice (some ⟨x58,0,none⟩) 1 1),(57,[],.string o.t.t),(52,[],.agg (bv o.t.d)),(5,[],pT o5)]) ?_ kr kr (List.Perm.refl _) (Conv.mk kr)
         refine CfgA.many [0,4] kr (by decide) (fuel' := 4) kr ⟨?_,?_,trivial⟩
         ·
          refine Iu rfl  (Eff.quiet (raw := false) (orc := some (.agg #[.string (tx (be o.k 1))])) (v := .agg #[.string (tx (be o.k 1))]) (nd := (fun S => [(∀ w1,S w1 → (loadVar 54 ⟨o5,0,none⟩).run Tryz.prog w1 = .ok (.agg #[.string (tx (be o.k 1))]) w1)])) (fun _ => kr) ⟨(fun w1 h => h.oload 1 rfl Tryz.underlying54 rfl (n := 1) kr rfl),trivial⟩ kr) (fun _ _ => (.cons _ (.cons _ (.cons_cons _ .slnil)))) ?_
          exact CfgA.to (IH (some (),none,none,some x58,none) ⟨nofun,nofun,nofun,nofun,nofun,trivial⟩ (lt4 kr)) kr kr (.refl _) (Conv.mk kr)
         ·
          refine Ie rfl  (Eff.buildAgg (vs := (bv o.t.d)) (n := 32) rfl kr Tryz.underlying31 kr (z := (.agg #[.int .u8 0,.int .u8 0,.int .u8 0,.int .u8 0,.int .u8 0,.int .u8 0,.int .u8 0,.int .u8 0,.int .u8 0,.int .u8 0,.int .u8 0,.int .u8 0,.int .u8 0,.int .u8 0,.int .u8 0,.int .u8 0,.int .u8 0,.int .u8 0,.int .u8 0,.int .u8 0,.int .u8 0,.int .u8 0,.int .u8 0,.int .u8 0,.int .u8 0,.int .u8 0,.int .u8 0,.int .u8 0,.int .u8 0,.int .u8 0,.int .u8 0,.int .u8 0])) kr ((bv_size _).trans hot) (by decide) (by decide)) (fun _ _ => (.cons _ (.cons _ (.cons _ (.cons_cons _ .slnil))))) ?_
          rintro x53 ⟨hx53,nx53⟩
          exact CfgA.to (IH (none,some x53,none,some x58,none) ⟨nofun,nofun,nofun,nofun,nofun,trivial⟩ (lt4 kr)) kr kr (.refl _) (Conv.mk kr)
        ·
         exact absurd (dd10_5 rfl) (by decide)
      ·
       exact absurd (dd5_0 rfl) (by decide)
     ·
      rcases oo5 with _ | ⟨⟩
      ·
       rcases oo9 with _ | x58
       ·
        rcases oo10 with _ | ⟨⟩
        ·
         refine CfgA.to (l' := (bF 478 12)) (fuel' := 5) (O' := [(x53,.cells (bv o.t.d) 30 (0,0)),(o5,.cells #[.string (tx (be o.k 1))] 54 (0,0)),(bx,.cells ((oc o).toArray) 38 (0,0))]) (Γ' := [(53,[],.slice (some ⟨x53,0,none⟩) 1 1),(57,[],.string o.t.t),(52,[],.agg (bv o.t.d)),(5,[],pT o5)]) ?_ kr kr (List.Perm.refl _) (Conv.mk kr)
         refine CfgA.many [0,9] kr (by decide) (fuel' := 4) kr ⟨?_,?_,trivial⟩
         ·
          refine Iu rfl  (Eff.quiet (raw := false) (orc := some (.agg #[.string (tx (be o.k 1))])) (v := .agg #[.string (tx (be o.k 1))]) (nd := (fun S => [(∀ w1,S w1 → (loadVar 54 ⟨o5,0,none⟩).run Tryz.prog w1 = .ok (.agg #[.string (tx (be o.k 1))]) w1)])) (fun _ => kr) ⟨(fun w1 h => h.oload 1 rfl Tryz.underlying54 rfl (n := 1) kr rfl),trivial⟩ kr) (fun _ _ => (.cons _ (.cons _ (.cons_cons _ .slnil)))) ?_
          exact CfgA.to (IH (some (),some x53,none,none,none) ⟨nofun,nofun,nofun,nofun,nofun,trivial⟩ (lt4 kr)) kr kr (.refl _) (Conv.mk kr)
         ·
          refine Ie rfl  (Eff.buildSlice (e := 9) (cells := #[.string o.t.t]) (parts := #[(0,.string o.t.t)]) rfl kr (fun _ => kr)) (fun _ _ => (.cons _ (.cons _ (.cons _ (.cons_cons _ .slnil))))) ?_
          rintro x58 ⟨hx58,nx58⟩
          exact CfgA.to (IH (none,some x53,none,some x58,none) ⟨nofun,nofun,nofun,nofun,nofun,trivial⟩ (lt4 kr)) kr kr (pmid (l₁ := [(x53,Obj.cells (bv o.t.d) 30 (0,0))])) (Conv.mk kr)
        ·
         exact absurd (dd10_5 rfl) (by decide)
       ·
        rcases oo10 with _ | ⟨⟩
        ·
         refine CfgA.to (l' := (bF 990 12)) (fuel' := 4) (O' := [(x53,.cells (bv o.t.d) 30 (0,0)),(x58,.cells #[.string o.t.t] 9 (0,0)),(o5,.cells #[.string (tx (be o.k 1))] 54 (0,0)),(bx,.cells ((oc o).toArray) 38 (0,0))]) (Γ' := [(53,[],.slice (some ⟨x53,0,none⟩) 1 1),(58,[],.slice (some ⟨x58,0,none⟩) 1 1),(57,[],.string o.t.t),(52,[],.agg (bv o.t.d)),(5,[],pT o5)]) ?_ kr kr (List.Perm.refl _) (Conv.mk kr)
         refine CfgA.many [0] kr (by decide) (fuel' := 3) kr ⟨?_,trivial⟩
         ·
          refine Iu rfl  (Eff.quiet (raw := false) (orc := some (.agg #[.string (tx (be o.k 1))])) (v := .agg #[.string (tx (be o.k 1))]) (nd := (fun S => [(∀ w1,S w1 → (loadVar 54 ⟨o5,0,none⟩).run Tryz.prog w1 = .ok (.agg #[.string (tx (be o.k 1))]) w1)])) (fun _ => kr) ⟨(fun w1 h => h.oload 2 rfl Tryz.underlying54 rfl (n := 1) kr rfl),trivial⟩ kr) (fun _ _ => (.cons _ (.cons _ (.cons _ (.cons_cons _ .slnil))))) ?_
          exact CfgA.to (IH (some (),some x53,none,some x58,none) ⟨nofun,nofun,nofun,nofun,nofun,trivial⟩ (lt4 kr)) kr kr (.refl _) (Conv.mk kr)
        ·
         exact absurd (dd10_5 rfl) (by decide)
      ·
       exact absurd (dd5_0 rfl) (by decide)
    ·
     rcases oo4 with _ | x53
     ·
      rcases oo5 with _ | ⟨⟩
      ·
       rcases oo9 with _ | x58
       ·
        rcases oo10 with _ | ⟨⟩
        ·
         refine CfgA.to (l' := (bF 463 12)) (fuel' := 5) (O' := [(o5,.cells #[.string (tx (be o.k 1))] 54 (0,0)),(bx,.cells ((oc o).toArray) 38 (0,0))]) (Γ' := [(49,[],.agg #[.string (tx (be o.k 1))]),(57,[],.string o.t.t),(52,[],.agg (bv o.t.d)),(5,[],pT o5)]) ?_ kr kr (List.Perm.refl _) (Conv.mk kr)
         refine CfgA.many [4,9] kr (by decide) (fuel' := 4) kr ⟨?_,?_,trivial⟩
         ·
          refine Ie rfl  (Eff.buildAgg (vs := (bv o.t.d)) (n := 32) rfl kr Tryz.underlying31 kr (z := (.agg #[.int .u8 0,.int .u8 0,.int .u8 0,.int .u8 0,.int .u8 0,.int .u8 0,.int .u8 0,.int .u8 0,.int .u8 0,.int .u8 0,.int .u8 0,.int .u8 0,.int .u8 0,.int .u8 0,.int .u8 0,.int .u8 0,.int .u8 0,.int .u8 0,.int .u8 0,.int .u8 0,.int .u8 0,.int .u8 0,.int .u8 0,.int .u8 0,.int .u8 0,.int .u8 0,.int .u8 0,.int .u8 0,.int .u8 0,.int .u8 0,.int .u8 0,.int .u8 0])) kr ((bv_size _).trans hot) (by decide) (by decide)) (fun _ _ => (.cons _ (.cons _ (.cons_cons _ .slnil)))) ?_
          rintro x53 ⟨hx53,nx53⟩
          exact CfgA.to (IH (some (),some x53,none,none,none) ⟨nofun,nofun,nofun,nofun,nofun,trivial⟩ (lt4 kr)) kr kr (.refl _) (Conv.mk kr)
         ·
          refine Ie rfl  (Eff.buildSlice (e := 9) (cells := #[.string o.t.t]) (parts := #[(0,.string o.t.t)]) rfl kr (fun _ => kr)) (fun _ _ => (.cons _ (.cons _ (.cons_cons _ .slnil)))) ?_
          rintro x58 ⟨hx58,nx58⟩
          exact CfgA.to (IH (some (),none,none,some x58,none) ⟨nofun,nofun,nofun,nofun,nofun,trivial⟩ (lt4 kr)) kr kr (.refl _) (Conv.mk kr)
        ·
         exact absurd (dd10_5 rfl) (by decide)
       ·
        rcases oo10 with _ | ⟨⟩
        ·
         refine CfgA.to (l' := (bF 975 12)) (fuel' := 4) (O' := [(x58,.cells #[.string o.t.t] 9 (0,0)),(o5,.cells #[.string (tx (be o.k 1))] 54 (0,0)),(bx,.cells ((oc o).toArray) 38 (0,0))]) (Γ' := [(49,[],.agg #[.string (tx (be o.k 1))]),(58,[],.slice (some ⟨x58,0,none⟩) 1 1),(57,[],.string o.t.t),(52,[],.agg (bv o.t.d)),(5,[],pT o5)]) ?_ kr kr (List.Perm.refl _) (Conv.mk kr)
         refine CfgA.many [4] kr (by decide) (fuel' := 3) kr ⟨?_,trivial⟩
         ·
          refine Ie rfl  (Eff.buildAgg (vs := (bv o.t.d)) (n := 32) rfl kr Tryz.underlying31 kr (z := (.agg #[.int .u8 0,.int .u8 0,.int .u8 0,.int .u8 0,.int .u8 0,.int .u8 0,.int .u8 0,.int .u8 0,.int .u8 0,.int .u8 0,.int .u8 0,.int .u8 0,.int .u8 0,.int .u8 0,.int .u8 0,.int .u8 0,.int .u8 0,.int .u8 0,.int .u8 0,.int .u8 0,.int .u8 0,.int .u8 0,.int .u8 0,.int .u8 0,.int .u8 0,.int .u8 0,.int .u8 0,.int .u8 0,.int .u8 0,.int .u8 0,.int .u8 0,.int .u8 0])) kr ((bv_size _).trans hot) (by decide) (by decide)) (fun _ _ => (.cons _ (.cons _ (.cons _ (.cons_cons _ .slnil))))) ?_
          rintro x53 ⟨hx53,nx53⟩
          exact CfgA.to (IH (some (),some x53,none,some x58,none) ⟨nofun,nofun,nofun,nofun,nofun,trivial⟩ (lt4 kr)) kr kr (.refl _) (Conv.mk kr)
        ·
         exact absurd (dd10_5 rfl) (by decide)
      ·
       exact absurd (dd5_4 rfl) (by decide)
     ·
      rcases oo5 with _ | ⟨⟩
      ·
       rcases oo9 with _ | x58
       ·
        rcases oo10 with _ | ⟨⟩
        ·
         refine CfgA.to (l' := (bF 479 12)) (fuel' := 4) (O' := [(x53,.cells (bv o.t.d) 30 (0,0)),(o5,.cells #[.string (tx (be o.k 1))] 54 (0,0)),(bx,.cells ((oc o).toArray) 38 (0,0))]) (Γ' := [(49,[],.agg #[.string (tx (be o.k 1))]),(53,[],.slice (some ⟨x53,0,none⟩) 1 1),(57,[],.string o.t.t),(52,[],.agg (bv o.t.d)),(5,[],pT o5)]) ?_ kr kr (List.Perm.refl _) (Conv.mk kr)
         refine CfgA.many [5,9] kr (by decide) (fuel' := 3) kr ⟨?_,?_,trivial⟩
         ·
          refine Iu rfl  (Eff.callA (.agg #[.string (tx ((be o.k 1) ++ o.t.d))]) rfl Tryz.func18 rfl rfl kr (fun w1 h => wDigest1 (be o.k 1) o.t.d x53 30 w1 hot (by rw [hb1]; decide) (h.has (fun e he => mG 0 (by rw [List.mem_singleton.1 he]; rfl))))) (fun _ _ => (.cons _ (.cons _ (.cons_cons _ .slnil)))) ?_
          exact CfgA.to (IH (some (),some x53,some (),none,none) ⟨(fun _ => rfl),(fun _ => rfl),nofun,nofun,nofun,trivial⟩ (lt4 kr)) kr kr (.refl _) (Conv.mk kr)
         ·
          refine Ie rfl  (Eff.buildSlice (e := 9) (cells := #[.string o.t.t]) (parts := #[(0,.string o.t.t)]) rfl kr (fun _ => kr)) (fun _ _ => (.cons _ (.cons _ (.cons _ (.cons_cons _ .slnil))))) ?_
          rintro x58 ⟨hx58,nx58⟩
          exact CfgA.to (IH (some (),some x53,none,some x58,none) ⟨nofun,nofun,nofun,nofun,nofun,trivial⟩ (lt4 kr)) kr kr (pmid (l₁ := [(x53,Obj.cells (bv o.t.d) 30 (0,0))])) (Conv.mk kr)
        ·
         exact absurd (dd10_5 rfl) (by decide)
       ·
        rcases oo10 with _ | ⟨⟩
        ·
         refine CfgA.to (l' := (bF 991 12)) (fuel' := 3) (O' := [(x53,.cells (bv o.t.d) 30 (0,0)),(x58,.cells #[.string o.t.t] 9 (0,0)),(o5,.cells #[.string (tx (be o.k 1))] 54 (0,0)),(bx,.cells ((oc o).toArray) 38 (0,0))]) (Γ' := [(49,[],.agg #[.string (tx (be o.k 1))]),(53,[],.slice (some ⟨x53,0,none⟩) 1 1),(58,[],.slice (some ⟨x58,0,none⟩) 1 1),(57,[],.string o.t.t),(52,[],.agg (bv o.t.d)),(5,[],pT o5)]) ?_ kr kr (List.Perm.refl _) (Conv.mk kr)
         refine CfgA.many [5] kr (by decide) (fuel' := 2) kr ⟨?_,trivial⟩
         ·
          refine Iu rfl  (Eff.callA (.agg #[.string (tx ((be o.k 1) ++ o.t.d))]) rfl Tryz.func18 rfl rfl kr (fun w1 h => wDigest1 (be o.k 1) o.t.d x53 30 w1 hot (by rw [hb1]; decide) (h.has (fun e he => mG 0 (by rw [List.mem_singleton.1 he]; rfl))))) (fun _ _ => (.cons _ (.cons _ (.cons _ (.cons_cons _ .slnil))))) ?_
          exact CfgA.to (IH (some (),some x53,some (),some x58,none) ⟨(fun _ => rfl),(fun _ => rfl),nofun,nofun,nofun,trivial⟩ (lt4 kr)) kr kr (.refl _) (Conv.mk kr)
        ·
         exact absurd (dd10_5 rfl) (by decide)
      ·
       rcases oo9 with _ | x58
       ·
        rcases oo10 with _ | ⟨⟩
        ·
         refine CfgA.to (l' := tF 9 3) (fuel' := 3) (O' := [(x53,.cells (bv o.t.d) 30 (0,0)),(o5,.cells #[.string (tx (be o.k 1))] 54 (0,0)),(bx,.cells ((oc o).toArray) 38 (0,0))]) (Γ' := [(49,[],.agg #[.string (tx (be o.k 1))]),(53,[],.slice (some ⟨x53,0,none⟩) 1 1),(54,[],.agg #[.string (tx ((be o.k 1) ++ o.t.d))]),(57,[],.string o.t.t),(52,[],.agg (bv o.t.d)),(5,[],pT o5)]) ?_ kr kr (List.Perm.refl _) (Conv.mk kr)
         refine CfgA.many [9] kr (by decide) (fuel' := 2) kr ⟨?_,trivial⟩
         ·
          refine Ie rfl  (Eff.buildSlice (e := 9) (cells := #[.string o.t.t]) (parts := #[(0,.string o.t.t)]) rfl kr (fun _ => kr)) (fun _ _ => (.cons _ (.cons _ (.cons _ (.cons_cons _ .slnil))))) ?_
          rintro x58 ⟨hx58,nx58⟩
          exact CfgA.to (IH (some (),some x53,some (),some x58,none) ⟨(fun _ => rfl),(fun _ => rfl),nofun,nofun,nofun,trivial⟩ (lt4 kr)) kr kr (pmid (l₁ := [(x53,Obj.cells (bv o.t.d) 30 (0,0))])) (Conv.mk kr)
        ·
         exact absurd (dd10_9 rfl) (by decide)
       ·
        rcases oo10 with _ | ⟨⟩
        ·
         refine CfgA.to (l' := tF 10 2) (fuel' := 2) (O' := [(x53,.cells (bv o.t.d) 30 (0,0)),(x58,.cells #[.string o.t.t] 9 (0,0)),(o5,.cells #[.string (tx (be o.k 1))] 54 (0,0)),(bx,.cells ((oc o).toArray) 38 (0,0))]) (Γ' := [(49,[],.agg #[.string (tx (be o.k 1))]),(53,[],.slice (some ⟨x53,0,none⟩) 1 1),(54,[],.agg #[.string (tx ((be o.k 1) ++ o.t.d))]),(58,[],.slice (some ⟨x58,0,none⟩) 1 1),(57,[],.string o.t.t),(52,[],.agg (bv o.t.d)),(5,[],pT o5)]) ?_ kr kr (List.Perm.refl _) (Conv.mk kr)
         refine CfgA.many [10] kr (by decide) (fuel' := 1) kr ⟨?_,trivial⟩
         ·
          refine Iu rfl  (Eff.callA (.agg #[.string (tx (((be o.k 1) ++ o.t.d) ++ flat text4 [o.t.t]))]) rfl Tryz.func22 rfl rfl kr (fun w1 h => wText (tx ((be o.k 1) ++ o.t.d)) (some ⟨x58,0,none⟩) 1 [o.t.t] [(x58,.cells #[.string o.t.t] 9 (0,0))] w1 (inS_text x58 9 (0,0) o.t.t) (h.has (fun e he => mG 1 (by rw [List.mem_singleton.1 he]; rfl))) (one_len _) (by simp only [tx_size,List.length_append,flat_one,text4_len,hb1,hot]; omega))) (fun _ _ => (.cons _ (.cons _ (.cons _ (.cons_cons _ .slnil))))) ?_
          exact CfgA.to (IH (some (),some x53,some (),some x58,some ()) ⟨(fun _ => rfl),(fun _ => rfl),(fun _ => rfl),(fun _ => rfl),(fun _ => rfl),trivial⟩ (lt4 kr)) kr kr (.refl _) (Conv.mk kr)
        ·
         refine CfgA.to (l' := tF 11 1) (fuel' := 1) (O' := [(x53,.cells (bv o.t.d) 30 (0,0)),(x58,.cells #[.string o.t.t] 9 (0,0)),(o5,.cells #[.string (tx (be o.k 1))] 54 (0,0)),(bx,.cells ((oc o).toArray) 38 (0,0))]) (Γ' := [(49,[],.agg #[.string (tx (be o.k 1))]),(53,[],.slice (some ⟨x53,0,none⟩) 1 1),(54,[],.agg #[.string (tx ((be o.k 1) ++ o.t.d))]),(58,[],.slice (some ⟨x58,0,none⟩) 1 1),(59,[],.agg #[.string (tx (((be o.k 1) ++ o.t.d) ++ flat text4 [o.t.t]))]),(57,[],.string o.t.t),(52,[],.agg (bv o.t.d)),(5,[],pT o5)]) ?_ kr kr (List.Perm.refl _) (Conv.mk kr)
         refine Au 11 rfl 0  (Eff.storeN (b := o5) (off := 0) (vs := #[.string (tx (((be o.k 1) ++ o.t.d) ++ flat text4 [o.t.t]))]) (n := 1) rfl kr kr kr rfl (by simp [K.one]) 2 (cs := #[.string (tx (be o.k 1))]) (e := 54) kr (by simp)) (fun _ _ => (.cons _ (.cons _ (.cons _ (.cons_cons _ .slnil))))) ?_
         refine oA 2 rfl (show _ = #[.string (tx (((be o.k 1) ++ o.t.d) ++ flat text4 [o.t.t]))] from rfl) ?_
         refine CfgA.done kr ?_
         refine Cg (Γ' := [(5,[],pT o5)]) ?_
         refine Cfg.begL rfl ?_
         refine Lp 1 [(dS (.agg #[.string (tx (((be o.k 1) ++ o.t.d) ++ flat text4 [o.t.t]))]))] (some [60]) (fun S => [(∀ w1,S w1 → (loadVar 54 ⟨o5,0,none⟩).run Tryz.prog w1 = .ok (.agg #[.string (tx (((be o.k 1) ++ o.t.d) ++ flat text4 [o.t.t]))]) w1)]) ⟨(fun w1 h => h.oload 2 rfl Tryz.underlying54 rfl (n := 1) kr rfl),trivial⟩ ?_
         refine Lu (Eff.callA (.string (tx (((be o.k 1) ++ o.t.d) ++ flat text4 [o.t.t]))) rfl Tryz.func23 rfl rfl kr (fun w1 _ => wString (tx (((be o.k 1) ++ o.t.d) ++ flat text4 [o.t.t])) w1)) ?_
         refine Ld 2 [2,3] ?_
         refine Cfg.ret rfl (rs := [.tmp 2,.tmp 3]) rfl [.string (tx (((be o.k 1) ++ o.t.d) ++ flat text4 [o.t.t])),.int .i64 0] ⟨kr,by kernel_rfl,trivial⟩ (fun w1 hp => ?_)
         rw [objS_tag h0 hk6,h0]
         exact ⟨by rw [flat_one,List.append_assoc]; rfl,hp.ext⟩
end Go.Proofs.YtbeeelgfhfmgbaaGreatDoor
