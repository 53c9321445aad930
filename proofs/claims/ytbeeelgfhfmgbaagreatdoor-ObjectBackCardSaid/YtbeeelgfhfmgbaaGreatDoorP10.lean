/- Texts on which the proof of this claim stands: ObF, Open5, ObC. -/
import Derived.Test.YtbeeelgfhfmgbaaGreatDoorP9
import Derived.Test.YtbeeelgfhfmgbaaGreatDoorP1
import Derived.Test.YtbeeelgfhfmgbaaGreatDoorP2
import Derived.SizedLaws
set_option maxRecDepth 100000
namespace Go.Proofs.YtbeeelgfhfmgbaaGreatDoor
open K
set_option linter.unusedVariables false
theorem objS_l {o : OM} {l : List UInt8} (h : chkO o = 0) (h2 : objL o = l) : objS o = tx l := by
 unfold objS; rw [if_neg (fun h9 => h9 h),h2]
theorem tagL_len {d : List UInt8} {t : ByteArray} (hd : d.length = 32) (ht : t.size ≤ 200) : (tagL d t).length ≤ 1000 := by
 unfold tagL; rw [List.length_append,text4_len,hd]; omega
theorem objL_len {Rl : List (Nat × Obj)} {o : OM} (h : chkO o = 0) (hO : InO Rl o) (hu : ∀ r ∈ o.m.rs,∀ n ∈ r.xs,n < 4294967296) : (objL o).length ≤ 1000000 := by
 have hk := chkO_kind h
 unfold objL
 rw [List.length_append,be_len]
 by_cases k1 : o.k = 109
 ·have hr := h
  rw [chkO_map om] at hr
  have := mapL_len (rightF_in hr (fun t ht n hn => by obtain ⟨r,h1,rfl⟩ := List.mem_map.1 ht; exact hu r h1 n hn))
  rw [if_pos k1]; omega
 ·by_cases k2 : o.k = 99
  ·have hr := h
   rw [chkO_com om] at hr
   obtain ⟨p2,t2⟩ := comE_ok hr
   have := comL_len (n := o.c.n) hO.c.d hO.c.w p2 t2
   rw [if_neg k1,if_pos k2]; omega
  ·have hr := h
   rw [chkO_tag om] at hr
   have := tagL_len hO.t (txtE_ok hr)
   rw [if_neg k1,if_neg k2]; omega
theorem lk_com {o : OM} (h : (o.k : Int) = 99) : lk o = o.c.d :: o.c.ps := if_pos (by omega)
theorem lk_tag {o : OM} (h : (o.k : Int) = 116) : lk o = [o.t.d] := (if_neg (by omega)).trans (if_pos (by omega))
theorem lk_no {o : OM} (h : ¬ (o.k : Int) = 99) (h2 : ¬ (o.k : Int) = 116) : lk o = [] := (if_neg (by omega)).trans (if_neg (by omega))
theorem lk_D {Rl : List (Nat × Obj)} {o : OM} (hO : InO Rl o) : D32 (lk o) := by
 intro d hd
 unfold lk at hd
 split at hd
 ·rcases List.mem_cons.1 hd with rfl | hd
  ·exact hO.c.d
  ·exact hO.c.w d hd
 ·split at hd
  ·rw [List.mem_singleton.1 hd]; exact hO.t
  ·cases hd
theorem lk_len {o : OM} (h : o.c.ps.length ≤ 9) : (lk o).length ≤ 10 := by
 unfold lk
 split
 ·rw [List.length_cons]; omega
 ·split
  ·show 1 ≤ 10; decide
  ·exact Nat.zero_le _
theorem own_oneD {lb : Nat} {d : List UInt8} (hd : d.length = 32) : OwnOk (some (lb,1,[])) 32 1 (([d] : List (List UInt8)).flatMap dgc) := by
 have e : ([d] : List (List UInt8)).flatMap dgc = dgc d := by simp
 rw [e]; exact own_one hd
theorem one_blk {lb : Nat} {d : List UInt8} : [(lb,Obj.cells (bv d) 30 (0,0))] = Own.o 30 (([d] : List (List UInt8)).flatMap dgc) (some (lb,1,[])) := by
 have e : ([d] : List (List UInt8)).flatMap dgc = dgc d := by simp
 rw [e]
 show [(lb,Obj.cells (bv d) 30 (0,0))] = [(lb,.cells ((bv d).toList ++ []).toArray 30 (0,0))]
 rw [List.append_nil]
set_option maxHeartbeats 16000000 in
theorem backWalk (o : OM) (l : List UInt8) (Rl : List (Nat × Obj)) (tt0 : TypeId) (fr0 : Nat × Nat) (w : World) (hO : InO Rl o) (hu : ∀ r ∈ o.m.rs,∀ n ∈ r.xs,n < 4294967296) (hn : o.c.n < 18446744073709551616) (ht1 : o.c.t.size ≤ 9223372036854775807) (ht2 : o.t.t.size ≤ 9223372036854775807) (hl : l.length ≤ 9223372036854775807) (hR : Has w ((0,Obj.cells (wv Kc) tt0 fr0) :: Rl)) :
  Calls Tryz.prog 3 #[.agg (oc o).toArray,.string (tx l)] w fun e w' => e = .returned (.bool true) ∧ Ext [] w w' := by
 have hts := tx_size
 have hoc := hO.c.d
 have hot := hO.t
 have hcn := hO.c.n
 refine enter [] ((0,Obj.cells (wv Kc) tt0 fr0) :: Rl) [] Tryz.func3 rfl kr (HP.ofHas hR) ?_
 refine Cfg.begL rfl ?_
 refine Le (Eff.box (v := .agg (oc o).toArray) rfl kr) ?_
 rintro bx ⟨hbx,nbx⟩
 refine Ld 1 [1,2] ?_
 refine Cfg.begL rfl ?_
 refine Lu (Eff.callA (.bool true) rfl Tryz.func4 rfl rfl kr (fun w1 h => awake12 w1 (fun e he => by rw [List.mem_singleton.1 he]; exact h.ro _ mH))) ?_
 refine Ld 1 [1,2,15] ?_
 refine Cfg.condF rfl (b := false) kr rfl ?_
 refine Cfg.begL rfl ?_
 refine Lp 1 [(dS (.agg (oc o).toArray))] (some [1,2,16]) (fun S => [(∀ w1,S w1 → (loadVar 38 ⟨bx,0,none⟩).run Tryz.prog w1 = .ok (.agg (oc o).toArray) w1)]) ⟨(fun w1 h => load_list Tryz.underlying38 rfl kr (oc_len hoc hot) (fun j v hj => h.ocell 0 rfl (by rw [List.getElem?_toArray]; exact (fun j v hj => by rw [Nat.zero_add]; exact hj) j v hj))),trivial⟩ ?_
 refine Le (Eff.callH (fun b : Bool => .bool b) [] (fun _ => []) (fun b => b = true → o.c.ps.length ≤ 9) [] ([(bx,.cells ((oc o).toArray) 38 (0,0))]) rfl rfl Tryz.func5 rfl rfl kr (fun w1 h _ _ => oLight o Rl w1 hO (fun e he => h.ro e (List.mem_cons_of_mem _ he)))) ?_
 rintro b hb9
 refine Lq 2 [1,2,19] ?_
 by_cases c2 : (!b) = true
 ·have c2k : (!b) = true := c2
  have c2q : (b = false) := (notT c2k)
  refine CfgL.known 19 (b := (!b)) kr true c2k ?_
  refine Lp 4 [(2,false,none),(2,false,none),(2,false,none)] (some [1,2,23]) (fun _ => [((.bool true : Value) ≠ .bool false),((.bool true : Value) ≠ .bool false),((.bool true : Value) ≠ .bool false)]) ⟨(by simp),(by simp),(by simp),trivial⟩ ?_
  refine CfgL.done rfl ?_
  refine Cfg.condT rfl (b := true) kr rfl ?_
  refine Rq [4] ?_
  refine Cfg.ret rfl (rs := [.tmp 4]) rfl [.bool true] ⟨kr,trivial⟩ (fun w1 hp => ?_)
  exact ⟨rfl,hp.ext⟩
 ·have c2k : (!b) = false := (by simpa using c2)
  have c2q : (b = true) := (notF c2k)
  refine CfgL.known 19 (b := (!b)) kr false c2k ?_
  refine Lp 4 [(1,false,none),(1,false,none),(1,false,none)] (some [1,2,23]) (fun _ => [((.bool false : Value) = .bool false),((.bool false : Value) = .bool false),((.bool false : Value) = .bool false)]) ⟨rfl,rfl,rfl,trivial⟩ ?_
  refine CfgL.done rfl ?_
  refine Cfg.cond rfl (b := (decide (((tx l).size : Int) > (4000 : Int)))) kr (fun c4r => ?_) (fun c4r => ?_)
  ·have c4 := (dT c4r)
   refine Cfg.reg rfl [4] [] (Γ' := [(4,[],.bool true)]) (nd := (fun _ => [])) (fun _ => kr) trivial ?_
   refine Cfg.ret rfl (rs := [.tmp 4]) rfl [.bool true] ⟨kr,trivial⟩ (fun w1 hp => ?_)
   exact ⟨rfl,hp.ext⟩
  ·have c4 := (dF c4r)
   have hp9 : o.c.ps.length ≤ 9 := by first | exact hb9 (by simpa using c4) | exact hb9 (by simp_all) | (refine hb9 ?_; cases b <;> simp_all)
   refine Cfg.begL rfl ?_
   refine Lp 1 [(dS (.agg (oc o).toArray))] (some [1,2,25]) (fun S => [(∀ w1,S w1 → (loadVar 38 ⟨bx,0,none⟩).run Tryz.prog w1 = .ok (.agg (oc o).toArray) w1)]) ⟨(fun w1 h => load_list Tryz.underlying38 rfl kr (oc_len hoc hot) (fun j v hj => h.ocell 0 rfl (by rw [List.getElem?_toArray]; exact (fun j v hj => by rw [Nat.zero_add]; exact hj) j v hj))),trivial⟩ ?_
   refine Lu (Eff.callA (.tuple #[.string (objS o),.int .i64 (chkO o)]) rfl Tryz.func6 rfl rfl kr (fun w1 h => oByt o Rl w1 hO (fun e he => h.ro e (List.mem_cons_of_mem _ he)) hu ht1 ht2 hn)) ?_
   refine Ld 5 [1,2,5,6] ?_
   refine Rq [1,2,5,30] ?_
   refine Cfg.share rfl (ι := Unit) (fun _ => [(2,[],pT bx),(1,[],.string (tx l))]) (fun _ => [(bx,.cells ((oc o).toArray) 38 (0,0))]) (fun _ => True) ?_ ?_
   ·rintro ⟨⟩ -
    refine Rq [1,2,9] ?_
    refine Rg [1,2,9,51] [dZ,(dS (.int .u8 (o.k : Int)))] (fun S => [(cE S bx 0 (.int .u8 (o.k : Int)))]) ⟨(fun w1 h => h.ocell 0 rfl (by rw [List.getElem?_toArray]; exact rfl)),trivial⟩ ?_
    refine Rq [1,2,9,51,52] ?_
    refine Cfg.share rfl (ι := K.Own) (fun (wo : K.Own) => [(9,[],.slice (Own.a wo) ((lk o).length) (Own.c wo)),(2,[],pT bx),(1,[],.string (tx l))]) (fun (wo : K.Own) => ([(bx,.cells ((oc o).toArray) 38 (0,0))] ++ (Own.o 30 ((lk o).flatMap dgc) wo ++ []))) (fun (wo : K.Own) => (OwnOk wo 32 (lk o).length ((lk o).flatMap dgc))) ?_ ?_
    ·rintro wo hwo
     refine Cfg.begL rfl ?_
     refine Lp 1 [] none n0 trivial ?_
     refine Le (Eff.callH (fun q : PQ => .tuple #[.agg (oc q.o).toArray,.int .i64 (parE l)]) [] (fun q => q.mem) (fun q => q.Ok l) ([(bx,.cells ((oc o).toArray) 38 (0,0))]) ((Own.o 30 ((lk o).flatMap dgc) wo ++ [])) (by rfl) rfl Tryz.func7 rfl rfl kr (fun w1 _ _ _ => oParse l w1 hl)) ?_
     rintro q2 hq2
     refine CfgL.pure 3 [] (some [1,2,9,71,72]) (Γ' := [(72,[],.int .i64 (parE l)),(71,[],.agg (oc q2.o).toArray),(9,[],.slice (Own.a wo) ((lk o).length) (Own.c wo)),(2,[],pT bx),(1,[],.string (tx l))]) (nd := (fun _ => [])) kr (fun _ => kr) trivial ?_
     refine Le (Eff.alloc (z := (.agg (oc ⟨0,m0,c0,t0⟩).toArray)) rfl kr) ?_
     rintro x10 ⟨hx10,nx10⟩
     refine Lu (Eff.storeN (b := x10) (off := 0) (vs := (oc q2.o).toArray) (n := 72) rfl kr kr kr (oc_size _ hq2.i.c.d hq2.i.t) (fun q hq => all_oc _ q hq) 0 (cs := (oc ⟨0,m0,c0,t0⟩).toArray) (e := 38) kr (by rw [oc_size _ d0_len d0_len]; decide)) ?_
     refine CfgL.setO (congrArg (fun (xq : Array Value) => (([(x10,.cells xq 38 (0,0)),(bx,.cells ((oc o).toArray) 38 (0,0))] ++ (PQ.mem q2 ++ (Own.o 30 ((lk o).flatMap dgc) wo ++ []))) : LO)) (show _ = ((oc q2.o).toArray) from spl_all ((oc_size _ hq2.i.c.d hq2.i.t).trans (oc_size _ d0_len d0_len).symm))) ?_
     refine Ld 1 [1,2,9,10,11] ?_
     refine Cfg.begL rfl ?_
     refine Lp 1 [(dS (.agg (oc q2.o).toArray))] (some [1,2,9,11,74]) (fun S => [(∀ w1,S w1 → (loadVar 38 ⟨x10,0,none⟩).run Tryz.prog w1 = .ok (.agg (oc q2.o).toArray) w1)]) ⟨(fun w1 h => h.oload 0 rfl Tryz.underlying38 rfl (n := 72) kr (oc_size _ hq2.i.c.d hq2.i.t)),trivial⟩ ?_
     refine Lu (Eff.callA (.tuple #[.string (objS q2.o),.int .i64 (chkO q2.o)]) rfl Tryz.func6 rfl rfl kr (fun w1 h => oByt q2.o q2.mem w1 hq2.i (fun e he => h.own e (show e ∈ ([(x10,Obj.cells ((oc q2.o).toArray) 38 (0,0)),(bx,Obj.cells ((oc o).toArray) 38 (0,0))] ++ (PQ.mem q2 ++ (Own.o 30 ((lk o).flatMap dgc) wo ++ []))) from mR (mL he))) hq2.u (Nat.le_trans hq2.t1 (by decide)) (Nat.le_trans hq2.t2 (by decide)) hq2.n)) ?_
     refine Ld 5 [1,2,9,11,12,13] ?_
     refine Cfg.begL rfl ?_
     refine CfgL.pure 1 [(dS (.agg (oc o).toArray))] (some [1,9,11,12,13,78]) (Γ' := [(78,[],.agg (oc o).toArray),(13,[],.int .i64 (chkO q2.o)),(12,[],.string (objS q2.o)),(11,[],.int .i64 (parE l)),(9,[],.slice (Own.a wo) ((lk o).length) (Own.c wo)),(1,[],.string (tx l))]) (nd := (fun S => [(∀ w1,S w1 → (loadVar 38 ⟨bx,0,none⟩).run Tryz.prog w1 = .ok (.agg (oc o).toArray) w1)])) kr (fun _ => kr) ⟨(fun w1 h => load_list Tryz.underlying38 rfl kr (oc_len hoc hot) (fun j v hj => h.ocell 1 rfl (by rw [List.getElem?_toArray]; exact (fun j v hj => by rw [Nat.zero_add]; exact hj) j v hj))),trivial⟩ ?_
     refine Le (Eff.callOF 30 32 (lk o).length ((lk o).flatMap dgc) ([(x10,.cells ((oc q2.o).toArray) 38 (0,0)),(bx,.cells ((oc o).toArray) 38 (0,0))]) ((PQ.mem q2 ++ (Own.o 30 ((lk o).flatMap dgc) wo ++ []))) (by rfl) rfl Tryz.func10 rfl rfl kr (fun w1 h => oLinks o Rl w1 hO (fun e he => h.ro e (List.mem_cons_of_mem _ he)) (Nat.le_trans (lk_len hp9) (by decide)))) ?_
     rintro lw klw
     refine Lq 1 [1,11,12,13,79,80] ?_
     refine Lu (Eff.callA (vs := [.slice (Own.a lw) ((lk o).length) (Own.c lw),.slice (Own.a wo) ((lk o).length) (Own.c wo)]) (.bool true) rfl Tryz.func9 rfl rfl kr (fun w1 h => by have h9 := eqD (Own.a lw) (Own.a wo) (Own.c lw) (Own.c wo) (lk o) (lk o) (Own.o 30 ((lk o).flatMap dgc) lw ++ Own.o 30 ((lk o).flatMap dgc) wo) w1 ((own_inf klw).mono (fun e he => mL he)) ((own_inf hwo).mono (fun e he => mR he)) (lk_D hO) (lk_D hO) (fun e he => h.own e (show e ∈ ([(x10,Obj.cells ((oc q2.o).toArray) 38 (0,0)),(bx,Obj.cells ((oc o).toArray) 38 (0,0))] ++ (Own.o 30 ((lk o).flatMap dgc) lw ++ (PQ.mem q2 ++ (Own.o 30 ((lk o).flatMap dgc) wo ++ [])))) from (List.mem_append.1 he).elim (fun he => mR (mL he)) (fun he => mR (mR (mR (mL he)))))) (Nat.le_trans (lk_len hp9) (by decide)) (Nat.le_trans (lk_len hp9) (by decide)); rw [decide_eq_true rfl] at h9; exact h9)) ?_
     refine Lp 4 [dZ,(1,false,none),(1,false,none),(1,false,none)] (some [1,12,13,82,85]) (fun _ => [((.bool true : Value) = .bool true),((.bool true : Value) = .bool true),((.bool true : Value) = .bool true)]) ⟨rfl,rfl,rfl,trivial⟩ ?_
     by_cases c7 : ((parE l) != (0 : Int)) = true
     ·have c7k : ((parE l) != (0 : Int)) = true := c7
      have c7q := (bne_iff_ne.1 c7k)
      refine CfgL.known 85 (b := ((parE l) != (0 : Int))) kr true c7k ?_
      refine Lp 10 [(2,false,none),(2,false,none),(2,false,none),(2,false,none),(2,false,none),(2,false,none),(2,false,none),(1,false,none)] (some [4]) (fun _ => [((.bool true : Value) ≠ .bool false),((.bool true : Value) ≠ .bool false),((.bool true : Value) ≠ .bool false),((undef : Value) ≠ .bool true),((undef : Value) ≠ .bool true),((undef : Value) ≠ .bool true),((.bool true : Value) ≠ .bool false),((.bool true : Value) = .bool true)]) ⟨(by simp),(by simp),(by simp),(by simp [undef]),(by simp [undef]),(by simp [undef]),(by simp),rfl,trivial⟩ ?_
      refine CfgL.done rfl ?_
      refine Cfg.ret rfl (rs := [.tmp 4]) rfl [.bool true] ⟨kr,trivial⟩ (fun w1 hp => ?_)
      exact ⟨rfl,hp.ext⟩
     ·have c7k : ((parE l) != (0 : Int)) = false := (by simpa using c7)
      have c7q := (bne_eq_false_iff_eq.1 c7k)
      refine CfgL.known 85 (b := ((parE l) != (0 : Int))) kr false c7k ?_
      have hp0 : parE l = 0 := by by_cases h9 : parE l = 0; exact h9; exact absurd c7k (by simp [h9])
      obtain ⟨hck,hob⟩ := read_back hp0 (hq2.ok hp0)
      have hos := objS_l hck hob
      refine CfgL.setG (Γ' := [(85,[],.bool false),(82,[],.bool true),(13,[],.int .i64 (chkO q2.o)),(12,[],.string (objS q2.o)),(1,[],.string (tx l))]) kr ?_
      refine CfgL.setG (congrArg (fun (xq : Int) => ([(85,[],.bool false),(82,[],.bool true),(13,[],.int .i64 xq),(12,[],.string (objS q2.o)),(1,[],.string (tx l))] : Env)) (show _ = 0 from hck)) ?_
      refine CfgL.setG (congrArg (fun (xq : ByteArray) => ([(85,[],.bool false),(82,[],.bool true),(13,[],.int .i64 0),(12,[],.string xq),(1,[],.string (tx l))] : Env)) (show _ = (tx l) from hos)) ?_
      refine Lp 10 [(1,false,none),(1,false,none),(1,false,none),(1,false,none),(1,false,none),(1,false,none),(1,false,none),(1,false,none)] (some [4]) (fun _ => [((.bool false : Value) = .bool false),((.bool false : Value) = .bool false),((.bool false : Value) = .bool false),((.bool true : Value) = .bool true),((.bool true : Value) = .bool true),((.bool true : Value) = .bool true),((.bool false : Value) = .bool false),((.bool true : Value) = .bool true)]) ⟨rfl,rfl,rfl,rfl,rfl,rfl,rfl,rfl,trivial⟩ ?_
      refine CfgL.done rfl ?_
      refine Cfg.ret rfl (rs := [.tmp 4]) rfl [.bool ((tx l).toList == (tx l).toList)] ⟨kr,trivial⟩ (fun w1 hp => ?_)
      exact ⟨by rw [beq_self_eq_true]; rfl,hp.ext⟩
    ·intro hj1
     refine Cfg.cond rfl (b := ((o.k : Int) == (99 : Int))) kr (fun c6r => ?_) (fun c6r => ?_)
     ·have c6 := (beq_iff_eq.1 c6r)
      by_cases hps : o.c.ps = []
      ·
       refine Cfg.begL rfl ?_
       refine Lp 3 [dZ,dZ,(dS (.agg (bv o.c.d)))] (some [1,2,9,56]) (fun S => [(∀ w1,S w1 → (loadVar 30 ⟨bx,4,none⟩).run Tryz.prog w1 = .ok (.agg (bv o.c.d)) w1)]) ⟨(fun w1 h => load_list (vs := dgc o.c.d) Tryz.underlying30 rfl kr (dgc_len hoc) (fun j v hj => h.ocell 0 rfl (by rw [List.getElem?_toArray]; exact (fun j v hj => oc_com (cc_d hj)) j v hj))),trivial⟩ ?_
       refine Le (Eff.buildAgg (vs := (bv o.c.d)) (n := 32) rfl kr Tryz.underlying31 kr (z := (.agg (bv (List.replicate 32 0)))) kr ((bv_size _).trans hoc) (by decide) (by decide)) ?_
       rintro x57 ⟨hx57,nx57⟩
       refine Lp 3 [dZ,dZ,(dS (.slice o.c.pa o.c.ps.length o.c.pc))] (some [1,2,9,57,60]) (fun S => [(cE S bx 36 (.slice o.c.pa o.c.ps.length o.c.pc))]) ⟨(fun w1 h => h.ocell 1 rfl (by rw [List.getElem?_toArray]; exact (oc_com (j := 32) (cc_p hoc)))),trivial⟩ ?_
       refine Lu (Eff.appendE rfl 32 Tryz.underlying31 kr (base := some ⟨x57,0,none⟩) (n := 1) (c := 1) kr (Nat.le_refl _) (m := o.c.ps.length) (la := o.c.pa) (c2 := o.c.pc) kr (by rw [hps]; rfl)) ?_
       refine Ld 1 [1,2,9] ?_
       have hlk : lk o = [o.c.d] := (lk_com c6).trans (by rw [hps])
       refine Cfg.permO (O' := ([(bx,.cells ((oc o).toArray) 38 (0,0))] ++ (Own.o 30 ((lk o).flatMap dgc) ((some (x57,1,[]))) ++ []))) (by rw [hlk,← one_blk]; exact (List.perm_middle (l₁ := [(bx,Obj.cells ((oc o).toArray) 38 (0,0))]) (l₂ := [])).symm) ?_
       refine Cfg.setS 9 (show .slice (some ⟨x57,0,none⟩) 1 1 = .slice (Own.a ((some (x57,1,[])))) ((lk o).length) (Own.c ((some (x57,1,[])))) from (by rw [hlk]; rfl)) ?_
       exact Cfg.joinS hj1 (some (x57,1,[])) (by rw [hlk]; exact own_oneD hoc) rfl (Conv.mk kr) (.cons_cons _ (List.Sublist.trans slr (List.sublist_append_right _ _)))
      ·
       obtain ⟨sa,offa,csa,tea,frea,hpa,hma,hca⟩ := hO.c.p (by have : o.c.ps.length ≠ 0 := fun e => hps (List.eq_nil_of_length_eq_zero e); omega)
       refine Cfg.begL rfl ?_
       refine Lp 3 [dZ,dZ,(dS (.agg (bv o.c.d)))] (some [1,2,9,56]) (fun S => [(∀ w1,S w1 → (loadVar 30 ⟨bx,4,none⟩).run Tryz.prog w1 = .ok (.agg (bv o.c.d)) w1)]) ⟨(fun w1 h => load_list (vs := dgc o.c.d) Tryz.underlying30 rfl kr (dgc_len hoc) (fun j v hj => h.ocell 0 rfl (by rw [List.getElem?_toArray]; exact (fun j v hj => oc_com (cc_d hj)) j v hj))),trivial⟩ ?_
       refine Le (Eff.buildAgg (vs := (bv o.c.d)) (n := 32) rfl kr Tryz.underlying31 kr (z := (.agg (bv (List.replicate 32 0)))) kr ((bv_size _).trans hoc) (by decide) (by decide)) ?_
       rintro x57 ⟨hx57,nx57⟩
       refine Lp 3 [dZ,dZ,(dS (.slice o.c.pa o.c.ps.length o.c.pc))] (some [1,2,9,57,60]) (fun S => [(cE S bx 36 (.slice o.c.pa o.c.ps.length o.c.pc))]) ⟨(fun w1 h => h.ocell 1 rfl (by rw [List.getElem?_toArray]; exact (oc_com (j := 32) (cc_p hoc)))),trivial⟩ ?_
       refine Le ((Eff.reO (A2 := fun (oq9 : K.Own) => ([(bx,.cells ((oc o).toArray) 38 (0,0))] ++ (Own.o 30 (dgc o.c.d ++ o.c.ps.flatMap dgc) oq9 ++ []))) ((Eff.appendA rfl 32 32 Tryz.underlying31 kr (z := (.agg (bv (List.replicate 32 0)))) kr rfl (some (x57,1,[])) (n := 1) (xs := dgc o.c.d) (own_one hoc) kr ⟨sa,offa,none⟩ (m := o.c.ps.length) (c2 := o.c.pc) ((show _ = some (.slice o.c.pa o.c.ps.length o.c.pc) by kernel_rfl).trans (by rw [hpa])) (o.c.ps.flatMap dgc) (flat_len (fun x hx => dgc_len (hO.c.w x hx))) (one_flat all_dgc) (fun w1 h j v hj => clo_src (hpa ▸ hO.c.p) (fun x hx => dgc_len (hO.c.w x hx)) (h.hasR (fun e he => List.mem_cons_of_mem _ he)) hj) [(bx,Obj.cells ((oc o).toArray) 38 (0,0))] (by simp [Own.o,dgc]) om om).perm (List.Perm.refl _) (fun x => List.perm_append_comm)) (fun oq9 => by rw [List.append_nil]))) ?_
       rintro ow kow
       refine Ld 1 [1,2,9] ?_
       have hlk := lk_com c6
       have hfk : ((lk o).flatMap dgc) = dgc o.c.d ++ o.c.ps.flatMap dgc := by rw [hlk,List.flatMap_cons]
       refine Cfg.setO (congrArg (fun (xq : List Value) => (([(bx,.cells ((oc o).toArray) 38 (0,0))] ++ (Own.o 30 xq ow ++ [])) : LO)) (show _ = ((lk o).flatMap dgc) from hfk.symm)) ?_
       refine Cfg.setS 9 (congrArg (fun (xq : Nat) => (.slice (Own.a ow) xq (Own.c ow) : Value)) (show ((1 + o.c.ps.length)) = ((lk o).length) from (by rw [hlk,List.length_cons]; exact Nat.add_comm _ _))) ?_
       exact Cfg.joinS hj1 ow (by rw [hlk,List.flatMap_cons,List.length_cons,Nat.add_comm]; exact kow) rfl (Conv.mk kr) (.cons_cons _ (List.Sublist.trans slr (List.sublist_append_right _ _)))
     ·have c6 := (beq_eq_false_iff_ne.1 c6r)
      refine Rq [1,2,9,62] ?_
      refine Cfg.cond rfl (b := ((o.k : Int) == (116 : Int))) kr (fun c8r => ?_) (fun c8r => ?_)
      ·have c8 := (beq_iff_eq.1 c8r)
       refine Cfg.begL rfl ?_
       refine Lp 3 [dZ,dZ,(dS (.agg (bv o.t.d)))] (some [1,2,9,66]) (fun S => [(∀ w1,S w1 → (loadVar 30 ⟨bx,39,none⟩).run Tryz.prog w1 = .ok (.agg (bv o.t.d)) w1)]) ⟨(fun w1 h => load_list (vs := dgc o.t.d) Tryz.underlying30 rfl kr (dgc_len hot) (fun j v hj => h.ocell 0 rfl (by rw [List.getElem?_toArray]; exact (fun j v hj => oc_tag hoc (tc_d hj)) j v hj))),trivial⟩ ?_
       refine Le (Eff.buildAgg (vs := (bv o.t.d)) (n := 32) rfl kr Tryz.underlying31 kr (z := (.agg (bv (List.replicate 32 0)))) kr ((bv_size _).trans hot) (by decide) (by decide)) ?_
       rintro x67 ⟨hx67,nx67⟩
       refine Ld 1 [1,2,9] ?_
       have hlk : lk o = [o.t.d] := lk_tag c8
       refine Cfg.permO (O' := ([(bx,.cells ((oc o).toArray) 38 (0,0))] ++ (Own.o 30 ((lk o).flatMap dgc) ((some (x67,1,[]))) ++ []))) (by rw [hlk,← one_blk]; exact (List.perm_middle (l₁ := [(bx,Obj.cells ((oc o).toArray) 38 (0,0))]) (l₂ := [])).symm) ?_
       refine Cfg.setS 9 (show .slice (some ⟨x67,0,none⟩) 1 1 = .slice (Own.a ((some (x67,1,[])))) ((lk o).length) (Own.c ((some (x67,1,[])))) from (by rw [hlk]; rfl)) ?_
       exact Cfg.joinS hj1 (some (x67,1,[])) (by rw [hlk]; exact own_oneD hot) rfl (Conv.mk kr) (.cons_cons _ (List.Sublist.trans slr (List.sublist_append_right _ _)))
      ·have c8 := (beq_eq_false_iff_ne.1 c8r)
       have hlk := lk_no c6 c8
       refine Cfg.setS 9 (show .slice none 0 0 = .slice (Own.a none) ((lk o).length) (Own.c none) from (by rw [hlk]; rfl)) ?_
       exact Cfg.joinS hj1 none (by rw [hlk]; exact OwnOk.none _) rfl (Conv.mk kr) (.cons_cons _ (by rw [hlk]; exact List.Sublist.refl _))
   ·intro hj2
    refine Cfg.cond rfl (b := ((chkO o) == (0 : Int))) kr (fun c5r => ?_) (fun c5r => ?_)
    ·have c5 := (beq_iff_eq.1 c5r)
     have h0 : chkO o = 0 := by omega
     have hwb := write_back h0 hO hu hn
     refine Cfg.setS 5 (congrArg Value.string (show (objS o) = (tx (objL o)) from objS_l h0 rfl)) ?_
     refine Cfg.begL rfl ?_
     refine Lq 1 [1,2,32] ?_
     refine Le (Eff.callH (vs := [.string (tx (objL o))]) (fun q : PQ => .tuple #[.agg (oc q.o).toArray,.int .i64 0]) [] (fun q => q.mem) (fun q => q.Ok (objL o)) ([(bx,.cells ((oc o).toArray) 38 (0,0))]) [] (by rfl) rfl Tryz.func7 rfl rfl kr (fun w1 _ _ _ => by have h9 := oParse (objL o) w1 (Nat.le_trans (objL_len h0 hO hu) (by decide)); rw [hwb.1] at h9; exact h9)) ?_
     rintro q1 hq1
     have hsm := hwb.2 q1.o (hq1.ok hwb.1)
     refine Lq 3 [1,2,34,35] ?_
     refine Le (Eff.alloc (z := (.agg (oc ⟨0,m0,c0,t0⟩).toArray)) rfl kr) ?_
     rintro x7 ⟨hx7,nx7⟩
     refine Lu (Eff.storeN (b := x7) (off := 0) (vs := (oc q1.o).toArray) (n := 72) rfl kr kr kr (oc_size _ hq1.i.c.d hq1.i.t) (fun q hq => all_oc _ q hq) 0 (cs := (oc ⟨0,m0,c0,t0⟩).toArray) (e := 38) kr (by rw [oc_size _ d0_len d0_len]; decide)) ?_
     refine CfgL.setO (congrArg (fun (xq : Array Value) => (([(x7,.cells xq 38 (0,0)),(bx,.cells ((oc o).toArray) 38 (0,0))] ++ (PQ.mem q1 ++ [])) : LO)) (show _ = ((oc q1.o).toArray) from spl_all ((oc_size _ hq1.i.c.d hq1.i.t).trans (oc_size _ d0_len d0_len).symm))) ?_
     refine Ld 1 [1,2,7,8] ?_
     refine Cfg.begL rfl ?_
     refine Lp 5 [dZ,dZ,dZ,(1,false,some (.agg (oc q1.o).toArray)),(1,false,some (.agg (oc o).toArray))] (some [1,2,7,38,39,40]) (fun S => [((.bool false : Value) = .bool false),(∀ w1,S w1 → (loadVar 38 ⟨x7,0,none⟩).run Tryz.prog w1 = .ok (.agg (oc q1.o).toArray) w1),((.bool false : Value) = .bool false),(∀ w1,S w1 → (loadVar 38 ⟨bx,0,none⟩).run Tryz.prog w1 = .ok (.agg (oc o).toArray) w1)]) ⟨rfl,(fun w1 h => h.oload 0 rfl Tryz.underlying38 rfl (n := 72) kr (oc_size _ hq1.i.c.d hq1.i.t)),rfl,(fun w1 h => load_list Tryz.underlying38 rfl kr (oc_len hoc hot) (fun j v hj => h.ocell 1 rfl (by rw [List.getElem?_toArray]; exact (fun j v hj => by rw [Nat.zero_add]; exact hj) j v hj))),trivial⟩ ?_
     refine Lu (Eff.callA (vs := [.agg (oc q1.o).toArray,.agg (oc o).toArray]) (.bool true) rfl Tryz.func8 rfl rfl kr (fun w1 h => by have h9 := oSame q1.o o (q1.mem ++ Rl) w1 (hq1.i.mono (fun e he => mL he)) (hO.mono (fun e he => mR he)) (fun e he => (List.mem_append.1 he).elim (fun he => h.own e (show e ∈ ([(x7,Obj.cells ((oc q1.o).toArray) 38 (0,0)),(bx,Obj.cells ((oc o).toArray) 38 (0,0))] ++ (PQ.mem q1 ++ [])) from mR (mL he))) (fun he => h.ro e (List.mem_cons_of_mem _ he))); rw [hsm.1] at h9; exact h9)) ?_
     refine Lp 5 [(1,false,none),dZ,dZ,(1,false,some (.agg (oc o).toArray)),(1,false,some (.agg (oc q1.o).toArray))] (some [1,2,44,45,46]) (fun S => [((.bool false : Value) = .bool false),((.bool false : Value) = .bool false),(∀ w1,S w1 → (loadVar 38 ⟨bx,0,none⟩).run Tryz.prog w1 = .ok (.agg (oc o).toArray) w1),((.bool false : Value) = .bool false),(∀ w1,S w1 → (loadVar 38 ⟨x7,0,none⟩).run Tryz.prog w1 = .ok (.agg (oc q1.o).toArray) w1)]) ⟨rfl,rfl,(fun w1 h => load_list Tryz.underlying38 rfl kr (oc_len hoc hot) (fun j v hj => h.ocell 1 rfl (by rw [List.getElem?_toArray]; exact (fun j v hj => by rw [Nat.zero_add]; exact hj) j v hj))),rfl,(fun w1 h => h.oload 0 rfl Tryz.underlying38 rfl (n := 72) kr (oc_size _ hq1.i.c.d hq1.i.t)),trivial⟩ ?_
     refine Lu (Eff.callA (vs := [.agg (oc o).toArray,.agg (oc q1.o).toArray]) (.bool true) rfl Tryz.func8 rfl rfl kr (fun w1 h => by have h9 := oSame o q1.o (q1.mem ++ Rl) w1 (hO.mono (fun e he => mR he)) (hq1.i.mono (fun e he => mL he)) (fun e he => (List.mem_append.1 he).elim (fun he => h.own e (show e ∈ ([(x7,Obj.cells ((oc q1.o).toArray) 38 (0,0)),(bx,Obj.cells ((oc o).toArray) 38 (0,0))] ++ (PQ.mem q1 ++ [])) from mR (mL he))) (fun he => h.ro e (List.mem_cons_of_mem _ he))); rw [hsm.2] at h9; exact h9)) ?_
     refine Lp 2 [(1,false,none)] (some [1,2,49]) (fun _ => [((.bool false : Value) = .bool false)]) ⟨rfl,trivial⟩ ?_
     refine CfgL.done rfl ?_
     refine Cfg.condF rfl (b := false) kr rfl ?_
     exact Cfg.joinS hj2 () trivial rfl (Conv.mk kr) (.cons _ (.cons_cons _ (List.nil_sublist _)))
    ·have c5 := (beq_eq_false_iff_ne.1 c5r)
     exact Cfg.joinS hj2 () trivial rfl (Conv.mk kr) (.cons_cons _ .slnil)
end Go.Proofs.YtbeeelgfhfmgbaaGreatDoor
namespace Go.Proofs.YtbeeelgfhfmgbaaGreatDoor
namespace K
open Go.ChangeShapes Go.WideShapes
section
variable {H : Type} {enc : TypeId × Value → H} {P : Program} {w : World} {base : Nat} {held : Bool}
theorem weights_each {l : List (DataW H)} {e : TypeId} (h : (DataW.weightsAll P e l).all (· ≤ reachBytes) = true) : ∀ d ∈ l,(d.weights P e).all (· ≤ reachBytes) = true := by
 induction l with
 | nil => intro d hd; cases hd
 | cons x l ih =>
  rw [DataW.weightsAll,List.all_append,Bool.and_eq_true] at h
  intro d hd
  rcases List.mem_cons.1 hd with rfl | hd
  ·exact h.1
  ·exact ih h.2 d hd
theorem weights_slice {t e : TypeId} {l r : List (DataW H)} (ht : P.underlying t = some (.slice e)) (h : (DataW.weights P t (.slice l r)).all (· ≤ reachBytes) = true) : l.length * P.bytesOf e ≤ reachBytes ∧ ∀ d ∈ l,(d.weights P e).all (· ≤ reachBytes) = true := by
 rw [DataW.weights,ht] at h
 simp only [List.all_cons,List.all_append,Bool.and_eq_true,decide_eq_true_eq] at h
 exact ⟨Nat.le_trans (Nat.mul_le_mul_right _ (Nat.le_add_right _ _)) h.1,weights_each h.2.1⟩
theorem weights_cons {t : TypeId} {ts : List TypeId} {d : DataW H} {r : List (DataW H)} (h : (DataW.weightsEach P (t :: ts) (d :: r)).all (· ≤ reachBytes) = true) : (d.weights P t).all (· ≤ reachBytes) = true ∧ (DataW.weightsEach P ts r).all (· ≤ reachBytes) = true := by
 rw [DataW.weightsEach,List.all_append,Bool.and_eq_true] at h
 exact h
theorem weights_struct {t : TypeId} {fs : Array Field} {l : List (DataW H)} (ht : P.underlying t = some (.struct fs)) (h : (DataW.weights P t (.agg l)).all (· ≤ reachBytes) = true) : (DataW.weightsEach P (fs.toList.map (·.type)) l).all (· ≤ reachBytes) = true := by
 rw [DataW.weights,ht] at h; exact h
theorem open_struct {r : Reach} {b0 : Nat} {t : TypeId} {fs : Array Field} {v : Value} {d : DataW H} {p : List MemPlace} (ht : P.underlying t = some (.struct fs)) (hv : Value.okWide P w r b0 t v) (h : DataW.Trod enc P w base (fun _ => true) held t v d p) :
  ∃ (cs : Array Value) (fuel : Nat),v = .agg cs ∧ DataW.trod enc P w base (fun _ => true) held fuel t cs.toList = some (d,p) := by
 unfold Value.okWide at hv
 rw [ht] at hv
 obtain ⟨cs,rfl,_⟩ := hv
 obtain ⟨fuel,hf⟩ := h
 exact ⟨cs,fuel,rfl,hf⟩
theorem trod_inW {t e : TypeId} {sz fuel : Nat} {cs0 : List Value} {x : DataW H × List MemPlace} (ht : P.underlying t = some (.slice e)) (hsz : P.cellsOf e = sz) (hz : 0 < sz) (hf : DataW.trod enc P w base (fun _ => true) held fuel t cs0 = some x) (hw : (x.1.weights P t).all (· ≤ reachBytes) = true) :
  ∃ (la : Option Addr) (n cap : Nat) (L : List (List Value)) (Rl : LO),cs0 = [.slice la n cap] ∧ L.length = n ∧ n ≤ cap ∧ cap ≤ maxLen ∧ (la = none → n = 0 ∧ cap = 0) ∧
   (∀ i,i < n → (L.getD i []).length = sz ∧ ∃ fuel y,DataW.trod enc P w base (fun _ => true) held fuel e (L.getD i []) = some y ∧ (y.1.weights P e).all (· ≤ reachBytes) = true) ∧ Has w Rl ∧ InS Rl la (n * sz) (fun j => (L.getD (j / sz) []).getD (j % sz) undef) ∧ n * P.bytesOf e ≤ reachBytes := by
 rcases Go.Deep.open_slice ht hf with ⟨rfl,_⟩ | ⟨a,n0,cap,m,k,D,Pl,rfl,_,hl,hm,hmm,hdx,hx⟩
 ·refine ⟨none,0,0,[],[],rfl,rfl,Nat.le_refl _,Nat.zero_le _,fun _ => ⟨rfl,rfl⟩,(fun i hi => by omega),(fun e he => by cases he),(fun hk => by simp at hk),by rw [Nat.zero_mul]; exact Nat.zero_le _⟩
 ·simp only [if_true] at hmm
  subst hmm
  rw [hdx] at hw
  obtain ⟨hw1,hw2⟩ := weights_slice ht hw
  rw [List.length_map,List.length_range] at hw1
  rw [hsz] at hx
  have hx' : ∀ i,∃ cs',i < n0 → (w.cells? base (a.add (i * sz)) sz = some cs' ∧ DataW.trod enc P w base (fun _ => true) held k e cs' = some (D i,Pl i)) := by
   intro i
   by_cases hi : i < n0
   ·obtain ⟨cs',h1⟩ := hx i om
    exact ⟨cs',fun _ => h1⟩
   ·exact ⟨[],fun h => absurd h hi⟩
  obtain ⟨g,hg⟩ : ∃ g : Nat → List Value,∀ i,i < n0 → (w.cells? base (a.add (i * sz)) sz = some (g i) ∧ DataW.trod enc P w base (fun _ => true) held k e (g i) = some (D i,Pl i)) := ⟨fun i => Classical.choose (hx' i),fun i => Classical.choose_spec (hx' i)⟩
  have hgetL : ∀ i,i < n0 → ((List.range n0).map g).getD i [] = g i := fun i hi => by simp [hi]
  have hcell : ∀ j,j < n0 * sz → w.cell? (a.add j) = some ((((List.range n0).map g).getD (j / sz) []).getD (j % sz) undef) := by
   intro j hj
   have hq : j / sz < n0 := Nat.div_lt_of_lt_mul (by rw [Nat.mul_comm]; exact hj)
   have hr : j % sz < sz := Nat.mod_lt _ hz
   obtain ⟨h1,_⟩ := hg (j / sz) hq
   obtain ⟨_,hlen,hat⟩ := World.cells?_some h1
   have h2 := hat (j % sz) hr
   rw [Go.Deep.add_add,show j / sz * sz + j % sz = j by rw [Nat.mul_comm]; exact Nat.div_add_mod j sz] at h2
   rw [h2,hgetL _ hq,List.getD_eq_getElem?_getD,List.getElem?_eq_getElem om]
   rfl
  have hele : ∀ i,i < n0 → (((List.range n0).map g).getD i []).length = sz ∧ ∃ fuel y,DataW.trod enc P w base (fun _ => true) held fuel e (((List.range n0).map g).getD i []) = some y ∧ (y.1.weights P e).all (· ≤ reachBytes) = true := by
   intro i hi
   obtain ⟨h1,h2⟩ := hg i hi
   rw [hgetL i hi]
   exact ⟨(World.cells?_some h1).2.1,k,_,h2,hw2 _ (List.mem_map.2 ⟨i,List.mem_range.2 hi,rfl⟩)⟩
  by_cases hk : 0 < n0 * sz
  ·have h0 := hcell 0 hk
   rw [Addr.add_zero'] at h0
   obtain ⟨bl,off,sp⟩ := a
   unfold World.cell? at h0
   simp only at h0
   cases hh : w.heap[bl]? with
   | none => rw [hh] at h0; cases h0
   | some ob =>
    rw [hh] at h0
    cases ob with
    | cells c el fr =>
     simp only at h0
     cases sp with
     | some q => simp at h0
     | none =>
      refine ⟨some ⟨bl,off,none⟩,n0,_,(List.range n0).map g,[(bl,.cells c el fr)],rfl,by simp,hl,hm,(fun h => by cases h),hele,(fun x hx => by simp only [List.mem_cons,List.not_mem_nil,or_false] at hx; subst hx; exact hh),(fun _ => ⟨bl,off,c,el,fr,rfl,mH,fun j hj => ?_⟩),hw1⟩
      have := hcell j hj
      rw [add_none,cell_cells hh] at this
      exact this
    | _ => cases h0
  ·exact ⟨some a,n0,_,(List.range n0).map g,[],rfl,by simp,hl,hm,(fun h => by cases h),hele,(fun x hx => by cases hx),(fun h => absurd h hk),hw1⟩
theorem trod_flatW {α : Type} (f : α → List Value) (Q : α → Prop) {t e : TypeId} {sz fuel0 : Nat} {cs0 : List Value} {x0 : DataW H × List MemPlace} (ht : P.underlying t = some (.slice e)) (hsz : P.cellsOf e = sz) (hz : 0 < sz)
  (hel : ∀ (cs : List Value) (fuel : Nat) (y : DataW H × List MemPlace),cs.length = sz → DataW.trod enc P w base (fun _ => true) held fuel e cs = some y → (y.1.weights P e).all (· ≤ reachBytes) = true → ∃ a,Q a ∧ cs = f a)
  (h : DataW.trod enc P w base (fun _ => true) held fuel0 t cs0 = some x0) (hw : (x0.1.weights P t).all (· ≤ reachBytes) = true) :
  ∃ (la : Option Addr) (cap : Nat) (xs : List α) (Rl : LO),cs0 = [.slice la xs.length cap] ∧ xs.length ≤ cap ∧ cap ≤ maxLen ∧ (la = none → xs.length = 0 ∧ cap = 0) ∧ (∀ x ∈ xs,Q x) ∧ Has w Rl ∧
   InS Rl la (xs.length * sz) (fun j => (xs.flatMap f).getD j undef) ∧ xs.length * P.bytesOf e ≤ reachBytes := by
 obtain ⟨la,n,cap,L,Rl,rfl,hn,hc,hm,hno,hL,hR,hI,hB⟩ := trod_inW ht hsz hz h hw
 have hx : ∀ i,∃ a : Option α,i < n → ∃ b,a = some b ∧ Q b ∧ L.getD i [] = f b := by
  intro i
  by_cases hi : i < n
  ·obtain ⟨h1,fuel,y,h2,h5⟩ := hL i hi
   obtain ⟨a,h3,h4⟩ := hel _ fuel y h1 h2 h5
   exact ⟨some a,fun _ => ⟨a,rfl,h3,h4⟩⟩
  ·exact ⟨none,fun h => absurd h hi⟩
 obtain ⟨g,hg⟩ : ∃ g : Nat → Option α,∀ i,i < n → ∃ b,g i = some b ∧ Q b ∧ L.getD i [] = f b := ⟨fun i => Classical.choose (hx i),fun i => Classical.choose_spec (hx i)⟩
 have hlen : ((List.range n).filterMap g).length = n ∧ ∀ i,i < n → ((List.range n).filterMap g)[i]? = g i := by
  have key : ∀ m,m ≤ n → ((List.range m).filterMap g).length = m ∧ ∀ i,i < m → ((List.range m).filterMap g)[i]? = g i := by
   intro m
   induction m with
   | zero => intro _; exact ⟨rfl,fun i hi => by omega⟩
   | succ m ih =>
    intro hm
    obtain ⟨h1,h2⟩ := ih om
    obtain ⟨b,hb,_⟩ := hg m om
    rw [List.range_succ,List.filterMap_append,show List.filterMap g [m] = [b] by simp [hb]]
    refine ⟨by rw [List.length_append,h1]; rfl,fun i hi => ?_⟩
    by_cases him : i < m
    ·rw [List.getElem?_append_left om,h2 i him]
    ·have : i = m := by omega
     subst this
     rw [List.getElem?_append_right om,h1,Nat.sub_self,hb]; rfl
  exact key n (Nat.le_refl _)
 obtain ⟨hlen,hget⟩ := hlen
 have hq : ∀ i (hi : i < ((List.range n).filterMap g).length),Q ((List.range n).filterMap g)[i] ∧ L.getD i [] = f ((List.range n).filterMap g)[i] := by
  intro i hi
  obtain ⟨b,hb,h1,h2⟩ := hg i om
  have := hget i om
  rw [List.getElem?_eq_getElem hi,hb] at this
  rw [Option.some.inj this]; exact ⟨h1,h2⟩
 refine ⟨la,cap,(List.range n).filterMap g,Rl,by rw [hlen],by omega,hm,by rw [hlen]; exact hno,?_,hR,?_,by rw [hlen]; exact hB⟩
 ·intro x hx
  obtain ⟨i,hi,rfl⟩ := List.getElem_of_mem hx
  exact (hq i hi).1
 ·rw [hlen]
  refine hI.more (fun _ hx => hx) fun j hj => ?_
  have hi : j / sz < n := Nat.div_lt_of_lt_mul (by rw [Nat.mul_comm]; exact hj)
  have hr : j % sz < sz := Nat.mod_lt _ hz
  have hfl : ∀ x ∈ (List.range n).filterMap g,(f x).length = sz := by
   intro x hx
   obtain ⟨i,hi,rfl⟩ := List.getElem_of_mem hx
   rw [← (hq i hi).2]; exact (hL i om).1
  have h1 := flat_get f sz hfl (i := j / sz) (j := j % sz) om hr
  rw [show j / sz * sz + j % sz = j by rw [Nat.mul_comm]; exact Nat.div_add_mod j sz] at h1
  rw [(hq (j / sz) om).2,List.getD_eq_getElem?_getD,List.getD_eq_getElem?_getD,h1]
end
end K
end Go.Proofs.YtbeeelgfhfmgbaaGreatDoor
namespace Go.Proofs.YtbeeelgfhfmgbaaGreatDoor
open K
set_option linter.unusedVariables false
open Go.ChangeShapes Go.WideShapes
theorem list3 {cs : List Value} (h : cs.length = 3) : cs = (cs.drop 0).take 1 ++ (cs.drop 1).take 1 ++ (cs.drop 2).take 1 := by
 match cs,h with
 | [_,_,_],_ => rfl
theorem list3b {cs : List Value} (h : cs.length = 3) : cs = ((cs.drop 0).take 2).take 1 ++ ((cs.drop 0).take 2).drop 1 ++ (cs.drop 2).take 1 ∧ (((cs.drop 0).take 2).drop 1).take 1 = ((cs.drop 0).take 2).drop 1 := by
 match cs,h with
 | [_,_,_],_ => exact ⟨rfl,rfl⟩
theorem ed_open {H : Type} {enc : TypeId × Value → H} {w : World} {base : Nat} {held : Bool} (cs : List Value) (fuel : Nat) (y : DataW H × List MemPlace) (hl : cs.length = 3) (h : DataW.trod enc Tryz.prog w base (fun _ => true) held fuel 76 cs = some y) : ∃ a : Ed,True ∧ cs = edc a := by
 obtain ⟨xs,m,_,_,_,hlen,hf⟩ := DataW.trod_struct Tryz.underlying76 h
 have c1 : Tryz.prog.cellsOf 73 = 1 := by kernel_rfl
 match xs,hlen with
 | [y0,y1,y2],_ =>
  have h0 : DataW.trod enc Tryz.prog w base (fun _ => true) held m 73 ((cs.drop 0).take 1) = some y0 := by have q := hf 0 ⟨ "ID",73,0,false,"","",0⟩ rfl; simp only [c1] at q; exact q
  have h1 : DataW.trod enc Tryz.prog w base (fun _ => true) held m 73 ((cs.drop 1).take 1) = some y1 := by have q := hf 1 ⟨ "A",73,1,false,"","",4⟩ rfl; simp only [c1] at q; exact q
  have h2 : DataW.trod enc Tryz.prog w base (fun _ => true) held m 73 ((cs.drop 2).take 1) = some y2 := by have q := hf 2 ⟨ "B",73,2,false,"","",8⟩ rfl; simp only [c1] at q; exact q
  obtain ⟨a,ha,_,wa⟩ := DataW.trod_int Tryz.underlying73 h0
  obtain ⟨b,hb,_,wb⟩ := DataW.trod_int Tryz.underlying73 h1
  obtain ⟨c,hc,_,wc⟩ := DataW.trod_int Tryz.underlying73 h2
  have qa := wf_u32 a wa
  have qb := wf_u32 b wb
  have qc := wf_u32 c wc
  refine ⟨(a.toNat,b.toNat,c.toNat),trivial,?_⟩
  have h9 := list3 hl
  rw [ha,hb,hc] at h9
  refine h9.trans ?_
  show [Value.int .u32 a,.int .u32 b,.int .u32 c] = [Value.int .u32 (a.toNat : Int),.int .u32 (b.toNat : Int),.int .u32 (c.toNat : Int)]
  rw [Int.toNat_of_nonneg qa.1,Int.toNat_of_nonneg qb.1,Int.toNat_of_nonneg qc.1]
theorem u32_open {H : Type} {enc : TypeId × Value → H} {w : World} {base : Nat} {held : Bool} (cs : List Value) (fuel : Nat) (y : DataW H × List MemPlace) (h : DataW.trod enc Tryz.prog w base (fun _ => true) held fuel 73 cs = some y) : ∃ a : Nat,a < 4294967296 ∧ cs = u32c a := by
 obtain ⟨a,ha,_,wa⟩ := DataW.trod_int Tryz.underlying73 h
 have qa := wf_u32 a wa
 refine ⟨a.toNat,by omega,ha.trans ?_⟩
 show [Value.int .u32 a] = [Value.int .u32 (a.toNat : Int)]
 rw [Int.toNat_of_nonneg qa.1]
theorem dg_open {H : Type} {enc : TypeId × Value → H} {w : World} {base : Nat} {held : Bool} (cs : List Value) (fuel : Nat) (y : DataW H × List MemPlace) (h : DataW.trod enc Tryz.prog w base (fun _ => true) held fuel 30 cs = some y) : ∃ a : List UInt8,a.length = 32 ∧ cs = dgc a := by
 obtain ⟨h1,h2⟩ := trod_bytes Tryz.underlying30 Tryz.underlying5 kr kr h
 refine ⟨_,h1,?_⟩
 unfold dgc
 rw [← h2]
theorem row_open {H : Type} {enc : TypeId × Value → H} {w : World} {base : Nat} {held : Bool} (cs : List Value) (fuel : Nat) (y : DataW H × List MemPlace) (h : DataW.trod enc Tryz.prog w base (fun _ => true) held fuel 22 cs = some y) (hw : (y.1.weights Tryz.prog 22).all (· ≤ reachBytes) = true) :
  ∃ a : RowU × LO,(Has w a.2 ∧ InF u32c 1 a.2 a.1.a a.1.xs ∧ a.1.xs.length ≤ 140737488355328 / 4 ∧ ∀ n ∈ a.1.xs,n < 4294967296) ∧ cs = rowc a.1 := by
 obtain ⟨la,cap,xs,Rl,hc,_,_,_,hq,hR,hI,hB⟩ := trod_flatW (sz := 1) u32c (fun a => a < 4294967296) Tryz.underlying22 kr (by decide) (fun cs fuel y _ g2 _ => u32_open cs fuel y g2) h hw
 have hb : Tryz.prog.bytesOf 73 = 4 := by kernel_rfl
 have hr := reachBytes_lt
 rw [hb] at hB
 exact ⟨(⟨la,cap,xs⟩,Rl),⟨hR,hI,by show xs.length ≤ _; omega,hq⟩,hc⟩
theorem map_open {H : Type} {enc : TypeId × Value → H} {w : World} {base : Nat} {held : Bool} (cs : List Value) (fuel : Nat) (y : DataW H × List MemPlace) (h : DataW.trod enc Tryz.prog w base (fun _ => true) held fuel 28 cs = some y) (hw : (y.1.weights Tryz.prog 28).all (· ≤ reachBytes) = true) :
  ∃ (m : MM) (Rl : LO),Has w Rl ∧ InM Rl m ∧ (∀ r ∈ m.rs,∀ n ∈ r.xs,n < 4294967296) ∧ cs = mc m := by
 obtain ⟨y0,y1,n,rfl,hl,g0,g1⟩ := trod_struct2 Tryz.underlying28 h
 obtain ⟨w0,w1⟩ := weights_cons (weights_struct Tryz.underlying28 hw)
 obtain ⟨w1,_⟩ := weights_cons w1
 have cG : Tryz.prog.cellsOf 25 = 2 := by kernel_rfl
 have cS : Tryz.prog.cellsOf 26 = 1 := by kernel_rfl
 have cM : Tryz.prog.cellsOf 28 = 3 := by kernel_rfl
 have cU : Tryz.prog.cellsOf 22 = 1 := by kernel_rfl
 have cE : Tryz.prog.cellsOf 23 = 1 := by kernel_rfl
 rw [cM] at hl
 simp only [cG,cS] at g0 g1
 obtain ⟨z0,z1,k,rfl,hl2,f0,f1⟩ := trod_struct2 Tryz.underlying25 g0
 obtain ⟨v0,v1⟩ := weights_cons (weights_struct Tryz.underlying25 w0)
 obtain ⟨v1,_⟩ := weights_cons v1
 simp only [cU,cE] at f0 f1
 obtain ⟨va,vc,vs,Rv,hv,_,_,_,_,hRv,hIv,hBv⟩ := trod_flatW (sz := 1) u32c (fun a => a < 4294967296) Tryz.underlying22 kr (by decide) (fun cs fuel y _ g2 _ => u32_open cs fuel y g2) f0 v0
 obtain ⟨ea,ec,es,Re,he,_,_,_,_,hRe,hIe,hBe⟩ := trod_flatW (sz := 3) edc (fun _ => True) Tryz.underlying23 kr (by decide) (fun cs fuel y g1 g2 _ => ed_open cs fuel y g1 g2) f1 v1
 obtain ⟨ra,rc,rs,Rr,hr,_,_,_,hq,hRr,hIr,hBr⟩ := trod_flatW (sz := 1) (fun x : RowU × LO => rowc x.1) (fun a => Has w a.2 ∧ InF u32c 1 a.2 a.1.a a.1.xs ∧ a.1.xs.length ≤ 140737488355328 / 4 ∧ ∀ n ∈ a.1.xs,n < 4294967296) Tryz.underlying26 kr (by decide) (fun cs fuel y _ g2 g3 => row_open cs fuel y g2 g3) g1 w1
 have b1 : Tryz.prog.bytesOf 73 = 4 := by kernel_rfl
 have b2 : Tryz.prog.bytesOf 76 = 12 := by kernel_rfl
 have b3 : Tryz.prog.bytesOf 22 = 24 := by kernel_rfl
 have hrl := reachBytes_lt
 rw [b1] at hBv
 rw [b2] at hBe
 rw [b3] at hBr
 have hfl : (rs.map (·.1)).flatMap rowc = rs.flatMap fun x => rowc x.1 := List.flatMap_map ..
 refine ⟨⟨va,vc,vs,ea,ec,es,ra,rc,rs.map (·.1)⟩,Rv ++ (Re ++ (Rr ++ rs.flatMap (·.2))),?_,⟨?_,?_,?_,?_,?_⟩,(fun r hr9 => by obtain ⟨a,ha,rfl⟩ := List.mem_map.1 hr9; exact (hq a ha).2.2.2),?_⟩
 ·intro e hx
  rcases List.mem_append.1 hx with hx | hx
  ·exact hRv e hx
  ·rcases List.mem_append.1 hx with hx | hx
   ·exact hRe e hx
   ·rcases List.mem_append.1 hx with hx | hx
    ·exact hRr e hx
    ·obtain ⟨a,ha,hx⟩ := List.mem_flatMap.1 hx
     exact (hq a ha).1 e hx
 ·exact InF.mono (f := u32c) hIv (fun e hx => mL hx)
 ·exact InF.mono (f := edc) hIe (fun e hx => mR (mL hx))
 ·have h9 : InF rowc 1 Rr ra (rs.map (·.1)) := by
   unfold InF
   rw [hfl,List.length_map]; exact hIr
  exact h9.mono (fun e hx => mR (mR (mL hx)))
 ·intro x hx
  obtain ⟨a,ha,rfl⟩ := List.mem_map.1 hx
  exact ⟨(hq a ha).2.1.mono (fun e hx => mR (mR (mR (List.mem_flatMap.2 ⟨a,ha,hx⟩)))),(hq a ha).2.2.1⟩
 ·show vs.length ≤ _ ∧ es.length ≤ _ ∧ (rs.map (·.1)).length ≤ _
  rw [List.length_map]
  omega
 ·obtain ⟨h9,h8⟩ := list3b hl
  have f0' : ((cs.drop 0).take 2).take 1 = [.slice va vs.length vc] := hv
  have f1' : ((cs.drop 0).take 2).drop 1 = [.slice ea es.length ec] := by
   rw [← h8]; exact he
  rw [f0',f1',hr] at h9
  refine h9.trans ?_
  unfold mc
  rw [List.length_map]; rfl
theorem com_open {H : Type} {enc : TypeId × Value → H} {w : World} {base : Nat} {held : Bool} (cs : List Value) (fuel : Nat) (y : DataW H × List MemPlace) (h : DataW.trod enc Tryz.prog w base (fun _ => true) held fuel 34 cs = some y) (hw : (y.1.weights Tryz.prog 34).all (· ≤ reachBytes) = true) :
  ∃ (c : CM) (Rl : LO),Has w Rl ∧ InC Rl c ∧ (c.n < 18446744073709551616 ∧ c.t.size ≤ 9223372036854775807) ∧ cs = cc c := by
 obtain ⟨xs,n,_,rfl,hl,hlen,hf⟩ := DataW.trod_struct Tryz.underlying34 h
 have c0 : Tryz.prog.cellsOf 30 = 32 := by kernel_rfl
 have c1 : Tryz.prog.cellsOf 31 = 1 := by kernel_rfl
 have c2 : Tryz.prog.cellsOf 32 = 1 := by kernel_rfl
 have c3 : Tryz.prog.cellsOf 9 = 1 := by kernel_rfl
 have cC : Tryz.prog.cellsOf 34 = 35 := by kernel_rfl
 rw [cC] at hl
 have hws := weights_struct Tryz.underlying34 hw
 match xs,hlen with
 | [y0,y1,y2,y3],_ =>
  have h0 : DataW.trod enc Tryz.prog w base (fun _ => true) held n 30 ((cs.drop 0).take 32) = some y0 := by have q := hf 0 ⟨ "Map",30,0,false,"","",0⟩ rfl; simp only [c0] at q; exact q
  have h1 : DataW.trod enc Tryz.prog w base (fun _ => true) held n 31 ((cs.drop 32).take 1) = some y1 := by have q := hf 1 ⟨ "Parents",31,32,false,"","",32⟩ rfl; simp only [c1] at q; exact q
  have h2 : DataW.trod enc Tryz.prog w base (fun _ => true) held n 32 ((cs.drop 33).take 1) = some y2 := by have q := hf 2 ⟨ "Number",32,33,false,"","",56⟩ rfl; simp only [c2] at q; exact q
  have h3 : DataW.trod enc Tryz.prog w base (fun _ => true) held n 9 ((cs.drop 34).take 1) = some y3 := by have q := hf 3 ⟨ "Text",9,34,false,"","",64⟩ rfl; simp only [c3] at q; exact q
  have w1 := (weights_cons (weights_cons hws).2).1
  obtain ⟨d,hd,hd2⟩ := dg_open _ _ _ h0
  obtain ⟨pa,pc,ps,Rp,hp,_,_,_,hq,hRp,hIp,hBp⟩ := trod_flatW (sz := 32) dgc (fun d => d.length = 32) Tryz.underlying31 kr (by decide) (fun cs fuel y _ g2 _ => dg_open cs fuel y g2) h1 w1
  obtain ⟨k,hk,_,wk⟩ := DataW.trod_int Tryz.underlying32 h2
  have qk := wf_u64 k wk
  obtain ⟨s,hs,_,hsz⟩ := DataW.trod_string Tryz.underlying9 h3
  have b1 : Tryz.prog.bytesOf 30 = 32 := by kernel_rfl
  have hrl := reachBytes_lt
  rw [b1] at hBp
  refine ⟨⟨d,pa,pc,ps,k.toNat,s⟩,Rp,hRp,⟨hd,hIp,hq,by show ps.length ≤ _; omega⟩,⟨by show k.toNat < _; omega,hsz⟩,?_⟩
  have h9 : cs = (cs.drop 0).take 32 ++ ((cs.drop 32).take 1 ++ ((cs.drop 33).take 1 ++ (cs.drop 34).take 1)) := by
   have e1 : cs.drop 34 = (cs.drop 34).take 1 := (List.take_of_length_le (by rw [List.length_drop]; omega)).symm
   have e2 : cs.drop 33 = (cs.drop 33).take 1 ++ cs.drop 34 := by rw [show cs.drop 34 = (cs.drop 33).drop 1 by rw [List.drop_drop],List.take_append_drop]
   have e3 : cs.drop 32 = (cs.drop 32).take 1 ++ cs.drop 33 := by rw [show cs.drop 33 = (cs.drop 32).drop 1 by rw [List.drop_drop],List.take_append_drop]
   rw [← e1,← e2,← e3,List.drop_zero,List.take_append_drop]
  rw [hd2,hp,hk,hs] at h9
  refine h9.trans ?_
  show dgc d ++ [.slice pa ps.length pc,.int .u64 k,.string s] = dgc d ++ [.slice pa ps.length pc,.int .u64 (k.toNat : Int),.string s]
  rw [Int.toNat_of_nonneg qk.1]
theorem tag_open {H : Type} {enc : TypeId × Value → H} {w : World} {base : Nat} {held : Bool} (cs : List Value) (fuel : Nat) (y : DataW H × List MemPlace) (h : DataW.trod enc Tryz.prog w base (fun _ => true) held fuel 36 cs = some y) :
  ∃ t : TM,t.d.length = 32 ∧ t.t.size ≤ 9223372036854775807 ∧ cs = tc t := by
 obtain ⟨y0,y1,n,rfl,hl,g0,g1⟩ := trod_struct2 Tryz.underlying36 h
 have c0 : Tryz.prog.cellsOf 30 = 32 := by kernel_rfl
 have c3 : Tryz.prog.cellsOf 9 = 1 := by kernel_rfl
 have cT : Tryz.prog.cellsOf 36 = 33 := by kernel_rfl
 rw [cT] at hl
 simp only [c0,c3] at g0 g1
 obtain ⟨d,hd,hd2⟩ := dg_open _ _ _ g0
 obtain ⟨s,hs,_,hsz⟩ := DataW.trod_string Tryz.underlying9 g1
 refine ⟨⟨d,s⟩,hd,hsz,?_⟩
 have h9 : cs = (cs.drop 0).take 32 ++ (cs.drop 32).take 1 := by
  have e1 : cs.drop 32 = (cs.drop 32).take 1 := (List.take_of_length_le (by rw [List.length_drop]; omega)).symm
  rw [← e1,List.drop_zero,List.take_append_drop]
 have g0' : (cs.drop 0).take 32 = dgc d := hd2
 have g1' : (cs.drop 32).take 1 = [.string s] := hs
 rw [g0',g1'] at h9
 exact h9
theorem wf_u8 (n : Int) (h : (Lit.int .u8 n).wf = true) : 0 ≤ n ∧ n < ((256 : Nat) : Int) := by
 simp [Lit.wf,IntKind.min,IntKind.max,IntKind.signed,IntKind.bits] at h
 omega
structure OIn (w : World) (o : OM) (Rl : List (Nat × Obj)) : Prop where
 h : Has w Rl
 i : InO Rl o
 u : ∀ r ∈ o.m.rs,∀ n ∈ r.xs,n < 4294967296
 n : o.c.n < 18446744073709551616
 t1 : o.c.t.size ≤ 9223372036854775807
 t2 : o.t.t.size ≤ 9223372036854775807
theorem obj_open {H : Type} {enc : TypeId × Value → H} {w : World} {base : Nat} {held : Bool} (cs : List Value) (fuel : Nat) (y : DataW H × List MemPlace) (h : DataW.trod enc Tryz.prog w base (fun _ => true) held fuel 38 cs = some y) (hw : (y.1.weights Tryz.prog 38).all (· ≤ reachBytes) = true) :
  ∃ (o : OM) (Rl : LO),OIn w o Rl ∧ cs = oc o := by
 obtain ⟨xs,n,_,rfl,hl,hlen,hf⟩ := DataW.trod_struct Tryz.underlying38 h
 have c0 : Tryz.prog.cellsOf 5 = 1 := by kernel_rfl
 have c1 : Tryz.prog.cellsOf 28 = 3 := by kernel_rfl
 have c2 : Tryz.prog.cellsOf 34 = 35 := by kernel_rfl
 have c3 : Tryz.prog.cellsOf 36 = 33 := by kernel_rfl
 have cO : Tryz.prog.cellsOf 38 = 72 := by kernel_rfl
 rw [cO] at hl
 have hws := weights_struct Tryz.underlying38 hw
 match xs,hlen with
 | [y0,y1,y2,y3],_ =>
  have h0 : DataW.trod enc Tryz.prog w base (fun _ => true) held n 5 ((cs.drop 0).take 1) = some y0 := by have q := hf 0 ⟨ "Kind",5,0,false,"","",0⟩ rfl; simp only [c0] at q; exact q
  have h1 : DataW.trod enc Tryz.prog w base (fun _ => true) held n 28 ((cs.drop 1).take 3) = some y1 := by have q := hf 1 ⟨ "Map",28,1,false,"","",8⟩ rfl; simp only [c1] at q; exact q
  have h2 : DataW.trod enc Tryz.prog w base (fun _ => true) held n 34 ((cs.drop 4).take 35) = some y2 := by have q := hf 2 ⟨ "Commit",34,4,false,"","",80⟩ rfl; simp only [c2] at q; exact q
  have h3 : DataW.trod enc Tryz.prog w base (fun _ => true) held n 36 ((cs.drop 39).take 33) = some y3 := by have q := hf 3 ⟨ "Tag",36,39,false,"","",160⟩ rfl; simp only [c3] at q; exact q
  have w1 := (weights_cons (weights_cons hws).2).1
  have w2 := (weights_cons (weights_cons (weights_cons hws).2).2).1
  obtain ⟨k,hk,_,wk⟩ := DataW.trod_int Tryz.underlying5 h0
  have qk := wf_u8 k wk
  obtain ⟨m,Rm,hRm,hM,hum,hm⟩ := map_open _ _ _ h1 w1
  obtain ⟨c,Rc,hRc,hC,⟨hcn,hct⟩,hc⟩ := com_open _ _ _ h2 w2
  obtain ⟨t,htd,htt,ht⟩ := tag_open _ _ _ h3
  refine ⟨⟨k.toNat,m,c,t⟩,Rm ++ Rc,⟨Has.app hRm hRc,⟨hM.mono (fun e he => mL he),hC.mono (fun e he => mR he),htd⟩,hum,hcn,hct,htt⟩,?_⟩
  have h9 : cs = (cs.drop 0).take 1 ++ ((cs.drop 1).take 3 ++ ((cs.drop 4).take 35 ++ (cs.drop 39).take 33)) := by
   have e1 : cs.drop 39 = (cs.drop 39).take 33 := (List.take_of_length_le (by rw [List.length_drop]; omega)).symm
   have e2 : cs.drop 4 = (cs.drop 4).take 35 ++ cs.drop 39 := by rw [show cs.drop 39 = (cs.drop 4).drop 35 by rw [List.drop_drop],List.take_append_drop]
   have e3 : cs.drop 1 = (cs.drop 1).take 3 ++ cs.drop 4 := by rw [show cs.drop 4 = (cs.drop 1).drop 3 by rw [List.drop_drop],List.take_append_drop]
   rw [← e1,← e2,← e3,List.drop_zero,List.take_append_drop]
  rw [hk,hm,hc,ht] at h9
  refine h9.trans ?_
  show [Value.int .u8 k] ++ ([.slice m.va m.vs.length m.vc,.slice m.ea m.es.length m.ec,.slice m.ra m.rs.length m.rc] ++ (cc c ++ tc t)) = .int .u8 (k.toNat : Int) :: .slice m.va m.vs.length m.vc :: .slice m.ea m.es.length m.ec :: .slice m.ra m.rs.length m.rc :: (cc c ++ tc t)
  rw [Int.toNat_of_nonneg qk.1]
  rfl
end Go.Proofs.YtbeeelgfhfmgbaaGreatDoor
