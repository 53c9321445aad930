/- Texts on which the proof of this claim stands: PkAt, PkAu, PkAw, ShaA, Dlt5, PkO, PkAx. -/
import Derived.Test.YtbeegepcdglcaaaGreatDoorP8
import Derived.Test.YtbeegepcdglcaaaGreatDoorP1
import Derived.Test.YtbeegepcdglcaaaGreatDoorP5
import Derived.Test.YtbeegepcdglcaaaGreatDoorP3
namespace Go.Proofs.YtbeegepcdglcaaaGreatDoor
open K
set_option linter.unusedVariables false
theorem dR_start {l : List UInt8} (hl : l.length ≤ 3000) : (fourF (rdZ l)).2.er = 0 → (fourF (rdZ l)).2.rest.length + 32 * 0 ≤ 3000 := by
 intro h
 obtain ⟨h3,h4⟩ := next_er (z := rdZ l) (n := 4) h
 obtain ⟨h5,h6⟩ := next_er (z := ⟨0,l⟩) (n := 4) h3
 have h8 : (fourF (rdZ l)).2.rest.length + (4 : Int).toNat ≤ (rdZ l).rest.length := h4
 have h9 : (rdZ l).rest.length + (4 : Int).toNat ≤ l.length := h6
 omega
theorem txO_size {is : List (List UInt8)} {ts : List ByteArray} {d : List UInt8} (hl : is.length = ts.length) (h : ∀ t ∈ ts,t.size ≤ 32768) : (txO is ts d).size ≤ 32768 := by
 unfold txO
 cases hj : atF is d with
 | none => exact Nat.zero_le _
 | some j =>
  have := atF_lt hj
  exact h _ (K.getD_mem om)
theorem all32_snoc {is : List (List UInt8)} (h : ∀ d ∈ is,d.length = 32) {x : List UInt8} (hx : x.length = 32) : ∀ d ∈ is ++ [x],d.length = 32 := fun d hd => (List.mem_append.1 hd).elim (h d) (fun h2 => by rw [List.mem_singleton.1 h2]; exact hx)
theorem allS_snoc {ts : List ByteArray} (h : ∀ t ∈ ts,t.size ≤ 32768) {x : ByteArray} (hx : x.size ≤ 32768) : ∀ t ∈ ts ++ [x],t.size ≤ 32768 := fun d hd => (List.mem_append.1 hd).elim (h d) (fun h2 => by rw [List.mem_singleton.1 h2]; exact hx)
set_option maxRecDepth 100000 in
set_option maxHeartbeats 8000000 in
theorem rOpen21 (s : List UInt8) (w : World) (hs : s.length ≤ 3000) :
  Calls Tryz.prog 13 #[.string (tx s)] w fun e w' => ∃ ow : K.Own,OwnOk ow 66 (docO s).2.length ((docO s).2.flatMap enr) ∧ e = .returned (.tuple #[.slice (Own.a ow) (docO s).2.length (Own.c ow),.int .i64 (docO s).1]) ∧ ∃ R1,HP w [] R1 (Own.o 49 ((docO s).2.flatMap enr) ow) w' := by
 have hts := tx_size s
 have htb := tx_size (bodyOf s)
 have hbl : (bodyOf s).length = s.length - 32 := by unfold bodyOf; rw [List.length_take]; omega
 have hN4 := fourF_lt (rdZ (bodyOf s))
 refine enter (vs := [.string (tx s)]) [] [] [] Tryz.func13 rfl kr (HP.start w) ?_
 refine Rg [0] [] n0 trivial ?_
 refine Rg [0,19] [] n0 trivial ?_
 refine Cfg.cond rfl (b := (decide (((tx s).size : Int) < (32 : Int)))) kr (fun c1r => ?_) (fun c1r => ?_)
 ·have c1 := (dT c1r)
  refine Rg [2,3] [] n0 trivial ?_
  refine Cfg.ret rfl (rs := [.tmp 2,.tmp 3]) rfl [.slice none 0 0,.int .i64 3] ⟨kr,by kernel_rfl,trivial⟩ (fun w1 hp => ?_)
  have hx : docO s = _ := docO_short om
  rw [hx]
  exact ⟨none,OwnOk.none _,rfl,_,hp.sub (List.nil_sublist _)⟩
 ·have c1 := (dF c1r)
  refine Rg [0,4] [] (fun _ => [(i6 (((tx s).size : Int) - 32)),(0 ≤ (((tx s).size : Int) - 32)),(0 ≤ ((((tx s).size : Int) - 32)).toNat ∧ ((((tx s).size : Int) - 32)).toNat ≤ (tx s).size)]) ⟨om,om,om,trivial⟩ ?_
  refine Cfg.setS 4 (congrArg Value.string (show ((tx s).extract 0 (((((tx s).size : Int) - 32)).toNat)) = (tx (bodyOf s)) from cut_body om)) ?_
  have hcs : (tx s).extract (((tx s).size : Int) - 32).toNat (tx s).size = tx (s.drop (s.length - 32)) := by rw [show (((tx s).size : Int) - 32).toNat = s.length - 32 by omega]; exact tx_drop s _
  refine Cfg.begA rfl kr [] ?_
  refine Ap [0,3,4,5,6,7] [] (some [0,4,25,32]) (bF 249 9) .slnil 3 (fun _ => [(i6 (((tx s).size : Int) - 32)),(0 ≤ (((tx s).size : Int) - 32)),(((((tx s).size : Int) - 32)).toNat ≤ (tx s).size ∧ (tx s).size ≤ (tx s).size)]) ⟨om,om,om,trivial⟩ ?_
  refine Ae 1 rfl 2  (Eff.callA (vs := [.string (tx (bodyOf s))]) (.agg (bv (shaD (bodyOf s)))) rfl Tryz.func12 rfl rfl kr (fun w1 _ => (rSum (tx (bodyOf s)) w1 om))) (fun _ _ => List.nil_sublist _) ?_
  rintro ⟨⟩ -
  refine Ae 2 rfl 1  (Eff.callA (vs := [.agg (bv (shaD (bodyOf s)))]) (.string (tx (shaD (bodyOf s)))) rfl Tryz.func11 rfl rfl kr (fun w1 _ => rDigest (shaD (bodyOf s)) w1 (shaD_len _))) (fun _ _ => List.nil_sublist _) ?_
  rintro ⟨⟩ -
  refine Ap [8] [] (some [0,4,33]) (tF 9 0) .slnil 0 n0 trivial ?_
  refine CfgA.done kr ?_
  refine Cfg.cond rfl (b := (!((tx (shaD (bodyOf s))).toList == ((tx s).extract (((((tx s).size : Int) - 32)).toNat) ((tx s).size)).toList))) kr (fun c2r => ?_) (fun c2r => ?_)
  ·have c2 : (((tx (shaD (bodyOf s))).toList == ((tx s).extract (((((tx s).size : Int) - 32)).toNat) ((tx s).size)).toList) = false) := (notT c2r)
   rw [hcs,tx_eq] at c2
   have hsum0 : ¬ shaD (bodyOf s) = s.drop (s.length - 32) := by simpa using c2
   have hsum : s.drop (s.length - 32) ≠ shaD (bodyOf s) := fun h => hsum0 h.symm
   refine Rg [2,3] [] n0 trivial ?_
   refine Cfg.ret rfl (rs := [.tmp 2,.tmp 3]) rfl [.slice none 0 0,.int .i64 10] ⟨kr,by kernel_rfl,trivial⟩ (fun w1 hp => ?_)
   have hx : docO s = _ := docO_sum om hsum
   rw [hx]
   exact ⟨none,OwnOk.none _,rfl,_,hp.sub (List.nil_sublist _)⟩
  ·have c2 : (((tx (shaD (bodyOf s))).toList == ((tx s).extract (((((tx s).size : Int) - 32)).toNat) ((tx s).size)).toList) = true) := (notF c2r)
   rw [hcs,tx_eq] at c2
   have hsum0 : shaD (bodyOf s) = s.drop (s.length - 32) := by simpa using c2
   have hsum : ¬ s.drop (s.length - 32) ≠ shaD (bodyOf s) := fun h => h hsum0.symm
   refine Cfg.begL rfl ?_
   refine Lp 2 [dZ,(dS (.agg (inR ⟨0,bodyOf s⟩)))] (some [0,35]) (fun S => [(∀ w1,S w1 → (Instr.build 76 #[(0,.string (tx (bodyOf s)))]).run Tryz.prog w1 = .ok (.agg (inR ⟨0,bodyOf s⟩)) w1)]) ⟨(fun _ _ => kr),trivial⟩ ?_
   refine Le (Eff.box (v := .agg (inR ⟨0,bodyOf s⟩)) rfl kr) ?_
   rintro ib ⟨hib,nib⟩
   refine Lp 1 [] (some [0,5]) n0 trivial ?_
   refine CfgL.done rfl ?_
   refine Cfg.begL rfl ?_
   refine Lp 1 [] none n0 trivial ?_
   refine Le (Eff.callM (vs := [pT ib,.int .i64 4]) (.string (tx (nextF ⟨0,bodyOf s⟩ 4).1)) 0 (b := ib) (ob := .cells (inR ⟨0,bodyOf s⟩) 76 (0,0)) (.cells (inR (rdZ (bodyOf s))) 76 (0,0)) rfl Tryz.func30 rfl rfl kr kr (fun w1 h => rRaw ib ⟨0,bodyOf s⟩ 4 w1 (h.own (ib,Obj.cells (inR ⟨0,bodyOf s⟩) 76 (0,0)) (show (ib,Obj.cells (inR ⟨0,bodyOf s⟩) 76 (0,0)) ∈ ([(ib,Obj.cells (inR ⟨0,bodyOf s⟩) 76 (0,0))] : LO) from (mG 0 rfl))))) ?_
   rintro ⟨⟩ -
   refine Lp 1 [] (some [0,5,39]) n0 trivial ?_
   refine CfgL.done rfl ?_
   refine Cfg.cond rfl (b := (!((tx (nextF ⟨0,bodyOf s⟩ 4).1).toList == (⟨#[80,65,67,75]⟩ : ByteArray).toList))) kr (fun c3r => ?_) (fun c3r => ?_)
   ·have c3 : (((tx (nextF ⟨0,bodyOf s⟩ 4).1).toList == (⟨#[80,65,67,75]⟩ : ByteArray).toList) = false) := (notT c3r)
    rw [magic_eq] at c3
    have hmg0 : ¬ (nextF ⟨0,bodyOf s⟩ 4).1 = [80,65,67,75] := by simpa using c3
    refine Cfg.reg rfl [2,3] [] (Γ' := [(3,[],.int .i64 4),(2,[],.slice none 0 0)]) (nd := (fun _ => [])) (fun _ => kr) trivial ?_
    refine Cfg.ret rfl (rs := [.tmp 2,.tmp 3]) rfl [.slice none 0 0,.int .i64 4] ⟨kr,by kernel_rfl,trivial⟩ (fun w1 hp => ?_)
    have hx : docO s = _ := docO_head om hsum hmg0
    rw [hx]
    exact ⟨none,OwnOk.none _,rfl,_,hp.sub (List.nil_sublist _)⟩
   ·have c3 : (((tx (nextF ⟨0,bodyOf s⟩ 4).1).toList == (⟨#[80,65,67,75]⟩ : ByteArray).toList) = true) := (notF c3r)
    rw [magic_eq] at c3
    have hmg0 : (nextF ⟨0,bodyOf s⟩ 4).1 = [80,65,67,75] := by simpa using c3
    refine Cfg.begL rfl ?_
    refine Lp 1 [] (some [0,5,40]) n0 trivial ?_
    refine Le (Eff.callM (vs := [pT ib,.int .i64 4]) (.int .u64 ((fourF (rdZ (bodyOf s))).1 : Int)) 0 (b := ib) (ob := .cells (inR (rdZ (bodyOf s))) 76 (0,0)) (.cells (inR ((fourF (rdZ (bodyOf s))).2)) 76 (0,0)) rfl Tryz.func31 rfl rfl kr kr (fun w1 h => (by have h9 := rNumI ib (rdZ (bodyOf s)) 4 w1 (h.own (ib,Obj.cells (inR (rdZ (bodyOf s))) 76 (0,0)) (show (ib,Obj.cells (inR (rdZ (bodyOf s))) 76 (0,0)) ∈ ([(ib,Obj.cells (inR (rdZ (bodyOf s))) 76 (0,0))] : LO) from (mG 0 rfl))) (by decide); rw [show valF (nextF (rdZ (bodyOf s)) ((4 : Nat) : Int)).1 = (fourF (rdZ (bodyOf s))).1 from (fourF_val _).symm] at h9; exact h9))) ?_
    rintro ⟨⟩ -
    refine Lp 1 [] (some [0,5,6]) n0 trivial ?_
    refine CfgL.done rfl ?_
    refine Rg [0,5,6,7] [] n0 trivial ?_
    refine Rg [0,5,6,7,8] [] n0 trivial ?_
    refine Rg [0,5,6,7,8,9] [] n0 trivial ?_
    refine Cfg.loop rfl (ι := Nat × IN × List (List UInt8) × List ByteArray × K.Own × K.Own) (fun (xz : Nat × IN × List (List UInt8) × List ByteArray × K.Own × K.Own) => match xz with | (k,z,is,ts,oi,ot) => [(9,[],.int .u64 (k : Int)),(8,[],.slice (Own.a ot) ts.length (Own.c ot)),(7,[],.slice (Own.a oi) is.length (Own.c oi)),(6,[],.int .u64 ((fourF (rdZ (bodyOf s))).1 : Int)),(5,[],pT ib),(0,[],.string (tx s))]) (fun (xz : Nat × IN × List (List UInt8) × List ByteArray × K.Own × K.Own) => match xz with | (k,z,is,ts,oi,ot) => ([(ib,.cells (inR z) 76 (0,0))] ++ (Own.o 36 (is.flatMap dgc) oi ++ (Own.o 9 (ts.map Value.string) ot ++ [])))) (fun (xz : Nat × IN × List (List UInt8) × List ByteArray × K.Own × K.Own) => match xz with | (k,z,is,ts,oi,ot) => (k ≤ (fourF (rdZ (bodyOf s))).1) ∧ (dlF ((fourF (rdZ (bodyOf s))).1 - k) z is ts = dR (bodyOf s)) ∧ (is.length = k) ∧ (ts.length = k) ∧ (∀ d ∈ is,d.length = 32) ∧ (∀ t ∈ ts,t.size ≤ 32768) ∧ (z.er = 0 → z.rest.length + 32 * k ≤ 3000) ∧ (OwnOk oi 32 is.length (is.flatMap dgc)) ∧ (OwnOk ot 1 ts.length (ts.map Value.string))) (fun (xz : Nat × IN × List (List UInt8) × List ByteArray × K.Own × K.Own) => match xz with | (k,z,is,ts,oi,ot) => (fourF (rdZ (bodyOf s))).1 - k) (0,(fourF (rdZ (bodyOf s))).2,[],[],none,none) ?_ (Conv.mk kr) slr ?_
    ·exact ⟨Nat.zero_le _,rfl,rfl,rfl,(fun d hd => by cases hd),(fun d hd => by cases hd),dR_start om,OwnOk.none _,OwnOk.none _⟩
    ·rintro ⟨k,z,is,ts,oi,ot⟩ ⟨hk,hra,hil,htl,h32,hsz,hbd,hoi,hot⟩
     refine Rg [0,5,6,7,8,9,51] [dZ,dZ,dZ,dZ,dZ,dZ,dZ,(dS (.int .i64 z.er))] (fun S => [((.bool (decide ((k : Int) < ((fourF (rdZ (bodyOf s))).1 : Int))) : Value) = .bool true → (cE S ib 1 (.int .i64 z.er)))]) ⟨(fun g0 => have q0 : ((k : Int) < ((fourF (rdZ (bodyOf s))).1 : Int)) := (dT (boolV g0)); (oC 0 rfl rfl)),trivial⟩ ?_
     refine Cfg.cond rfl (b := ((decide ((k : Int) < ((fourF (rdZ (bodyOf s))).1 : Int))) && (z.er == (0 : Int)))) kr (fun c4r => ?_) (fun c4r => ?_)
     ·have c4 : (((k : Int) < ((fourF (rdZ (bodyOf s))).1 : Int)) ∧ (z.er = (0 : Int))) := ⟨(dT (andT1 c4r)),(beq_iff_eq.1 (andT2 c4r))⟩
      refine Cfg.begL rfl ?_
      refine Lp 1 [] (some [0,5,6,7,8,9,54]) n0 trivial ?_
      refine Le (Eff.callM (vs := [pT ib]) (.agg (bv (digF z).1)) 0 (b := ib) (ob := .cells (inR z) 76 (0,0)) (.cells (inR ((digF z).2)) 76 (0,0)) rfl Tryz.func32 rfl rfl kr kr (fun w1 h => rDigI ib z w1 (h.own (ib,Obj.cells (inR z) 76 (0,0)) (show (ib,Obj.cells (inR z) 76 (0,0)) ∈ (([(ib,Obj.cells (inR z) 76 (0,0))] ++ (Own.o 36 (is.flatMap dgc) oi ++ (Own.o 9 (ts.map Value.string) ot ++ []))) : LO) from (mL (mG 0 rfl)))))) ?_
      rintro ⟨⟩ -
      refine Le (Eff.alloc (z := (.agg (bv (List.replicate 32 0)))) rfl kr) ?_
      rintro db ⟨hdb,ndb⟩
      refine Le (Eff.storeN (b := db) (off := 0) (vs := (bv (digF z).1)) (n := 32) rfl kr kr kr ((bv_size _).trans (digF_len _)) (all_bv _) 0 (cs := (bv (List.replicate 32 0))) (e := 36) kr (by rw [zdg_size]; omega)) ?_
      rintro ⟨⟩ -
      refine CfgL.setO (congrArg (fun (xq : Array Value) => (([(db,.cells xq 36 (0,0)),(ib,.cells (inR ((digF z).2)) 76 (0,0))] ++ (Own.o 36 (is.flatMap dgc) oi ++ (Own.o 9 (ts.map Value.string) ot ++ []))) : LO)) (show _ = (bv ((digF z).1)) from spl_all (((bv_size _).trans (digF_len _)).trans zdg_size.symm))) ?_
      refine CfgL.done rfl ?_
      refine Cg (Γ' := [(10,[],pT db),(9,[],.int .u64 (k : Int)),(8,[],.slice (Own.a ot) ts.length (Own.c ot)),(7,[],.slice (Own.a oi) is.length (Own.c oi)),(6,[],.int .u64 ((fourF (rdZ (bodyOf s))).1 : Int)),(5,[],pT ib),(0,[],.string (tx s))]) ?_
      refine Rg [0,5,6,7,8,9,10] [] n0 trivial ?_
      refine Cfg.begL rfl ?_
      refine Lp 1 [] none n0 trivial ?_
      refine Le (Eff.callM (vs := [pT ib,.int .i64 1]) (.int .u64 ((byteF (digF z).2).1 : Int)) 1 (b := ib) (ob := .cells (inR (digF z).2) 76 (0,0)) (.cells (inR ((byteF (digF z).2).2)) 76 (0,0)) rfl Tryz.func31 rfl rfl kr kr (fun w1 h => (by have h9 := rNumI ib (digF z).2 1 w1 (h.own (ib,Obj.cells (inR ((digF z).2)) 76 (0,0)) (show (ib,Obj.cells (inR ((digF z).2)) 76 (0,0)) ∈ (([(db,Obj.cells (bv ((digF z).1)) 36 (0,0)),(ib,Obj.cells (inR ((digF z).2)) 76 (0,0))] ++ (Own.o 36 (is.flatMap dgc) oi ++ (Own.o 9 (ts.map Value.string) ot ++ []))) : LO) from (mL (mG 1 rfl)))) (by decide); rw [byte_val] at h9; exact h9))) ?_
      rintro ⟨⟩ -
      refine Lp 1 [] (some [0,5,6,7,8,9,10,58]) n0 trivial ?_
      refine CfgL.done rfl ?_
      refine Cfg.cond rfl (b := (((byteF (digF z).2).1 : Int) == (0 : Int))) kr (fun c5r => ?_) (fun c5r => ?_)
      ·have c5 := (beq_iff_eq.1 c5r)
       refine Cfg.begL rfl ?_
       refine Lp 1 [] (some [0,5,6,7,8,9,10,59]) n0 trivial ?_
       refine Le (Eff.callM (vs := [pT ib,.int .i64 32768]) (.string (tx (textF (byteF (digF z).2).2 32768).1)) 1 (b := ib) (ob := .cells (inR (byteF (digF z).2).2) 76 (0,0)) (.cells (inR ((textF (byteF (digF z).2).2 32768).2)) 76 (0,0)) rfl Tryz.func33 rfl rfl kr kr (fun w1 h => rTextI ib (byteF (digF z).2).2 32768 w1 (h.own (ib,Obj.cells (inR ((byteF (digF z).2).2)) 76 (0,0)) (show (ib,Obj.cells (inR ((byteF (digF z).2).2)) 76 (0,0)) ∈ (([(db,Obj.cells (bv ((digF z).1)) 36 (0,0)),(ib,Obj.cells (inR ((byteF (digF z).2).2)) 76 (0,0))] ++ (Own.o 36 (is.flatMap dgc) oi ++ (Own.o 9 (ts.map Value.string) ot ++ []))) : LO) from (mL (mG 1 rfl)))) (by decide))) ?_
       rintro ⟨⟩ -
       refine Lp 1 [] (some [0,5,6,7,8,9,10,11]) n0 trivial ?_
       refine CfgL.done rfl ?_
       have hE : docE (digF z).2 is ts = _ := docE_0 is ts om
       refine Cfg.setS 11 (congrArg Value.string (show (tx (textF (byteF (digF z).2).2 32768).1) = (docE (digF z).2 is ts).1 from by rw [hE])) ?_
       refine Cfg.setO (congrArg (fun (xq : Array Value) => (([(db,.cells (bv ((digF z).1)) 36 (0,0)),(ib,.cells xq 76 (0,0))] ++ (Own.o 36 (is.flatMap dgc) oi ++ (Own.o 9 (ts.map Value.string) ot ++ []))) : LO)) (show _ = (inR ((docE (digF z).2 is ts).2)) from by rw [hE])) ?_
       refine Cfg.begL rfl ?_
       refine Lp 2 [dZ,(dS (.agg (bv ((digF z).1))))] (some [0,5,6,7,8,9,11,79,80]) (fun S => [(∀ w1,S w1 → (loadVar 36 ⟨db,0,none⟩).run Tryz.prog w1 = .ok (.agg (bv ((digF z).1))) w1)]) ⟨(fun w1 h => h.oload 0 rfl Tryz.underlying36 rfl (n := 32) kr ((bv_size _).trans (digF_len _))),trivial⟩ ?_
       refine Le (Eff.buildAgg (vs := (bv ((digF z).1))) (n := 32) rfl kr Tryz.underlying57 kr (z := (.agg (bv (List.replicate 32 0)))) kr ((bv_size _).trans (digF_len _)) (by decide) (by decide)) ?_
       rintro eb ⟨heb,neb⟩
       refine Le (Eff.appendF rfl 32 32 Tryz.underlying57 kr (z := (.agg (bv (List.replicate 32 0)))) kr kr oi (xs := (is.flatMap dgc)) hoi kr (b2 := eb) (off2 := 0) (m := 1) (c2 := 1) kr (dgc ((digF z).1)) (dgc_len (digF_len _)) (all_dgc _) [(eb,.cells (bv ((digF z).1)) 36 (0,0)),(db,.cells (bv ((digF z).1)) 36 (0,0)),(ib,.cells (inR ((docE (digF z).2 is ts).2)) 76 (0,0))] ([] ++ (Own.o 9 (ts.map Value.string) ot ++ [])) (by rfl) (fun w1 h j v hj => by rw [Nat.zero_add]; exact h.ocell 0 rfl (by rw [← Array.getElem?_toList]; exact hj)) om om) ?_
       rintro o8 ko8
       refine Lp 1 [] (some [0,5,6,7,8,9,11]) n0 trivial ?_
       refine CfgL.done rfl ?_
       refine Cfg.begL rfl ?_
       refine Lp 2 [] (some [0,5,6,7,8,9,83,84]) n0 trivial ?_
       refine Le (Eff.buildSlice (e := 9) (cells := #[.string (docE (digF z).2 is ts).1]) (parts := #[(0,.string (docE (digF z).2 is ts).1)]) rfl kr (fun _ => kr)) ?_
       rintro tb ⟨htb,ntb⟩
       refine Le (Eff.appendF rfl 1 16 Tryz.underlying22 kr (z := (.string ByteArray.empty)) kr kr ot (xs := (ts.map Value.string)) hot kr (b2 := tb) (off2 := 0) (m := 1) (c2 := 1) kr ([Value.string (docE (digF z).2 is ts).1]) rfl (fun q hq => by rw [List.mem_singleton.1 hq]; rfl) ([(tb,.cells #[.string (docE (digF z).2 is ts).1] 9 (0,0)),(eb,.cells (bv ((digF z).1)) 36 (0,0)),(db,.cells (bv ((digF z).1)) 36 (0,0)),(ib,.cells (inR ((docE (digF z).2 is ts).2)) 76 (0,0))] ++ Own.o 36 ((is.flatMap dgc) ++ (dgc ((digF z).1))) o8) [] (by rfl) (fun w1 h j v hj => by rw [Nat.zero_add]; exact h.ocell 0 rfl (by rw [← Array.getElem?_toList]; exact hj)) om om) ?_
       rintro o9 ko9
       refine Lp 1 [] (some [0,5,6,7,8,9]) n0 trivial ?_
       refine CfgL.done rfl ?_
       refine Rg [0,5,6,7,8,9] [] n0 trivial ?_
       refine Cfg.setO (congrArg (fun (xq : List Value) => (([(tb,.cells #[.string (docE (digF z).2 is ts).1] 9 (0,0)),(eb,.cells (bv ((digF z).1)) 36 (0,0)),(db,.cells (bv ((digF z).1)) 36 (0,0)),(ib,.cells (inR ((docE (digF z).2 is ts).2)) 76 (0,0))] ++ (Own.o 36 xq o8 ++ (Own.o 9 ((ts.map Value.string) ++ [Value.string (docE (digF z).2 is ts).1]) o9 ++ []))) : LO)) (show _ = ((is ++ [(digF z).1]).flatMap dgc) from by rw [List.flatMap_append,List.flatMap_singleton])) ?_
       refine Cfg.setO (congrArg (fun (xq : List Value) => (([(tb,.cells #[.string (docE (digF z).2 is ts).1] 9 (0,0)),(eb,.cells (bv ((digF z).1)) 36 (0,0)),(db,.cells (bv ((digF z).1)) 36 (0,0)),(ib,.cells (inR ((docE (digF z).2 is ts).2)) 76 (0,0))] ++ (Own.o 36 ((is ++ [(digF z).1]).flatMap dgc) o8 ++ (Own.o 9 xq o9 ++ []))) : LO)) (show _ = ((ts ++ [(docE (digF z).2 is ts).1]).map Value.string) from by rw [List.map_append]; rfl)) ?_
       refine Cfg.setS 9 (congrArg (fun (xq : Int) => (.int .u64 xq : Value)) (show (((k : Int) + 1) % 18446744073709551616) = (((k + 1) : Nat) : Int) from by omega)) ?_
       refine Cfg.setS 7 (congrArg (fun (xq : Nat) => (.slice (Own.a o8) xq (Own.c o8) : Value)) (show ((is.length + 1)) = ((is ++ [(digF z).1]).length) from by rw [List.length_append]; rfl)) ?_
       refine Cfg.setS 8 (congrArg (fun (xq : Nat) => (.slice (Own.a o9) xq (Own.c o9) : Value)) (show ((ts.length + 1)) = ((ts ++ [(docE (digF z).2 is ts).1]).length) from by rw [List.length_append]; rfl)) ?_
       refine Cfg.again rfl (k + 1,(docE (digF z).2 is ts).2,is ++ [(digF z).1],ts ++ [(docE (digF z).2 is ts).1],o8,o9) ⟨by omega,dl_step om om hra,by rw [List.length_append,hil]; rfl,by rw [List.length_append,htl]; rfl,all32_snoc h32 (digF_len _),allS_snoc hsz (docE_size _ _ _),(fun h9 => by obtain ⟨h1,h2⟩ := ent_er h9; have := hbd h1; omega),by rw [List.flatMap_append,List.flatMap_singleton,List.length_append]; exact ko8,by rw [List.map_append,List.length_append]; exact ko9⟩ (by show (fourF (rdZ (bodyOf s))).1 - (k + 1) < (fourF (rdZ (bodyOf s))).1 - k; omega) (Conv.mk kr) (.cons _ (.cons _ (.cons _ slr)))
      ·have c5 := (beq_eq_false_iff_ne.1 c5r)
       refine Cfg.begL rfl ?_
       refine Lp 3 [] (some [0,5,6,7,8,9,10,61,62,63]) n0 trivial ?_
       refine Le (Eff.callM (vs := [pT ib]) (.agg (bv (digF (byteF (digF z).2).2).1)) 1 (b := ib) (ob := .cells (inR (byteF (digF z).2).2) 76 (0,0)) (.cells (inR ((digF (byteF (digF z).2).2).2)) 76 (0,0)) rfl Tryz.func32 rfl rfl kr kr (fun w1 h => rDigI ib (byteF (digF z).2).2 w1 (h.own (ib,Obj.cells (inR ((byteF (digF z).2).2)) 76 (0,0)) (show (ib,Obj.cells (inR ((byteF (digF z).2).2)) 76 (0,0)) ∈ (([(db,Obj.cells (bv ((digF z).1)) 36 (0,0)),(ib,Obj.cells (inR ((byteF (digF z).2).2)) 76 (0,0))] ++ (Own.o 36 (is.flatMap dgc) oi ++ (Own.o 9 (ts.map Value.string) ot ++ []))) : LO) from (mL (mG 1 rfl)))))) ?_
       rintro ⟨⟩ -
       refine Le (Eff.callA (vs := [.slice (Own.a oi) is.length (Own.c oi),.slice (Own.a ot) ts.length (Own.c ot),.agg (bv (digF (byteF (digF z).2).2).1)]) (.string (txO is ts (digF (byteF (digF z).2).2).1)) rfl Tryz.func34 rfl rfl kr (fun w1 h => rText21 oi ot is ts (digF (byteF (digF z).2).2).1 ([(db,Obj.cells (bv ((digF z).1)) 36 (0,0)),(ib,Obj.cells (inR ((digF (byteF (digF z).2).2).2)) 76 (0,0))] ++ (Own.o 36 (is.flatMap dgc) oi ++ (Own.o 9 (ts.map Value.string) ot ++ []))) w1 hoi hot (fun e he => (show _ ∈ (([(db,Obj.cells (bv ((digF z).1)) 36 (0,0)),(ib,Obj.cells (inR ((digF (byteF (digF z).2).2).2)) 76 (0,0))] ++ (Own.o 36 (is.flatMap dgc) oi ++ (Own.o 9 (ts.map Value.string) ot ++ []))) : LO) from (mR (mL he)))) (fun e he => (show _ ∈ (([(db,Obj.cells (bv ((digF z).1)) 36 (0,0)),(ib,Obj.cells (inR ((digF (byteF (digF z).2).2).2)) 76 (0,0))] ++ (Own.o 36 (is.flatMap dgc) oi ++ (Own.o 9 (ts.map Value.string) ot ++ []))) : LO) from (mR (mR (mL he))))) om h32 (digF_len _) (fun e he => h.own e he) om)) ?_
       rintro ⟨⟩ -
       refine Lp 1 [] (some [0,5,6,7,8,9,10,12]) n0 trivial ?_
       refine CfgL.done rfl ?_
       refine Cfg.begL rfl ?_
       refine Lp 2 [] (some [0,5,6,7,8,9,10,67,68]) n0 trivial ?_
       refine Le (Eff.callM (vs := [pT ib,.int .i64 32768]) (.string (tx (textF (digF (byteF (digF z).2).2).2 32768).1)) 1 (b := ib) (ob := .cells (inR (digF (byteF (digF z).2).2).2) 76 (0,0)) (.cells (inR ((textF (digF (byteF (digF z).2).2).2 32768).2)) 76 (0,0)) rfl Tryz.func33 rfl rfl kr kr (fun w1 h => rTextI ib (digF (byteF (digF z).2).2).2 32768 w1 (h.own (ib,Obj.cells (inR ((digF (byteF (digF z).2).2).2)) 76 (0,0)) (show (ib,Obj.cells (inR ((digF (byteF (digF z).2).2).2)) 76 (0,0)) ∈ (([(db,Obj.cells (bv ((digF z).1)) 36 (0,0)),(ib,Obj.cells (inR ((digF (byteF (digF z).2).2).2)) 76 (0,0))] ++ (Own.o 36 (is.flatMap dgc) oi ++ (Own.o 9 (ts.map Value.string) ot ++ []))) : LO) from (mL (mG 1 rfl)))) (by decide))) ?_
       rintro ⟨⟩ -
       refine Le (Eff.callA (vs := [.string (txO is ts (digF (byteF (digF z).2).2).1),.string (tx (textF (digF (byteF (digF z).2).2).2 32768).1)]) (.tuple #[.string (tx (docR (digF z).2 is ts).1),.int .i64 (docR (digF z).2 is ts).2]) rfl Tryz.func35 rfl rfl kr (fun w1 _ => rApply (txO is ts (digF (byteF (digF z).2).2).1) (textF (digF (byteF (digF z).2).2).2 32768).1 w1 (Nat.le_trans (txO_size om hsz) (by decide)) (Nat.le_trans (textF_len _ 32768) (by decide)))) ?_
       rintro ⟨⟩ -
       refine Lp 5 [] (some [0,5,6,7,8,9,10,13,14]) n0 trivial ?_
       refine CfgL.done rfl ?_
       refine Rg [0,5,6,7,8,9,10,13,14,74] [] n0 trivial ?_
       refine Cfg.cond rfl (b := (((docR (digF z).2 is ts).2) != (0 : Int))) kr (fun c6r => ?_) (fun c6r => ?_)
       ·have c6 := (bne_iff_ne.1 c6r)
        refine Cfg.begL rfl ?_
        refine Lp 2 [] (some [0,5,6,7,8,9,10,13,75,76]) n0 trivial ?_
        refine Le (Eff.callM (vs := [pT ib,.int .i64 ((docR (digF z).2 is ts).2)]) (.tuple #[]) 1 (b := ib) (ob := .cells (inR (textF (digF (byteF (digF z).2).2).2 32768).2) 76 (0,0)) (.cells (inR (failF (textF (digF (byteF (digF z).2).2).2 32768).2 (docR (digF z).2 is ts).2)) 76 (0,0)) rfl Tryz.func36 rfl rfl kr kr (fun w1 h => rFail ib (textF (digF (byteF (digF z).2).2).2 32768).2 (docR (digF z).2 is ts).2 w1 (h.own (ib,Obj.cells (inR ((textF (digF (byteF (digF z).2).2).2 32768).2)) 76 (0,0)) (show (ib,Obj.cells (inR ((textF (digF (byteF (digF z).2).2).2 32768).2)) 76 (0,0)) ∈ (([(db,Obj.cells (bv ((digF z).1)) 36 (0,0)),(ib,Obj.cells (inR ((textF (digF (byteF (digF z).2).2).2 32768).2)) 76 (0,0))] ++ (Own.o 36 (is.flatMap dgc) oi ++ (Own.o 9 (ts.map Value.string) ot ++ []))) : LO) from (mL (mG 1 rfl)))))) ?_
        rintro ⟨⟩ -
        refine CfgL.done rfl ?_
        refine Cg (Γ' := [(13,[],.string (tx (docR (digF z).2 is ts).1)),(10,[],pT db),(9,[],.int .u64 (k : Int)),(8,[],.slice (Own.a ot) ts.length (Own.c ot)),(7,[],.slice (Own.a oi) is.length (Own.c oi)),(6,[],.int .u64 ((fourF (rdZ (bodyOf s))).1 : Int)),(5,[],pT ib),(0,[],.string (tx s))]) ?_
        refine Rg [0,5,6,7,8,9,10,11] [] n0 trivial ?_
        have hE : docE (digF z).2 is ts = _ := docE_e (is := is) (ts := ts) om om
        refine Cfg.setS 11 (congrArg Value.string (show (tx (docR (digF z).2 is ts).1) = (docE (digF z).2 is ts).1 from by rw [hE])) ?_
        refine Cfg.setO (congrArg (fun (xq : Array Value) => (([(db,.cells (bv ((digF z).1)) 36 (0,0)),(ib,.cells xq 76 (0,0))] ++ (Own.o 36 (is.flatMap dgc) oi ++ (Own.o 9 (ts.map Value.string) ot ++ []))) : LO)) (show _ = (inR ((docE (digF z).2 is ts).2)) from by rw [hE]; rfl)) ?_
        refine Cfg.begL rfl ?_
        refine Lp 2 [dZ,(dS (.agg (bv ((digF z).1))))] (some [0,5,6,7,8,9,11,79,80]) (fun S => [(∀ w1,S w1 → (loadVar 36 ⟨db,0,none⟩).run Tryz.prog w1 = .ok (.agg (bv ((digF z).1))) w1)]) ⟨(fun w1 h => h.oload 0 rfl Tryz.underlying36 rfl (n := 32) kr ((bv_size _).trans (digF_len _))),trivial⟩ ?_
        refine Le (Eff.buildAgg (vs := (bv ((digF z).1))) (n := 32) rfl kr Tryz.underlying57 kr (z := (.agg (bv (List.replicate 32 0)))) kr ((bv_size _).trans (digF_len _)) (by decide) (by decide)) ?_
        rintro eb ⟨heb,neb⟩
        refine Le (Eff.appendF rfl 32 32 Tryz.underlying57 kr (z := (.agg (bv (List.replicate 32 0)))) kr kr oi (xs := (is.flatMap dgc)) hoi kr (b2 := eb) (off2 := 0) (m := 1) (c2 := 1) kr (dgc ((digF z).1)) (dgc_len (digF_len _)) (all_dgc _) [(eb,.cells (bv ((digF z).1)) 36 (0,0)),(db,.cells (bv ((digF z).1)) 36 (0,0)),(ib,.cells (inR ((docE (digF z).2 is ts).2)) 76 (0,0))] ([] ++ (Own.o 9 (ts.map Value.string) ot ++ [])) (by rfl) (fun w1 h j v hj => by rw [Nat.zero_add]; exact h.ocell 0 rfl (by rw [← Array.getElem?_toList]; exact hj)) om om) ?_
        rintro o15 ko15
        refine Lp 1 [] (some [0,5,6,7,8,9,11]) n0 trivial ?_
        refine CfgL.done rfl ?_
        refine Cfg.begL rfl ?_
        refine Lp 2 [] (some [0,5,6,7,8,9,83,84]) n0 trivial ?_
        refine Le (Eff.buildSlice (e := 9) (cells := #[.string (docE (digF z).2 is ts).1]) (parts := #[(0,.string (docE (digF z).2 is ts).1)]) rfl kr (fun _ => kr)) ?_
        rintro tb ⟨htb,ntb⟩
        refine Le (Eff.appendF rfl 1 16 Tryz.underlying22 kr (z := (.string ByteArray.empty)) kr kr ot (xs := (ts.map Value.string)) hot kr (b2 := tb) (off2 := 0) (m := 1) (c2 := 1) kr ([Value.string (docE (digF z).2 is ts).1]) rfl (fun q hq => by rw [List.mem_singleton.1 hq]; rfl) ([(tb,.cells #[.string (docE (digF z).2 is ts).1] 9 (0,0)),(eb,.cells (bv ((digF z).1)) 36 (0,0)),(db,.cells (bv ((digF z).1)) 36 (0,0)),(ib,.cells (inR ((docE (digF z).2 is ts).2)) 76 (0,0))] ++ Own.o 36 ((is.flatMap dgc) ++ (dgc ((digF z).1))) o15) [] (by rfl) (fun w1 h j v hj => by rw [Nat.zero_add]; exact h.ocell 0 rfl (by rw [← Array.getElem?_toList]; exact hj)) om om) ?_
        rintro o16 ko16
        refine Lp 1 [] (some [0,5,6,7,8,9]) n0 trivial ?_
        refine CfgL.done rfl ?_
        refine Rg [0,5,6,7,8,9] [] n0 trivial ?_
        refine Cfg.setO (congrArg (fun (xq : List Value) => (([(tb,.cells #[.string (docE (digF z).2 is ts).1] 9 (0,0)),(eb,.cells (bv ((digF z).1)) 36 (0,0)),(db,.cells (bv ((digF z).1)) 36 (0,0)),(ib,.cells (inR ((docE (digF z).2 is ts).2)) 76 (0,0))] ++ (Own.o 36 xq o15 ++ (Own.o 9 ((ts.map Value.string) ++ [Value.string (docE (digF z).2 is ts).1]) o16 ++ []))) : LO)) (show _ = ((is ++ [(digF z).1]).flatMap dgc) from by rw [List.flatMap_append,List.flatMap_singleton])) ?_
        refine Cfg.setO (congrArg (fun (xq : List Value) => (([(tb,.cells #[.string (docE (digF z).2 is ts).1] 9 (0,0)),(eb,.cells (bv ((digF z).1)) 36 (0,0)),(db,.cells (bv ((digF z).1)) 36 (0,0)),(ib,.cells (inR ((docE (digF z).2 is ts).2)) 76 (0,0))] ++ (Own.o 36 ((is ++ [(digF z).1]).flatMap dgc) o15 ++ (Own.o 9 xq o16 ++ []))) : LO)) (show _ = ((ts ++ [(docE (digF z).2 is ts).1]).map Value.string) from by rw [List.map_append]; rfl)) ?_
        refine Cfg.setS 9 (congrArg (fun (xq : Int) => (.int .u64 xq : Value)) (show (((k : Int) + 1) % 18446744073709551616) = (((k + 1) : Nat) : Int) from by omega)) ?_
        refine Cfg.setS 7 (congrArg (fun (xq : Nat) => (.slice (Own.a o15) xq (Own.c o15) : Value)) (show ((is.length + 1)) = ((is ++ [(digF z).1]).length) from by rw [List.length_append]; rfl)) ?_
        refine Cfg.setS 8 (congrArg (fun (xq : Nat) => (.slice (Own.a o16) xq (Own.c o16) : Value)) (show ((ts.length + 1)) = ((ts ++ [(docE (digF z).2 is ts).1]).length) from by rw [List.length_append]; rfl)) ?_
        refine Cfg.again rfl (k + 1,(docE (digF z).2 is ts).2,is ++ [(digF z).1],ts ++ [(docE (digF z).2 is ts).1],o15,o16) ⟨by omega,dl_step om om hra,by rw [List.length_append,hil]; rfl,by rw [List.length_append,htl]; rfl,all32_snoc h32 (digF_len _),allS_snoc hsz (docE_size _ _ _),(fun h9 => by obtain ⟨h1,h2⟩ := ent_er h9; have := hbd h1; omega),by rw [List.flatMap_append,List.flatMap_singleton,List.length_append]; exact ko15,by rw [List.map_append,List.length_append]; exact ko16⟩ (by show (fourF (rdZ (bodyOf s))).1 - (k + 1) < (fourF (rdZ (bodyOf s))).1 - k; omega) (Conv.mk kr) (.cons _ (.cons _ (.cons _ slr)))
       ·have c6 := (bne_eq_false_iff_eq.1 c6r)
        refine Rg [0,5,6,7,8,9,10,11] [] n0 trivial ?_
        have hE : docE (digF z).2 is ts = _ := docE_1 (is := is) (ts := ts) om om
        refine Cfg.setS 11 (congrArg Value.string (show (tx (docR (digF z).2 is ts).1) = (docE (digF z).2 is ts).1 from by rw [hE])) ?_
        refine Cfg.setO (congrArg (fun (xq : Array Value) => (([(db,.cells (bv ((digF z).1)) 36 (0,0)),(ib,.cells xq 76 (0,0))] ++ (Own.o 36 (is.flatMap dgc) oi ++ (Own.o 9 (ts.map Value.string) ot ++ []))) : LO)) (show _ = (inR ((docE (digF z).2 is ts).2)) from by rw [hE]; rfl)) ?_
        refine Cfg.begL rfl ?_
        refine Lp 2 [dZ,(dS (.agg (bv ((digF z).1))))] (some [0,5,6,7,8,9,11,79,80]) (fun S => [(∀ w1,S w1 → (loadVar 36 ⟨db,0,none⟩).run Tryz.prog w1 = .ok (.agg (bv ((digF z).1))) w1)]) ⟨(fun w1 h => h.oload 0 rfl Tryz.underlying36 rfl (n := 32) kr ((bv_size _).trans (digF_len _))),trivial⟩ ?_
        refine Le (Eff.buildAgg (vs := (bv ((digF z).1))) (n := 32) rfl kr Tryz.underlying57 kr (z := (.agg (bv (List.replicate 32 0)))) kr ((bv_size _).trans (digF_len _)) (by decide) (by decide)) ?_
        rintro eb ⟨heb,neb⟩
        refine Le (Eff.appendF rfl 32 32 Tryz.underlying57 kr (z := (.agg (bv (List.replicate 32 0)))) kr kr oi (xs := (is.flatMap dgc)) hoi kr (b2 := eb) (off2 := 0) (m := 1) (c2 := 1) kr (dgc ((digF z).1)) (dgc_len (digF_len _)) (all_dgc _) [(eb,.cells (bv ((digF z).1)) 36 (0,0)),(db,.cells (bv ((digF z).1)) 36 (0,0)),(ib,.cells (inR ((docE (digF z).2 is ts).2)) 76 (0,0))] ([] ++ (Own.o 9 (ts.map Value.string) ot ++ [])) (by rfl) (fun w1 h j v hj => by rw [Nat.zero_add]; exact h.ocell 0 rfl (by rw [← Array.getElem?_toList]; exact hj)) om om) ?_
        rintro o17 ko17
        refine Lp 1 [] (some [0,5,6,7,8,9,11]) n0 trivial ?_
        refine CfgL.done rfl ?_
        refine Cfg.begL rfl ?_
        refine Lp 2 [] (some [0,5,6,7,8,9,83,84]) n0 trivial ?_
        refine Le (Eff.buildSlice (e := 9) (cells := #[.string (docE (digF z).2 is ts).1]) (parts := #[(0,.string (docE (digF z).2 is ts).1)]) rfl kr (fun _ => kr)) ?_
        rintro tb ⟨htb,ntb⟩
        refine Le (Eff.appendF rfl 1 16 Tryz.underlying22 kr (z := (.string ByteArray.empty)) kr kr ot (xs := (ts.map Value.string)) hot kr (b2 := tb) (off2 := 0) (m := 1) (c2 := 1) kr ([Value.string (docE (digF z).2 is ts).1]) rfl (fun q hq => by rw [List.mem_singleton.1 hq]; rfl) ([(tb,.cells #[.string (docE (digF z).2 is ts).1] 9 (0,0)),(eb,.cells (bv ((digF z).1)) 36 (0,0)),(db,.cells (bv ((digF z).1)) 36 (0,0)),(ib,.cells (inR ((docE (digF z).2 is ts).2)) 76 (0,0))] ++ Own.o 36 ((is.flatMap dgc) ++ (dgc ((digF z).1))) o17) [] (by rfl) (fun w1 h j v hj => by rw [Nat.zero_add]; exact h.ocell 0 rfl (by rw [← Array.getElem?_toList]; exact hj)) om om) ?_
        rintro o18 ko18
        refine Lp 1 [] (some [0,5,6,7,8,9]) n0 trivial ?_
        refine CfgL.done rfl ?_
        refine Rg [0,5,6,7,8,9] [] n0 trivial ?_
        refine Cfg.setO (congrArg (fun (xq : List Value) => (([(tb,.cells #[.string (docE (digF z).2 is ts).1] 9 (0,0)),(eb,.cells (bv ((digF z).1)) 36 (0,0)),(db,.cells (bv ((digF z).1)) 36 (0,0)),(ib,.cells (inR ((docE (digF z).2 is ts).2)) 76 (0,0))] ++ (Own.o 36 xq o17 ++ (Own.o 9 ((ts.map Value.string) ++ [Value.string (docE (digF z).2 is ts).1]) o18 ++ []))) : LO)) (show _ = ((is ++ [(digF z).1]).flatMap dgc) from by rw [List.flatMap_append,List.flatMap_singleton])) ?_
        refine Cfg.setO (congrArg (fun (xq : List Value) => (([(tb,.cells #[.string (docE (digF z).2 is ts).1] 9 (0,0)),(eb,.cells (bv ((digF z).1)) 36 (0,0)),(db,.cells (bv ((digF z).1)) 36 (0,0)),(ib,.cells (inR ((docE (digF z).2 is ts).2)) 76 (0,0))] ++ (Own.o 36 ((is ++ [(digF z).1]).flatMap dgc) o17 ++ (Own.o 9 xq o18 ++ []))) : LO)) (show _ = ((ts ++ [(docE (digF z).2 is ts).1]).map Value.string) from by rw [List.map_append]; rfl)) ?_
        refine Cfg.setS 9 (congrArg (fun (xq : Int) => (.int .u64 xq : Value)) (show (((k : Int) + 1) % 18446744073709551616) = (((k + 1) : Nat) : Int) from by omega)) ?_
        refine Cfg.setS 7 (congrArg (fun (xq : Nat) => (.slice (Own.a o17) xq (Own.c o17) : Value)) (show ((is.length + 1)) = ((is ++ [(digF z).1]).length) from by rw [List.length_append]; rfl)) ?_
        refine Cfg.setS 8 (congrArg (fun (xq : Nat) => (.slice (Own.a o18) xq (Own.c o18) : Value)) (show ((ts.length + 1)) = ((ts ++ [(docE (digF z).2 is ts).1]).length) from by rw [List.length_append]; rfl)) ?_
        refine Cfg.again rfl (k + 1,(docE (digF z).2 is ts).2,is ++ [(digF z).1],ts ++ [(docE (digF z).2 is ts).1],o17,o18) ⟨by omega,dl_step om om hra,by rw [List.length_append,hil]; rfl,by rw [List.length_append,htl]; rfl,all32_snoc h32 (digF_len _),allS_snoc hsz (docE_size _ _ _),(fun h9 => by obtain ⟨h1,h2⟩ := ent_er h9; have := hbd h1; omega),by rw [List.flatMap_append,List.flatMap_singleton,List.length_append]; exact ko17,by rw [List.map_append,List.length_append]; exact ko18⟩ (by show (fourF (rdZ (bodyOf s))).1 - (k + 1) < (fourF (rdZ (bodyOf s))).1 - k; omega) (Conv.mk kr) (.cons _ (.cons _ (.cons _ slr)))
     ·have c4 : ((¬ ((k : Int) < ((fourF (rdZ (bodyOf s))).1 : Int))) ∨ (z.er ≠ (0 : Int))) := ((andF c4r).elim (fun h => Or.inl (dF h)) (fun h => Or.inr (beq_eq_false_iff_ne.1 h)))
      have hfin : dR (bodyOf s) = (z,ts) := dl_fin hra om
      refine Cfg.begL rfl ?_
      refine Lp 1 [] (some [0,8,87]) n0 trivial ?_
      refine Le (Eff.callA (vs := [pT ib]) (.int .i64 (endF z)) rfl Tryz.func37 rfl rfl kr (fun w1 h => rEndI ib z w1 (h.own (ib,Obj.cells (inR z) 76 (0,0)) (show (ib,Obj.cells (inR z) 76 (0,0)) ∈ (([(ib,Obj.cells (inR z) 76 (0,0))] ++ (Own.o 36 (is.flatMap dgc) oi ++ (Own.o 9 (ts.map Value.string) ot ++ []))) : LO) from (mL (mG 0 rfl)))))) ?_
      rintro ⟨⟩ -
      refine Lp 1 [] (some [0,8,89]) n0 trivial ?_
      refine CfgL.done rfl ?_
      refine Cfg.cond rfl (b := ((endF z) != (0 : Int))) kr (fun c7r => ?_) (fun c7r => ?_)
      ·have c7 := (bne_iff_ne.1 c7r)
       refine Rg [2,3] [] n0 trivial ?_
       refine Cfg.ret rfl (rs := [.tmp 2,.tmp 3]) rfl [.slice none 0 0,.int .i64 4] ⟨kr,by kernel_rfl,trivial⟩ (fun w1 hp => ?_)
       have hx : docO s = _ := docO_end om hsum (fun hn => hn hmg0) (by rw [hfin]; show endF z ≠ 0; omega)
       rw [hx]
       exact ⟨none,OwnOk.none _,rfl,_,hp.sub (List.nil_sublist _)⟩
      ·have c7 := (bne_eq_false_iff_eq.1 c7r)
       have hz0 : z.er = 0 := endF_zero om
       have hb9 := hbd hz0
       refine Cfg.begL rfl ?_
       refine Lp 1 [] (some [0,91]) n0 trivial ?_
       refine Le (Eff.callH (vs := [.slice (Own.a ot) ts.length (Own.c ot)]) (fun ow : K.Own => .tuple #[.string (tx (fileF (planF ts))),.slice (Own.a ow) (planF ts).length (Own.c ow)]) [] (fun ow => Own.o 49 ((planF ts).flatMap enr) ow) (fun ow => OwnOk ow 66 (planF ts).length ((planF ts).flatMap enr)) [(ib,.cells (inR z) 76 (0,0))] ((Own.o 36 (is.flatMap dgc) oi ++ (Own.o 9 (ts.map Value.string) ot ++ []))) rfl rfl Tryz.func8 rfl rfl kr (fun w1 h _ _ => (rBuild (Own.a ot) (Own.c ot) ts ([(ib,Obj.cells (inR z) 76 (0,0))] ++ (Own.o 36 (is.flatMap dgc) oi ++ (Own.o 9 (ts.map Value.string) ot ++ []))) w1 ((own_ins hot (fun j hj => by simp [List.getElem?_eq_getElem hj])).mono (fun e he => (show _ ∈ (([(ib,Obj.cells (inR z) 76 (0,0))] ++ (Own.o 36 (is.flatMap dgc) oi ++ (Own.o 9 (ts.map Value.string) ot ++ []))) : LO) from (mR (mR (mL he)))))) (fun e he => h.own e he) om hsz).mono fun _ _ ⟨ow,a1,a2,a3⟩ => ⟨ow,a1,a2,a3⟩)) ?_
       rintro ow hok
       have hok : OwnOk ow 66 (planF ts).length ((planF ts).flatMap enr) := hok
       refine Lp 5 [] (some [0,15,16]) n0 trivial ?_
       refine CfgL.done rfl ?_
       refine Rg [16,97] [] n0 trivial ?_
       refine Cfg.cond rfl (b := (!((tx (fileF (planF ts))).toList == (tx s).toList))) kr (fun c8r => ?_) (fun c8r => ?_)
       ·have c8 : (((tx (fileF (planF ts))).toList == (tx s).toList) = false) := (notT c8r)
        rw [tx_eq] at c8
        have hlay : ¬ fileF (planF ts) = s := by simpa using c8
        refine Rg [2,3] [] n0 trivial ?_
        refine Cfg.ret rfl (rs := [.tmp 2,.tmp 3]) rfl [.slice none 0 0,.int .i64 4] ⟨kr,by kernel_rfl,trivial⟩ (fun w1 hp => ?_)
        have hx : docO s = _ := docO_lay om hsum (fun hn => hn hmg0) (by rw [hfin]; show ¬ endF z ≠ 0; omega) (by rw [hfin]; exact hlay)
        rw [hx]
        exact ⟨none,OwnOk.none _,rfl,_,hp.sub (List.nil_sublist _)⟩
       ·have c8 : (((tx (fileF (planF ts))).toList == (tx s).toList) = true) := (notF c8r)
        rw [tx_eq] at c8
        have hlay : fileF (planF ts) = s := by simpa using c8
        refine Cfg.reg rfl [2,3] [] (Γ' := [(3,[],.int .i64 0),(2,[],.slice (Own.a ow) ((planF ts).length) (Own.c ow))]) (nd := (fun _ => [])) (fun _ => kr) trivial ?_
        refine Cfg.ret rfl (rs := [.tmp 2,.tmp 3]) rfl [.slice (Own.a ow) ((planF ts).length) (Own.c ow),.int .i64 0] ⟨kr,by kernel_rfl,trivial⟩ (fun w1 hp => ?_)
        have hx : docO s = (0,planF ts) := by rw [docO_ok om hsum (fun hn => hn hmg0) (by rw [hfin]; show ¬ endF z ≠ 0; omega) (by rw [hfin]; exact fun hn => hn hlay),hfin]
        rw [hx]
        exact ⟨ow,hok,rfl,_,hp.sub (List.sublist_append_of_sublist_right (List.sublist_append_left _ _))⟩
end Go.Proofs.YtbeegepcdglcaaaGreatDoor
namespace Go.Proofs.YtbeegepcdglcaaaGreatDoor
open K
set_option linter.unusedVariables false
set_option maxRecDepth 100000 in
theorem pkItN0 (tb l : Nat) (w : World) (hR : Has w [(tb,.cells #[.pointer none] 29 (0,0))]) :
  Calls Tryz.prog 61 #[.func (.yield l) #[] #[],.pointer (some ⟨tb,0,none⟩)] w fun e w' => e = .returned (.tuple #[]) ∧ Ext [] w w' := by
 refine enter (vs := [.func (.yield l) #[] #[],pT tb]) [] [(tb,.cells #[.pointer none] 29 (0,0))] [] Tryz.func61 rfl kr (HP.ofHas hR) ?_
 refine Rg [0,1,6] [(dS (.pointer none))] (fun S => [(cE S tb 0 (.pointer none))]) ⟨(rC 0 rfl rfl),trivial⟩ ?_
 refine Cfg.condT rfl (b := true) kr rfl ?_
 refine Cfg.ret rfl (rs := []) rfl [] trivial (fun w1 hp => ?_)
 exact ⟨rfl,hp.ext⟩
set_option maxRecDepth 100000 in
theorem pkLenN (w : World) :
  Calls Tryz.prog 14 #[.pointer none] w fun e w' => e = .returned (.int .i64 0) ∧ Ext [] w w' := by
 refine enter (vs := [.pointer none]) [] [] [] Tryz.func14 rfl kr (HP.start w) ?_
 refine Rg [0] [] n0 trivial ?_
 refine Rg [0,4] [] n0 trivial ?_
 refine Cfg.condT rfl (b := true) kr rfl ?_
 refine Rg [2] [] n0 trivial ?_
 refine Cfg.ret rfl (rs := [.tmp 2]) rfl [.int .i64 0] ⟨kr,trivial⟩ (fun w1 hp => ?_)
 exact ⟨rfl,hp.ext⟩
end Go.Proofs.YtbeegepcdglcaaaGreatDoor
namespace Go.Proofs.YtbeegepcdglcaaaGreatDoor
open K
set_option linter.unusedVariables false
theorem pkItNil (tb : Nat) : IterSpec2 Tryz.prog 61 #[.pointer (some ⟨tb,0,none⟩)] [(tb,.cells #[.pointer none] 29 (0,0))] ([] : List En) (fun e : En => .agg (bv e.id)) (fun e : En => .string e.t) := IterSpec2.none fun l w h => pkItN0 tb l w h
set_option maxRecDepth 100000 in
set_option maxHeartbeats 8000000 in
theorem same21N (la : Option Addr) (ca : Nat) (w : World) :
  Calls Tryz.prog 10 #[.pointer none,.slice la 0 ca] w fun e w' => e = .returned (.bool true) ∧ Ext [] w w' := by
 refine enterM (vs := [.pointer none,.slice la 0 ca]) [] [] [] Tryz.func10 rfl kr (HP.start w) ?_
 refine Cfg.begL rfl ?_
 refine Le (Eff.box (v := .pointer none) rfl kr) ?_
 rintro qb ⟨hqb,nqb⟩
 refine Le (Eff.box (v := .slice la 0 ca) rfl kr) ?_
 rintro lb ⟨hlb,nlb⟩
 refine Le (Eff.alloc (z := (.bool false)) rfl kr) ?_
 rintro rb ⟨hrb,nrb⟩
 refine CfgL.done rfl ?_
 refine Cg (Γ' := [(4,[],pT rb),(3,[],pT lb),(2,[],pT qb)]) ?_
 refine Cfg.begL rfl ?_
 refine Le (Eff.alloc (z := (.int .i64 0)) rfl kr) ?_
 rintro kb ⟨hkb,nkb⟩
 refine Le (Eff.store1 (b := kb) (off := 0) (v := .int .i64 0) rfl kr kr rfl kr 0 (cs := #[.int .i64 0]) (e := 3) kr (by simp)) ?_
 rintro ⟨⟩ -
 refine CfgL.done rfl ?_
 refine Cfg.begL rfl ?_
 refine Lp 1 [(dS (.pointer none))] none (fun S => [(cE S qb 0 (.pointer none))]) ⟨(oC 3 rfl rfl),trivial⟩ ?_
 refine Le (Eff.callN (vs := [.pointer none]) (fun tb => .func (.func 61) #[] #[pT tb]) (fun tb => tb) (fun _ => .cells #[.pointer none] 29 (0,0)) (fun _ => True) rfl Tryz.func25 rfl rfl kr (fun w1 h => pkTexts none w1)) ?_
 rintro tb -
 refine CfgL.done rfl ?_
 refine Cg (Γ' := [(11,[],.func (.func 61) #[] #[pT tb]),(5,[],pT kb),(4,[],pT rb),(3,[],pT lb),(2,[],pT qb)]) ?_
 refine Cfg.rangeJ2 rfl (caps := #[pT tb]) kr Tryz.func61 kr rfl kr kr (pkItNil tb) (σ := Unit) (fun (_ : Unit) => [(tb,.cells #[.pointer none] 29 (0,0)),(kb,.cells ((#[.int .i64 0] : Array Value).setIfInBounds 0 (.int .i64 0)) 3 (0,0)),(rb,.cells #[.bool false] 4 (0,0)),(lb,.cells #[.slice la 0 ca] 26 (0,0)),(qb,.cells #[.pointer none] 29 (0,0))]) (fun _ _ => True) () trivial [] (by rfl) (fun e he => by cases he) (fun w1 h => List.nodup_nil) (fun (_ : Unit) => [(tb,.cells #[.pointer none] 29 (0,0)),(kb,.cells ((#[.int .i64 0] : Array Value).setIfInBounds 0 (.int .i64 0)) 3 (0,0)),(rb,.cells #[.bool false] 4 (0,0)),(lb,.cells #[.slice la 0 ca] 26 (0,0)),(qb,.cells #[.pointer none] 29 (0,0))]) (fun _ => rfl) (fun _ => true) (fun pre x _ _ e he => by rw [List.mem_singleton.1 he]; exact mH) (.ret) rfl ?_ ?_ ?_
 ·intro l ob1 ob2 w2 M2 pre _ x rest hal hJx hit
  simp at hit
 ·intro dr1 _ hal hJy
  refine Cfg.begA rfl kr [(dr1,.deferred (some [])),(tb,.cells #[.pointer none] 29 (0,0)),(kb,.cells ((#[.int .i64 0] : Array Value).setIfInBounds 0 (.int .i64 0)) 3 (0,0)),(lb,.cells #[.slice la 0 ca] 26 (0,0)),(qb,.cells #[.pointer none] 29 (0,0))] ?_
  refine Ap [0,1,2,3,4] [(dS (.int .i64 0)),(dS (.slice la 0 ca))] (some [2,3,4,66]) (tF 5 7) (.cons_cons _ (.cons_cons _ (.cons_cons _ (.cons _ (.cons_cons _ (.cons_cons _ .slnil)))))) 7 (fun S => [(cE S kb 0 (.int .i64 0)),(cE S lb 0 (.slice la 0 ca))]) ⟨(oC 2 rfl rfl),(oC 3 rfl rfl),trivial⟩ ?_
  refine CfgA.known 66 (b := ((0 : Int) == (0 : Int))) kr true rfl ?_
  refine Ap [5,7,8] [(1,false,some (.pointer none)),(1,false,some (.slice la 0 ca)),(1,false,none)] (some [4,66,67,70]) (bF 447 12) (.cons_cons _ (.cons_cons _ (.cons_cons _ (.cons _ (.cons_cons _ (.cons_cons _ .slnil)))))) 4 (fun S => [((.bool true : Value) = .bool true),(cE S qb 0 (.pointer none)),((.bool true : Value) = .bool true),(cE S lb 0 (.slice la 0 ca)),((.bool true : Value) = .bool true)]) ⟨rfl,(oC 4 rfl rfl),rfl,(oC 3 rfl rfl),rfl,trivial⟩ ?_
  refine Ae 6 rfl 3  (Eff.callA (vs := [.pointer none]) (.int .i64 0) rfl Tryz.func14 rfl rfl kr (fun w1 h => pkLenN w1)) (fun _ _ => (.cons_cons _ (.cons_cons _ (.cons_cons _ (.cons _ (.cons_cons _ (.cons_cons _ .slnil))))))) ?_
  rintro ⟨⟩ -
  refine Ap [9,10] [(1,false,none)] (some [4,72]) (tF 11 1) (.cons_cons _ (.cons_cons _ (.cons_cons _ (.cons _ (.cons_cons _ (.cons_cons _ .slnil)))))) 1 (fun _ => [((.bool true : Value) = .bool true)]) ⟨rfl,trivial⟩ ?_
  refine Ae 11 rfl 0  (Eff.store1 (b := rb) (off := 0) (v := .bool ((0 : Int) == (0 : Int))) rfl kr kr rfl kr 3 (cs := #[.bool false]) (e := 4) kr (by simp)) (fun _ _ => (.cons_cons _ (.cons_cons _ (.cons_cons _ (.cons _ (.cons_cons _ (.cons_cons _ .slnil))))))) ?_
  rintro ⟨⟩ -
  refine CfgA.done kr ?_
  refine Cg (Γ' := [(4,[],pT rb)]) ?_
  refine Cfg.retM (O' := [(tb,.cells #[.pointer none] 29 (0,0)),(kb,.cells ((#[.int .i64 0] : Array Value).setIfInBounds 0 (.int .i64 0)) 3 (0,0)),(rb,.cells ((#[.bool false] : Array Value).setIfInBounds 0 (.bool ((0 : Int) == (0 : Int)))) 4 (0,0)),(lb,.cells #[.slice la 0 ca] 26 (0,0)),(qb,.cells #[.pointer none] 29 (0,0))]) rfl (rs := [.cell 4 4]) rfl [.bool ((0 : Int) == (0 : Int))] slr ⟨⟨_,by kernel_rfl,fun w1 h => h.ovar 2 (off := 0) rfl kr rfl⟩,trivial⟩ (fun w1 hp => ?_)
  exact ⟨rfl,hp.ext⟩
 ·intro dr1 _ pre x rest hit hal hpa hJy
  cases hpa
end Go.Proofs.YtbeegepcdglcaaaGreatDoor
namespace Go.Proofs.YtbeegepcdglcaaaGreatDoor
open K
set_option linter.unusedVariables false
def abcD : List UInt8 := [186,120,22,191,143,1,207,234,65,65,64,222,93,174,34,35,176,3,97,163,150,23,122,156,180,16,255,97,242,0,21,173]
set_option maxRecDepth 100000 in
theorem sdg_abc : sdg ⟨#[97,98,99]⟩ = abcD := by kernel_rfl
set_option maxRecDepth 100000 in
theorem shaAwake {t0 : TypeId} {fr0 : Nat × Nat} (w : World) (hR : Has w [(0,.cells (wv Kc) t0 fr0)]) :
  Calls Tryz.prog 38 #[] w fun e w' => e = .returned (.bool true) ∧ Ext [] w w' := by
 have hK : KT (wv Kc) := fun t h => kget h
 refine enter (vs := []) [] [(0,.cells (wv Kc) t0 fr0)] [] Tryz.func38 rfl kr (HP.ofHas hR) ?_
 refine Cfg.reg rfl [] [] (Γ' := []) (nd := (fun _ => [])) (fun _ => kr) trivial ?_
 refine Cfg.begL rfl ?_
 refine CfgL.eff (o := _) rfl kr kr (Eff.buildSlice (e := 9) (cells := #[.string ⟨#[97,98,99]⟩]) (parts := #[(0,.string ⟨#[97,98,99]⟩)]) rfl kr (fun _ => kr)) ?_
 rintro bs ⟨hbs,nbs⟩
 refine CfgL.eff (o := _) rfl kr kr (Eff.callA (vs := [.slice (some ⟨bs,0,none⟩) 1 1]) (.agg (bv abcD)) rfl Tryz.func23 rfl rfl kr (fun w1 h => sdg_abc ▸ sum1 hK ⟨#[97,98,99]⟩ bs 1 w1 (h.ro _ mH) (h.own _ mH))) ?_
 rintro ⟨⟩ -
 refine CfgL.eff (o := _) rfl kr kr (Eff.alloc (z := (.agg (bv (List.replicate 32 0)))) rfl kr) ?_
 rintro d ⟨hd,nd⟩
 refine CfgL.eff (o := _) rfl kr kr (Eff.storeN (b := d) (off := 0) (vs := (bv abcD)) (n := 32) rfl kr kr kr rfl (all_bv _) 0 (cs := (bv (List.replicate 32 0))) (e := 36) kr (Nat.le_refl 32)) ?_
 rintro ⟨⟩ -
 refine CfgL.setO (congrArg (fun (xq : Array Value) => ([(d,.cells xq 36 (0,0)),(bs,.cells #[.string ⟨#[97,98,99]⟩] 9 (0,0))] : LO)) (show _ = (bv abcD) from spl_all rfl)) ?_
 refine CfgL.done rfl ?_
 refine Conv.cfg (Γ' := [(1,[],pT d)]) (Conv.mk kr) ?_
 refine Cfg.begL rfl ?_
 refine CfgL.pure 19 [dZ,(dS (.int .u8 186)),dZ,dZ,dZ,(dS (.int .u8 120)),dZ,dZ,dZ,dZ,(dS (.int .u8 22)),dZ,dZ,dZ,dZ,(dS (.int .u8 191))] (some [1,22]) (Γ' := [(22,[],.bool (((((186 : Int) == (186 : Int)) && ((120 : Int) == (120 : Int))) && ((22 : Int) == (22 : Int))) && ((191 : Int) == (191 : Int)))),(1,[],pT d)]) (nd := (fun S => [(iL (0 : Int) 32),(cE S d 0 (.int .u8 186)),((.bool ((186 : Int) == (186 : Int)) : Value) = .bool true → (iL (1 : Int) 32)),((.bool ((186 : Int) == (186 : Int)) : Value) = .bool true → (cE S d 1 (.int .u8 120))),((.bool (((186 : Int) == (186 : Int)) && ((120 : Int) == (120 : Int))) : Value) = .bool true → (iL (2 : Int) 32)),((.bool (((186 : Int) == (186 : Int)) && ((120 : Int) == (120 : Int))) : Value) = .bool true → (cE S d 2 (.int .u8 22))),((.bool ((((186 : Int) == (186 : Int)) && ((120 : Int) == (120 : Int))) && ((22 : Int) == (22 : Int))) : Value) = .bool true → (iL (3 : Int) 32)),((.bool ((((186 : Int) == (186 : Int)) && ((120 : Int) == (120 : Int))) && ((22 : Int) == (22 : Int))) : Value) = .bool true → (cE S d 3 (.int .u8 191)))])) kr (fun _ => kr) ⟨om,(oC 0 rfl rfl),(fun g0 => have q0 : ((186 : Int) = (186 : Int)) := (beq_iff_eq.1 (boolV g0)); om),(fun g0 => have q0 : ((186 : Int) = (186 : Int)) := (beq_iff_eq.1 (boolV g0)); (oC 0 rfl rfl)),(fun g0 => have q0 : (((186 : Int) = (186 : Int)) ∧ ((120 : Int) = (120 : Int))) := ⟨(beq_iff_eq.1 (andT1 (boolV g0))),(beq_iff_eq.1 (andT2 (boolV g0)))⟩; om),(fun g0 => have q0 : (((186 : Int) = (186 : Int)) ∧ ((120 : Int) = (120 : Int))) := ⟨(beq_iff_eq.1 (andT1 (boolV g0))),(beq_iff_eq.1 (andT2 (boolV g0)))⟩; (oC 0 rfl rfl)),(fun g0 => have q0 : ((((186 : Int) = (186 : Int)) ∧ ((120 : Int) = (120 : Int))) ∧ ((22 : Int) = (22 : Int))) := ⟨⟨(beq_iff_eq.1 (andT1 (andT1 (boolV g0)))),(beq_iff_eq.1 (andT2 (andT1 (boolV g0))))⟩,(beq_iff_eq.1 (andT2 (boolV g0)))⟩; om),(fun g0 => have q0 : ((((186 : Int) = (186 : Int)) ∧ ((120 : Int) = (120 : Int))) ∧ ((22 : Int) = (22 : Int))) := ⟨⟨(beq_iff_eq.1 (andT1 (andT1 (boolV g0)))),(beq_iff_eq.1 (andT2 (andT1 (boolV g0))))⟩,(beq_iff_eq.1 (andT2 (boolV g0)))⟩; (oC 0 rfl rfl)),trivial⟩ ?_
 refine CfgL.known 22 (b := (((((186 : Int) == (186 : Int)) && ((120 : Int) == (120 : Int))) && ((22 : Int) == (22 : Int))) && ((191 : Int) == (191 : Int)))) kr true kr ?_
 refine CfgL.pure 1 [(1,false,some (.agg (bv abcD)))] (some [22,23]) (Γ' := [(23,[],.agg (bv abcD)),(22,[],.bool true)]) (nd := (fun S => [((.bool true : Value) = .bool true),(∀ w1,S w1 → (loadVar 36 ⟨d,0,none⟩).run Tryz.prog w1 = .ok (.agg (bv abcD)) w1)])) kr (fun _ => kr) ⟨rfl,(fun w1 h => h.oload 0 rfl Tryz.underlying36 rfl (n := 32) kr ((bv_size _).trans rfl)),trivial⟩ ?_
 refine CfgL.eff (o := _) rfl kr kr (Eff.callA (vs := [.agg (bv abcD)]) (.string (hexS abcD)) rfl Tryz.func63 rfl rfl kr (fun w1 h => shaHex abcD w1 rfl)) ?_
 rintro ⟨⟩ -
 refine CfgL.pure 4 [(1,false,none),(1,false,none)] (some [0]) (Γ' := [(0,[],.bool (((hexS abcD).size : Int) == (64 : Int)))]) (nd := (fun _ => [((.bool true : Value) = .bool true),((.bool true : Value) = .bool true)])) kr (fun _ => kr) ⟨rfl,rfl,trivial⟩ ?_
 refine CfgL.done rfl ?_
 refine Cfg.ret rfl (rs := [.tmp 0]) rfl [.bool (((hexS abcD).size : Int) == (64 : Int))] ⟨kr,trivial⟩ (fun w1 hp => ?_)
 exact ⟨congrArg (fun b => Ending.returned (.bool b)) kr,hp.ext⟩
set_option maxRecDepth 100000 in
theorem awake01 {t0 : TypeId} {fr0 : Nat × Nat} (w : World) (hR : Has w [(0,.cells (wv Kc) t0 fr0)]) :
  Calls Tryz.prog 15 #[] w fun e w' => e = .returned (.bool true) ∧ Ext [] w w' := by
 have hK : KT (wv Kc) := fun t h => kget h
 refine enter (vs := []) [] [(0,.cells (wv Kc) t0 fr0)] [] Tryz.func15 rfl kr (HP.ofHas hR) ?_
 refine Cfg.reg rfl [] [] (Γ' := []) (nd := (fun _ => [])) (fun _ => kr) trivial ?_
 refine Cfg.begL rfl ?_
 refine CfgL.eff (o := _) rfl kr kr (Eff.callA (vs := []) (.bool true) rfl Tryz.func38 rfl rfl kr (fun w1 h => shaAwake w1 (h.hasR (fun e he => he)))) ?_
 rintro ⟨⟩ -
 refine CfgL.pure 1 [] (some [0]) (Γ' := [(0,[],.bool true)]) (nd := (fun _ => [])) kr (fun _ => kr) trivial ?_
 refine CfgL.done rfl ?_
 refine Cfg.ret rfl (rs := [.tmp 0]) rfl [.bool true] ⟨kr,trivial⟩ (fun w1 hp => ?_)
 exact ⟨rfl,hp.ext⟩
end Go.Proofs.YtbeegepcdglcaaaGreatDoor
namespace Go.Proofs.YtbeegepcdglcaaaGreatDoor
open K
set_option linter.unusedVariables false
theorem dMakeApply (a t : ByteArray) (w : World) (ha : a.size ≤ 10000000) (ht : t.size ≤ 32768) : Calls Tryz.prog 60 #[.string a,.string (tx (mk a t))] w fun e w' => e = .returned (.tuple #[.string t,.int .i64 0]) ∧ Ext [] w w' := by
 have := dApply a (mk a t) w ha
 rw [apply_mk ha ht,tx_back] at this
 exact this
theorem ex20 : (tx (mk (⟨#[97,98,99]⟩ : ByteArray) (⟨#[97,98,99]⟩ : ByteArray))).size = 21 := by decide +kernel
set_option maxRecDepth 100000 in
theorem awake20 (w : World) :
  Calls Tryz.prog 39 #[] w fun e w' => e = .returned (.bool true) ∧ Ext [] w w' := by
 refine enter (vs := []) [] [] [] Tryz.func39 rfl kr (HP.start w) ?_
 refine Cfg.reg rfl [] [] (Γ' := []) (nd := (fun _ => [])) (fun _ => kr) trivial ?_
 refine Cfg.begL rfl ?_
 refine CfgL.eff (o := _) rfl kr kr (Eff.callA (vs := [.string ⟨#[97,98,99]⟩,.string ⟨#[97,98,99]⟩]) (.string (tx (mk (⟨#[97,98,99]⟩ : ByteArray) (⟨#[97,98,99]⟩ : ByteArray)))) rfl Tryz.func49 rfl rfl kr (fun w1 _ => dMake (⟨#[97,98,99]⟩ : ByteArray) (⟨#[97,98,99]⟩ : ByteArray) w1 (by decide) (by decide))) ?_
 rintro ⟨⟩ -
 refine CfgL.pure 1 [] (some [1]) (Γ' := [(1,[],.string (tx (mk (⟨#[97,98,99]⟩ : ByteArray) (⟨#[97,98,99]⟩ : ByteArray))))]) (nd := (fun _ => [])) kr (fun _ => kr) trivial ?_
 refine CfgL.done rfl ?_
 refine Cfg.begL rfl ?_
 refine CfgL.pure 1 [] none (Γ' := [(6,[],.string (tx (mk (⟨#[97,98,99]⟩ : ByteArray) (⟨#[97,98,99]⟩ : ByteArray)))),(1,[],.string (tx (mk (⟨#[97,98,99]⟩ : ByteArray) (⟨#[97,98,99]⟩ : ByteArray))))]) (nd := (fun _ => [])) kr (fun _ => kr) trivial ?_
 refine CfgL.eff (o := _) rfl kr kr (Eff.callA (vs := [.string ⟨#[97,98,99]⟩,.string (tx (mk (⟨#[97,98,99]⟩ : ByteArray) (⟨#[97,98,99]⟩ : ByteArray)))]) (.tuple #[.string ⟨#[97,98,99]⟩,.int .i64 0]) rfl Tryz.func60 rfl rfl kr (fun w1 _ => dMakeApply (⟨#[97,98,99]⟩ : ByteArray) (⟨#[97,98,99]⟩ : ByteArray) w1 (by decide) (by decide))) ?_
 rintro ⟨⟩ -
 refine CfgL.pure 5 [] (some [1,2,3]) (Γ' := [(3,[],.int .i64 0),(2,[],.string ⟨#[97,98,99]⟩),(1,[],.string (tx (mk (⟨#[97,98,99]⟩ : ByteArray) (⟨#[97,98,99]⟩ : ByteArray))))]) (nd := (fun _ => [])) kr (fun _ => kr) trivial ?_
 refine CfgL.done rfl ?_
 refine Cfg.reg rfl [0] [] (Γ' := [(0,[],.bool (((((tx (mk (⟨#[97,98,99]⟩ : ByteArray) (⟨#[97,98,99]⟩ : ByteArray))).size : Int) == (21 : Int)) && ((⟨#[97,98,99]⟩ : ByteArray).toList == (⟨#[97,98,99]⟩ : ByteArray).toList)) && ((0 : Int) == (0 : Int))))]) (nd := (fun _ => [])) (fun _ => kr) trivial ?_
 refine Cfg.ret rfl (rs := [.tmp 0]) rfl [.bool (((((tx (mk (⟨#[97,98,99]⟩ : ByteArray) (⟨#[97,98,99]⟩ : ByteArray))).size : Int) == (21 : Int)) && ((⟨#[97,98,99]⟩ : ByteArray).toList == (⟨#[97,98,99]⟩ : ByteArray).toList)) && ((0 : Int) == (0 : Int)))] ⟨kr,trivial⟩ (fun w1 hp => ?_)
 exact ⟨congrArg (fun b => Ending.returned (.bool b)) (by rw [ex20]; simp only [beq_self_eq_true,Bool.and_true]; rfl),hp.ext⟩
set_option maxRecDepth 100000 in
theorem awakeE20 (w : World) :
  Calls Tryz.prog 16 #[] w fun e w' => e = .returned (.bool true) ∧ Ext [] w w' := by
 refine enter (vs := []) [] [] [] Tryz.func16 rfl kr (HP.start w) ?_
 refine Cfg.reg rfl [] [] (Γ' := []) (nd := (fun _ => [])) (fun _ => kr) trivial ?_
 refine Cfg.begL rfl ?_
 refine CfgL.eff (o := _) rfl kr kr (Eff.callA (vs := []) (.bool true) rfl Tryz.func39 rfl rfl kr (fun w1 _ => awake20 w1)) ?_
 rintro ⟨⟩ -
 refine CfgL.pure 1 [] (some [0]) (Γ' := [(0,[],.bool true)]) (nd := (fun _ => [])) kr (fun _ => kr) trivial ?_
 refine CfgL.done rfl ?_
 refine Cfg.ret rfl (rs := [.tmp 0]) rfl [.bool true] ⟨kr,trivial⟩ (fun w1 hp => ?_)
 exact ⟨rfl,hp.ext⟩
end Go.Proofs.YtbeegepcdglcaaaGreatDoor
namespace Go.Proofs.YtbeegepcdglcaaaGreatDoor
open K
set_option linter.unusedVariables false
theorem in_nil {Rl : List (Nat × Obj)} {f : Nat → Value} : InS Rl none 0 f := fun h => absurd h (Nat.lt_irrefl 0)
theorem kt_wv : KT (wv Kc) := fun t h => kget h
theorem open_has {w' w : World} {l : List ByteArray} (hs : ∀ s ∈ l,s.size ≤ 32768) (hn : l.length ≤ 1000000) {o : Option PkM} {e : Ending} (a1 : ∀ m,o = some m → PkOk m (openF (fileF (planF l))).2) (a2 : o = none ↔ (openF (fileF (planF l))).1 ≠ 0) (a3 : e = .returned (.tuple #[pkV o,.int .i64 (openF (fileF (planF l))).1])) (a4 : ∃ R1,HP w [] R1 (pkM o (openF (fileF (planF l))).2) w') :
  ∃ m,PkOk m (planF l) ∧ e = .returned (.tuple #[.pointer (some ⟨m.pb,0,none⟩),.int .i64 0]) ∧ ∃ R1,HP w [] R1 (pkM (some m) (planF l)) w' := by
 rw [open_file hs hn] at a1 a2 a3 a4
 cases o with
 | none => exact absurd rfl (a2.1 rfl)
 | some m => exact ⟨m,a1 m rfl,a3,a4⟩
theorem openU {l : List ByteArray} {kt : Array Value} {tt0 : TypeId} {fr0 : Nat × Nat} (w : World) (hK : KT kt) (hR : Has w [(0,Obj.cells kt tt0 fr0)]) (hs : ∀ s ∈ l,s.size ≤ 32768) (hn : l.length ≤ 900) :
  Calls Tryz.prog 9 #[.string (tx (fileF (planF l)))] w fun e w' => ∃ m,PkOk m (planF l) ∧ e = .returned (.tuple #[.pointer (some ⟨m.pb,0,none⟩),.int .i64 0]) ∧ ∃ R1,HP w [] R1 (pkM (some m) (planF l)) w' := by
 have h9 := file_len hs
 exact (pkOpen (fileF (planF l)) w hK hR om).mono fun e w' ⟨o,a1,a2,a3,a4⟩ => open_has hs om a1 a2 a3 a4
theorem plan0 : (planF []).length = 0 := Nat.le_zero.1 (planF_len [])
set_option maxRecDepth 100000 in
set_option maxHeartbeats 8000000 in
theorem awake21 {t0 : TypeId} {fr0 : Nat × Nat} (w : World) (hR : Has w [(0,Obj.cells (wv Kc) t0 fr0)]) :
  Calls Tryz.prog 5 #[] w fun e w' => e = .returned (.bool true) ∧ Ext [] w w' := by
 refine enter (vs := []) [] [(0,.cells (wv Kc) t0 fr0)] [] Tryz.func5 rfl kr (HP.ofHas hR) ?_
 refine Rg [] [] n0 trivial ?_
 refine Cfg.begL rfl ?_
 refine Le (Eff.callA (vs := [.slice none 0 0]) (.string (tx (fileF (planF [])))) rfl Tryz.func7 rfl rfl kr (fun w1 h => pkBuild none 0 [] [] w1 kt_wv in_nil (fun e he => h.ro e (by rw [List.mem_singleton.1 he]; exact mH)) (by decide) (fun s hs => by cases hs))) ?_
 rintro ⟨⟩ -
 refine Lp 1 [] (some [1]) n0 trivial ?_
 refine CfgL.done rfl ?_
 refine Cfg.begL rfl ?_
 refine Lp 1 [] none n0 trivial ?_
 refine Le (Eff.callH (vs := [.string (tx (fileF (planF [])))]) (fun m : PkM => .tuple #[.pointer (some ⟨m.pb,0,none⟩),.int .i64 0]) [] (fun m => pkM (some m) (planF [])) (fun m => PkOk m (planF [])) [] [] rfl rfl Tryz.func9 rfl rfl kr (fun w1 h _ _ => (openU w1 kt_wv (fun e he => h.ro e (by rw [List.mem_singleton.1 he]; exact mH)) (fun s hs => by cases hs) (by decide)).mono fun _ _ ⟨m,a1,a2,a3⟩ => ⟨m,a1,a2,a3⟩)) ?_
 rintro m hm
 refine Lp 5 [] (some [1,2,3]) n0 trivial ?_
 refine CfgL.done rfl ?_
 refine Cfg.begL rfl ?_
 refine Lp 8 [] (some [2,17]) n0 trivial ?_
 refine CfgL.known 17 (b := ((((tx (fileF (planF []))).size : Int) == (40 : Int)) && true)) kr true (by rw [tx_size,file_nil]; rfl) ?_
 refine Lp 1 [(1,false,none)] (some [17,18]) (fun _ => [((.bool true : Value) = .bool true)]) ⟨rfl,trivial⟩ ?_
 refine Le (Eff.callA (vs := [.pointer (some ⟨m.pb,0,none⟩)]) (.int .i64 ((planF []).length : Int)) rfl Tryz.func14 rfl rfl kr (fun w1 h => pkLen m (planF []) (pkM (some m) (planF [])) w1 hm (fun e he => (planF_ok (fun s hs => by cases hs) e he).l) (fun e he => he) (fun e he => h.own e (show _ ∈ (([] ++ (pkM (some m) (planF []) ++ [])) : LO) from (mR (mL he)))) (by rw [plan0]; decide))) ?_
 rintro ⟨⟩ -
 refine Lp 3 [(1,false,none)] (some [22]) (fun _ => [((.bool true : Value) = .bool true)]) ⟨rfl,trivial⟩ ?_
 refine CfgL.known 22 (b := (((planF []).length : Int) == (0 : Int))) kr true (by rw [plan0]; rfl) ?_
 refine Le (Eff.callA (vs := []) (.bool true) rfl Tryz.func15 rfl rfl kr (fun w1 h => awake01 w1 (fun e he => h.ro e (by rw [List.mem_singleton.1 he]; exact mH)))) ?_
 rintro ⟨⟩ -
 refine CfgL.pure 2 [] (some [25]) (Γ' := [(25,[],.bool true)]) (nd := (fun _ => [])) kr (fun _ => kr) trivial ?_
 refine Le (Eff.callA (vs := []) (.bool true) rfl Tryz.func16 rfl rfl kr (fun w1 h => awakeE20 w1)) ?_
 rintro ⟨⟩ -
 refine Lp 2 [] (some [0]) n0 trivial ?_
 refine CfgL.done rfl ?_
 refine Cfg.ret rfl (rs := [.tmp 0]) rfl [.bool true] ⟨kr,trivial⟩ (fun w1 hp => ?_)
 exact ⟨rfl,hp.ext⟩
end Go.Proofs.YtbeegepcdglcaaaGreatDoor
namespace Go.Proofs.YtbeegepcdglcaaaGreatDoor
open K
set_option linter.unusedVariables false
def rightF (s : List UInt8) : List UInt8 := bodyOf s ++ shaD (bodyOf s)
theorem rightF_len {s : List UInt8} (h : ¬ s.length < 32) : (rightF s).length = s.length := by
 have h1 : (shaD (bodyOf s)).length = 32 := shaD_len _
 unfold rightF bodyOf at *
 rw [List.length_append,h1,List.length_take]; omega
theorem right_tx {s : List UInt8} {n : Nat} (h : n = s.length - 32) : (tx s).extract 0 n ++ tx (sdg ((tx s).extract 0 n)) = tx (rightF s) := by
 rw [cut_body h]; exact tx_app _ _
theorem openF_zero {s : List UInt8} (hs : s.length ≤ 3000) (h : (openF s).1 = 0) : ∃ ts,openF s = (0,planF ts) ∧ (∀ t ∈ ts,t.size ≤ 32768) ∧ ts.length ≤ 1000000 := by
 by_cases h0 : s.length < 32
 ·rw [openF_short h0] at h; exact absurd h (by decide)
 ·by_cases h1 : s.drop (s.length - 32) ≠ shaD (bodyOf s)
  ·rw [openF_sum h0 h1] at h; exact absurd h (by decide)
  ·have hbl : (bodyOf s).length = s.length - 32 := by unfold bodyOf; rw [List.length_take]; omega
   rcases openF_eq h0 h1 with ho | ⟨ts,hr,hf,ho⟩
   ·rw [ho] at h; exact absurd h (by decide)
   ·have hrt := rdT_ok (l := bodyOf s) om
    have hT : rdT (bodyOf s) = ts := by unfold rdT; rw [hr]; rfl
    rw [hT] at hrt
    exact ⟨ts,ho,hrt.1,hrt.2⟩
theorem openF_bad {s : List UInt8} (h : (openF s).1 ≠ 0) : (openF s).2 = [] := by
 by_cases h0 : s.length < 32
 ·rw [openF_short h0]
 ·by_cases h1 : s.drop (s.length - 32) ≠ shaD (bodyOf s)
  ·rw [openF_sum h0 h1]
  ·rcases openF_eq h0 h1 with ho | ⟨ts,hr,hf,ho⟩
   ·rw [ho]
   ·rw [ho] at h; exact absurd rfl h
theorem openY {s : List UInt8} {ts : List ByteArray} {kt : Array Value} {tt0 : TypeId} {fr0 : Nat × Nat} (w : World) (hK : KT kt) (hR : Has w [(0,Obj.cells kt tt0 fr0)]) (hs : s.length ≤ 3000) (hO : openF s = (0,planF ts)) :
  Calls Tryz.prog 9 #[.string (tx s)] w fun e w' => ∃ m,PkOk m (planF ts) ∧ e = .returned (.tuple #[.pointer (some ⟨m.pb,0,none⟩),.int .i64 0]) ∧ ∃ R1,HP w [] R1 (pkM (some m) (planF ts)) w' := by
 refine (pkOpen s w hK hR om).mono fun e w' ⟨o,a1,a2,a3,a4⟩ => ?_
 rw [hO] at a1 a2 a3 a4
 cases o with
 | none => exact absurd rfl (a2.1 rfl)
 | some m => exact ⟨m,a1 m rfl,a3,a4⟩
theorem openN {s : List UInt8} {kt : Array Value} {tt0 : TypeId} {fr0 : Nat × Nat} (w : World) (hK : KT kt) (hR : Has w [(0,Obj.cells kt tt0 fr0)]) (hs : s.length ≤ 3000) (hO : ¬ (openF s).1 = 0) :
  Calls Tryz.prog 9 #[.string (tx s)] w fun e w' => e = .returned (.tuple #[.pointer none,.int .i64 (openF s).1]) ∧ Ext [] w w' := by
 refine (pkOpen s w hK hR om).mono fun e w' ⟨o,a1,a2,a3,R1,a4⟩ => ?_
 obtain rfl := a2.2 hO
 exact ⟨a3,a4.ext⟩
theorem docY {s : List UInt8} {ts : List ByteArray} (w : World) (hs : s.length ≤ 3000) (hO : openF s = (0,planF ts)) :
  Calls Tryz.prog 13 #[.string (tx s)] w fun e w' => ∃ ow : K.Own,OwnOk ow 66 (planF ts).length ((planF ts).flatMap enr) ∧ e = .returned (.tuple #[.slice (Own.a ow) (planF ts).length (Own.c ow),.int .i64 0]) ∧ ∃ R1,HP w [] R1 (Own.o 49 ((planF ts).flatMap enr) ow) w' := by
 have h9 := rOpen21 s w hs
 rw [docO_eq hs,hO] at h9
 exact h9
theorem docN {s : List UInt8} (w : World) (hs : s.length ≤ 3000) (hO : ¬ (openF s).1 = 0) :
  Calls Tryz.prog 13 #[.string (tx s)] w fun e w' => ∃ ow : K.Own,True ∧ e = .returned (.tuple #[.slice (Own.a ow) 0 (Own.c ow),.int .i64 (openF s).1]) ∧ ∃ R1,HP w [] R1 [] w' := by
 have h9 := rOpen21 s w hs
 rw [docO_eq hs] at h9
 refine h9.mono fun e w' ⟨ow,a1,a2,R1,a3⟩ => ?_
 rw [openF_bad hO] at a2
 exact ⟨ow,trivial,a2,R1,a3.sub (List.nil_sublist _)⟩
set_option maxRecDepth 100000 in
set_option maxHeartbeats 8000000 in
theorem packOpensWalk (s : List UInt8) (rt : Bool) {t0 : TypeId} {fr0 : Nat × Nat} (w : World) (hR : Has w [(0,Obj.cells (wv Kc) t0 fr0)]) :
  Calls Tryz.prog 4 #[.string (tx s),.bool rt] w fun e w' => e = .returned (.bool true) ∧ Ext [] w w' := by
 have hts := tx_size s
 refine enter (vs := [.string (tx s),.bool rt]) [] [(0,Obj.cells (wv Kc) t0 fr0)] [] Tryz.func4 rfl kr (HP.ofHas hR) ?_
 refine Rg [0,1] [] n0 trivial ?_
 refine Cfg.begL rfl ?_
 refine Le (Eff.callA (vs := []) (.bool true) rfl Tryz.func5 rfl rfl kr (fun w1 h => awake21 w1 (fun e he => h.ro e (by rw [List.mem_singleton.1 he]; exact mH)))) ?_
 rintro ⟨⟩ -
 refine Lp 1 [] (some [0,1,10]) n0 trivial ?_
 refine CfgL.done rfl ?_
 refine Cfg.condF rfl (b := false) kr rfl ?_
 refine Rg [0,1,13] [] n0 trivial ?_
 refine Cfg.cond rfl (b := (decide (((tx s).size : Int) > (3000 : Int)))) kr (fun c2r => ?_) (fun c2r => ?_)
 ·have c2 := (dT c2r)
  refine Rg [4] [] n0 trivial ?_
  refine Cfg.ret rfl (rs := [.tmp 4]) rfl [.bool true] ⟨kr,trivial⟩ (fun w1 hp => ?_)
  exact ⟨rfl,hp.ext⟩
 ·have c2 := (dF c2r)
  refine Rg [0,19] [] n0 trivial ?_
  refine Cfg.cond rfl (b := (rt && (decide (((tx s).size : Int) ≥ (32 : Int))))) kr (fun c3r => ?_) (fun c3r => ?_)
  ·have c3 : ((rt = true) ∧ (((tx s).size : Int) ≥ (32 : Int))) := ⟨(andT1 c3r),(dT (andT2 c3r))⟩
   have hex : ((tx s).extract 0 (((tx s).size : Int) - 32).toNat).size = s.length - 32 := by rw [cut_body om,tx_size]; unfold bodyOf; rw [List.length_take]; omega
   have hd32 : (tx (sdg ((tx s).extract 0 (((tx s).size : Int) - 32).toNat))).size = 32 := by rw [tx_size]; exact sdg_len _
   refine Cfg.begA rfl kr [] ?_
   refine Ap (List.range 10) [] (some [0,24,29]) (tF 10 4) .slnil 4 (fun _ => [(i6 (((tx s).size : Int) - 32)),(0 ≤ (((tx s).size : Int) - 32)),(0 ≤ ((((tx s).size : Int) - 32)).toNat ∧ ((((tx s).size : Int) - 32)).toNat ≤ (tx s).size),(i6 (((tx s).size : Int) - 32)),(0 ≤ (((tx s).size : Int) - 32)),(0 ≤ ((((tx s).size : Int) - 32)).toNat ∧ ((((tx s).size : Int) - 32)).toNat ≤ (tx s).size)]) ⟨om,om,om,om,om,om,trivial⟩ ?_
   refine Ae 10 rfl 3  (Eff.callA (vs := [.string ((tx s).extract 0 (((((tx s).size : Int) - 32)).toNat))]) (.agg (bv (sdg ((tx s).extract 0 (((((tx s).size : Int) - 32)).toNat))))) rfl Tryz.func12 rfl rfl kr (fun w1 _ => rSum ((tx s).extract 0 (((((tx s).size : Int) - 32)).toNat)) w1 om)) (fun _ _ => List.nil_sublist _) ?_
   rintro ⟨⟩ -
   refine Ae 11 rfl 2  (Eff.callA (vs := [.agg (bv (sdg ((tx s).extract 0 (((((tx s).size : Int) - 32)).toNat))))]) (.string (tx (sdg ((tx s).extract 0 (((((tx s).size : Int) - 32)).toNat))))) rfl Tryz.func11 rfl rfl kr (fun w1 _ => rDigest (sdg ((tx s).extract 0 (((((tx s).size : Int) - 32)).toNat))) w1 (sdg_len _))) (fun _ _ => List.nil_sublist _) ?_
   rintro ⟨⟩ -
   refine Ap [12,13] [] (some [0]) (tF 14 0) .slnil 0 (fun _ => [(((tx s).extract 0 (((((tx s).size : Int) - 32)).toNat)).size + (tx (sdg ((tx s).extract 0 (((((tx s).size : Int) - 32)).toNat)))).size ≤ 9223372036854775807)]) ⟨om,trivial⟩ ?_
   refine CfgA.done kr ?_
   by_cases hof : (openF (rightF s)).1 = 0
   ·
    refine Cfg.setS 0 (congrArg Value.string (show (((tx s).extract 0 (((((tx s).size : Int) - 32)).toNat)) ++ (tx (sdg ((tx s).extract 0 (((((tx s).size : Int) - 32)).toNat))))) = (tx (rightF s)) from right_tx om)) ?_
    have hrl : (rightF s).length = s.length := rightF_len om
    have hl3 : ((rightF s)).length ≤ 3000 := by omega
    obtain ⟨ts,hO,hs3,hn3⟩ := openF_zero (s := (rightF s)) om hof
    refine Cfg.begL rfl ?_
    refine Lp 1 [] none n0 trivial ?_
    refine Le (Eff.callH (vs := [.string (tx (rightF s))]) (fun m : PkM => .tuple #[.pointer (some ⟨m.pb,0,none⟩),.int .i64 0]) [] (fun m => pkM (some m) (planF ts)) (fun m => PkOk m (planF ts)) [] [] rfl rfl Tryz.func9 rfl rfl kr (fun w1 h _ _ => (openY w1 kt_wv (fun e he => h.ro e (by rw [List.mem_singleton.1 he]; exact mH)) om hO).mono fun _ _ ⟨m,a1,a2,a3⟩ => ⟨m,a1,a2,a3⟩)) ?_
    rintro m hm
    refine Lp 5 [] (some [0,5,6]) n0 trivial ?_
    refine CfgL.done rfl ?_
    refine Cfg.begL rfl ?_
    refine Lp 1 [] (some [5,6,39]) n0 trivial ?_
    refine Le (Eff.callH (vs := [.string (tx (rightF s))]) (fun ow : K.Own => .tuple #[.slice (Own.a ow) (planF ts).length (Own.c ow),.int .i64 0]) [] (fun ow => Own.o 49 ((planF ts).flatMap enr) ow) (fun ow => OwnOk ow 66 (planF ts).length ((planF ts).flatMap enr)) (pkM (some m) (planF ts)) [] rfl rfl Tryz.func13 rfl rfl kr (fun w1 h _ _ => (docY w1 om hO).mono fun _ _ ⟨ow,a1,a2,a3⟩ => ⟨ow,a1,a2,a3⟩)) ?_
    rintro ow hok
    have hok : OwnOk ow 66 (planF ts).length ((planF ts).flatMap enr) := hok
    refine Lp 5 [] (some [5,6,7,8]) n0 trivial ?_
    refine CfgL.done rfl ?_
    refine Cfg.begL rfl ?_
    refine Lp 13 [dZ,dZ,dZ,dZ,(1,false,none),(1,false,none),(1,false,none),(1,false,none),(1,false,none),dZ,dZ,(1,false,none),(1,false,none)] (some [53,54,55]) (fun _ => [((.bool true : Value) = .bool true),((.bool true : Value) = .bool true),((.bool true : Value) = .bool true),((.bool true : Value) = .bool true),((.bool true : Value) = .bool true),((.bool true : Value) = .bool true),((.bool true : Value) = .bool true)]) ⟨rfl,rfl,rfl,rfl,rfl,rfl,rfl,trivial⟩ ?_
    refine Le (Eff.callH (vs := [.pointer (some ⟨m.pb,0,none⟩),.slice (Own.a ow) ((planF ts).length) (Own.c ow)]) (fun _ : Unit => .bool true) (pkM (some m) (planF ts) ++ (Own.o 49 ((planF ts).flatMap enr) ow ++ [])) (fun _ => (pkM (some m) (planF ts) ++ (Own.o 49 ((planF ts).flatMap enr) ow ++ []))) (fun _ => True) [] [] (by simp only [List.nil_append,List.append_nil]) rfl Tryz.func10 rfl rfl kr (fun w1 h hA hd => (same21 m (planF ts) (Own.a ow) (Own.c ow) ow w1 hm (fun e he => (planF_ok hs3 e he).l) (planF_nodup ts) (fun h0 => own_at hok h0) hA hd (by have := planF_len ts; omega)).mono fun _ _ ⟨h1,h2⟩ => ⟨(),trivial,h1,h2⟩)) ?_
    rintro ⟨⟩ -
    refine Lp 2 [] (some [4]) n0 trivial ?_
    refine CfgL.done rfl ?_
    refine Cfg.ret rfl (rs := [.tmp 4]) rfl [.bool true] ⟨kr,trivial⟩ (fun w1 hp => ?_)
    exact ⟨rfl,hp.ext⟩
   ·
    refine Cfg.setS 0 (congrArg Value.string (show (((tx s).extract 0 (((((tx s).size : Int) - 32)).toNat)) ++ (tx (sdg ((tx s).extract 0 (((((tx s).size : Int) - 32)).toNat))))) = (tx (rightF s)) from right_tx om)) ?_
    have hrl : (rightF s).length = s.length := rightF_len om
    have hl3 : ((rightF s)).length ≤ 3000 := by omega
    refine Cfg.begL rfl ?_
    refine Lp 1 [] none n0 trivial ?_
    refine Le (Eff.callA (vs := [.string (tx (rightF s))]) (.tuple #[.pointer none,.int .i64 (openF (rightF s)).1]) rfl Tryz.func9 rfl rfl kr (fun w1 h => openN w1 kt_wv (fun e he => h.ro e (by rw [List.mem_singleton.1 he]; exact mH)) om hof)) ?_
    rintro ⟨⟩ -
    refine Lp 5 [] (some [0,5,6]) n0 trivial ?_
    refine CfgL.done rfl ?_
    refine Cfg.begL rfl ?_
    refine Lp 1 [] (some [5,6,39]) n0 trivial ?_
    refine Le (Eff.callH (vs := [.string (tx (rightF s))]) (fun ow : K.Own => .tuple #[.slice (Own.a ow) 0 (Own.c ow),.int .i64 (openF (rightF s)).1]) [] (fun _ => []) (fun _ => True) [] [] rfl rfl Tryz.func13 rfl rfl kr (fun w1 h _ _ => docN w1 om hof)) ?_
    rintro ow -
    refine Lp 5 [] (some [5,6,7,8]) n0 trivial ?_
    refine CfgL.done rfl ?_
    refine Cfg.begL rfl ?_
    refine Lp 11 [] (some [5,7,53]) n0 trivial ?_
    refine CfgL.known 53 (b := ((((openF (rightF s)).1) == ((openF (rightF s)).1)) && (false == (((openF (rightF s)).1) == (0 : Int))))) kr true (by rw [beq_self_eq_true,beq_eq_false_iff_ne.2 hof]; rfl) ?_
    refine Lp 2 [(1,false,none),(1,false,none)] (some [53,54,55]) (fun _ => [((.bool true : Value) = .bool true),((.bool true : Value) = .bool true)]) ⟨rfl,rfl,trivial⟩ ?_
    refine Le (Eff.callA (vs := [.pointer none,.slice (Own.a ow) 0 (Own.c ow)]) (.bool true) rfl Tryz.func10 rfl rfl kr (fun w1 h => same21N (Own.a ow) (Own.c ow) w1)) ?_
    rintro ⟨⟩ -
    refine Lp 2 [] (some [4]) n0 trivial ?_
    refine CfgL.done rfl ?_
    refine Cfg.ret rfl (rs := [.tmp 4]) rfl [.bool true] ⟨kr,trivial⟩ (fun w1 hp => ?_)
    exact ⟨rfl,hp.ext⟩
  ·have c3 : ((rt = false) ∨ (¬ (((tx s).size : Int) ≥ (32 : Int)))) := ((andF c3r).elim (fun h => Or.inl h) (fun h => Or.inr (dF h)))
   by_cases hof : (openF s).1 = 0
   ·
    have hl3 : (s).length ≤ 3000 := by omega
    obtain ⟨ts,hO,hs3,hn3⟩ := openF_zero (s := s) om hof
    refine Cfg.begL rfl ?_
    refine CfgL.pure 1 [] (some [0,34]) (Γ' := [(34,[],.string (tx s)),(0,[],.string (tx s))]) (nd := (fun _ => [])) kr (fun _ => kr) trivial ?_
    refine Le (Eff.callH (vs := [.string (tx s)]) (fun m : PkM => .tuple #[.pointer (some ⟨m.pb,0,none⟩),.int .i64 0]) [] (fun m => pkM (some m) (planF ts)) (fun m => PkOk m (planF ts)) [] [] rfl rfl Tryz.func9 rfl rfl kr (fun w1 h _ _ => (openY w1 kt_wv (fun e he => h.ro e (by rw [List.mem_singleton.1 he]; exact mH)) om hO).mono fun _ _ ⟨m,a1,a2,a3⟩ => ⟨m,a1,a2,a3⟩)) ?_
    rintro m hm
    refine Lp 5 [] (some [0,5,6]) n0 trivial ?_
    refine CfgL.done rfl ?_
    refine Cfg.begL rfl ?_
    refine Lp 1 [] (some [5,6,39]) n0 trivial ?_
    refine Le (Eff.callH (vs := [.string (tx s)]) (fun ow : K.Own => .tuple #[.slice (Own.a ow) (planF ts).length (Own.c ow),.int .i64 0]) [] (fun ow => Own.o 49 ((planF ts).flatMap enr) ow) (fun ow => OwnOk ow 66 (planF ts).length ((planF ts).flatMap enr)) (pkM (some m) (planF ts)) [] rfl rfl Tryz.func13 rfl rfl kr (fun w1 h _ _ => (docY w1 om hO).mono fun _ _ ⟨ow,a1,a2,a3⟩ => ⟨ow,a1,a2,a3⟩)) ?_
    rintro ow hok
    have hok : OwnOk ow 66 (planF ts).length ((planF ts).flatMap enr) := hok
    refine Lp 5 [] (some [5,6,7,8]) n0 trivial ?_
    refine CfgL.done rfl ?_
    refine Cfg.begL rfl ?_
    refine Lp 13 [dZ,dZ,dZ,dZ,(1,false,none),(1,false,none),(1,false,none),(1,false,none),(1,false,none),dZ,dZ,(1,false,none),(1,false,none)] (some [53,54,55]) (fun _ => [((.bool true : Value) = .bool true),((.bool true : Value) = .bool true),((.bool true : Value) = .bool true),((.bool true : Value) = .bool true),((.bool true : Value) = .bool true),((.bool true : Value) = .bool true),((.bool true : Value) = .bool true)]) ⟨rfl,rfl,rfl,rfl,rfl,rfl,rfl,trivial⟩ ?_
    refine Le (Eff.callH (vs := [.pointer (some ⟨m.pb,0,none⟩),.slice (Own.a ow) ((planF ts).length) (Own.c ow)]) (fun _ : Unit => .bool true) (pkM (some m) (planF ts) ++ (Own.o 49 ((planF ts).flatMap enr) ow ++ [])) (fun _ => (pkM (some m) (planF ts) ++ (Own.o 49 ((planF ts).flatMap enr) ow ++ []))) (fun _ => True) [] [] (by simp only [List.nil_append,List.append_nil]) rfl Tryz.func10 rfl rfl kr (fun w1 h hA hd => (same21 m (planF ts) (Own.a ow) (Own.c ow) ow w1 hm (fun e he => (planF_ok hs3 e he).l) (planF_nodup ts) (fun h0 => own_at hok h0) hA hd (by have := planF_len ts; omega)).mono fun _ _ ⟨h1,h2⟩ => ⟨(),trivial,h1,h2⟩)) ?_
    rintro ⟨⟩ -
    refine Lp 2 [] (some [4]) n0 trivial ?_
    refine CfgL.done rfl ?_
    refine Cfg.ret rfl (rs := [.tmp 4]) rfl [.bool true] ⟨kr,trivial⟩ (fun w1 hp => ?_)
    exact ⟨rfl,hp.ext⟩
   ·
    have hl3 : (s).length ≤ 3000 := by omega
    refine Cfg.begL rfl ?_
    refine Lp 1 [] (some [0,34]) n0 trivial ?_
    refine Le (Eff.callA (vs := [.string (tx s)]) (.tuple #[.pointer none,.int .i64 (openF s).1]) rfl Tryz.func9 rfl rfl kr (fun w1 h => openN w1 kt_wv (fun e he => h.ro e (by rw [List.mem_singleton.1 he]; exact mH)) om hof)) ?_
    rintro ⟨⟩ -
    refine Lp 5 [] (some [0,5,6]) n0 trivial ?_
    refine CfgL.done rfl ?_
    refine Cfg.begL rfl ?_
    refine CfgL.pure 1 [] (some [5,6,39]) (Γ' := [(39,[],.string (tx s)),(6,[],.int .i64 ((openF s).1)),(5,[],.pointer none)]) (nd := (fun _ => [])) kr (fun _ => kr) trivial ?_
    refine Le (Eff.callH (vs := [.string (tx s)]) (fun ow : K.Own => .tuple #[.slice (Own.a ow) 0 (Own.c ow),.int .i64 (openF s).1]) [] (fun _ => []) (fun _ => True) [] [] rfl rfl Tryz.func13 rfl rfl kr (fun w1 h _ _ => docN w1 om hof)) ?_
    rintro ow -
    refine Lp 5 [] (some [5,6,7,8]) n0 trivial ?_
    refine CfgL.done rfl ?_
    refine Cfg.begL rfl ?_
    refine Lp 11 [] (some [5,7,53]) n0 trivial ?_
    refine CfgL.known 53 (b := ((((openF s).1) == ((openF s).1)) && (false == (((openF s).1) == (0 : Int))))) kr true (by rw [beq_self_eq_true,beq_eq_false_iff_ne.2 hof]; rfl) ?_
    refine Lp 2 [(1,false,none),(1,false,none)] (some [53,54,55]) (fun _ => [((.bool true : Value) = .bool true),((.bool true : Value) = .bool true)]) ⟨rfl,rfl,trivial⟩ ?_
    refine Le (Eff.callA (vs := [.pointer none,.slice (Own.a ow) 0 (Own.c ow)]) (.bool true) rfl Tryz.func10 rfl rfl kr (fun w1 h => same21N (Own.a ow) (Own.c ow) w1)) ?_
    rintro ⟨⟩ -
    refine Lp 2 [] (some [4]) n0 trivial ?_
    refine CfgL.done rfl ?_
    refine Cfg.ret rfl (rs := [.tmp 4]) rfl [.bool true] ⟨kr,trivial⟩ (fun w1 hp => ?_)
    exact ⟨rfl,hp.ext⟩
end Go.Proofs.YtbeegepcdglcaaaGreatDoor
