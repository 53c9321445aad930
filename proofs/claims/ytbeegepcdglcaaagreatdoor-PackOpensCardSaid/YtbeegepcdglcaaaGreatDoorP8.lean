/- Texts on which the proof of this claim stands: Pk7, Pk8, Pk9, PkL, PkT, PkAp, PkAq, Wire5, PkAr, PkAs. -/
import Derived.Test.YtbeegepcdglcaaaGreatDoorP7
import Derived.Test.YtbeegepcdglcaaaGreatDoorP1
import Derived.Test.YtbeegepcdglcaaaGreatDoorP2
namespace Go.Proofs.YtbeegepcdglcaaaGreatDoor
open K
set_option linter.unusedVariables false
set_option linter.unusedSimpArgs false in
set_option maxRecDepth 100000 in
set_option maxHeartbeats 8000000 in
theorem rBuild (la : Option Addr) (ca : Nat) (ts : List ByteArray) (Rl : List (Nat × Obj)) (w : World) (hI : InS Rl la ts.length (fun j => .string (ts.getD j ByteArray.empty))) (hR : Has w Rl) (hn : ts.length ≤ 2000) (hsz : ∀ s ∈ ts,s.size ≤ 32768) :
  Calls Tryz.prog 8 #[.slice la ts.length ca] w fun e w' => ∃ ow : K.Own,OwnOk ow 66 (planF ts).length ((planF ts).flatMap enr) ∧ e = .returned (.tuple #[.string (tx (fileF (planF ts))),.slice (Own.a ow) (planF ts).length (Own.c ow)]) ∧ ∃ R1,HP w [] R1 (Own.o 49 ((planF ts).flatMap enr) ow) w' := by
 refine enter (vs := [.slice la ts.length ca]) [] Rl [] Tryz.func8 rfl kr (HP.ofHas hR) ?_
 refine Rg [0] [] n0 trivial ?_
 refine Cfg.begL rfl ?_
 refine Lp 1 [] (some [11]) n0 trivial ?_
 refine Le (Eff.callH (vs := [.slice la ts.length ca]) (fun ow : K.Own => .slice (Own.a ow) (srtL ts).length (Own.c ow)) [] (fun ow => Own.o 49 ((srtL ts).flatMap enr) ow) (fun ow => OwnOk ow 66 (srtL ts).length ((srtL ts).flatMap enr)) [] [] rfl rfl Tryz.func19 rfl rfl kr (fun w1 h _ _ => (rSorted la ca ts Rl w1 hI (h.hasR (fun e he => he)) om (fun s hs => Nat.le_trans (hsz s hs) (by decide))).mono fun _ _ ⟨ow,a1,a2,a3⟩ => ⟨ow,a1,a2,a3⟩)) ?_
 rintro ow hok
 refine Lp 1 [] (some [4]) n0 trivial ?_
 refine CfgL.done rfl ?_
 refine Cfg.begL rfl ?_
 refine Lp 3 [] (some [4,15]) n0 trivial ?_
 refine Le (Eff.callA (vs := [.int .u64 (((srtL ts).length : Int) % 18446744073709551616),.int .i64 4]) (.string (beS (srtL ts).length 4)) rfl Tryz.func20 rfl rfl kr (fun w1 _ => rNumMod (srtL ts).length (by have := srtL_len ts; omega) w1)) ?_
 rintro ⟨⟩ -
 refine Lp 2 [] (some [4,5]) (fun _ => [(4 + (beS (srtL ts).length 4).size ≤ 9223372036854775807)]) ⟨(by (try have := mk_len ye.t x.t); (try have := md_size ye.t x.t); (try have hi1 := hxl.id); (try have hi2 := hyel.id); (try have hs9 := shaD_len (bodyF (planF ts))); (try simp only [ByteArray.size_append,tx_size,text4_len,beS_size]); (try simp only [show (⟨#[0]⟩ : ByteArray).size = 1 from rfl,show (⟨#[1]⟩ : ByteArray).size = 1 from rfl,show (⟨#[80,65,67,75]⟩ : ByteArray).size = 4 from rfl]); omega),trivial⟩ ?_
 refine CfgL.done rfl ?_
 obtain ⟨L,hLd⟩ : ∃ L,L = srtL ts := ⟨_,rfl⟩
 have hLl : ∀ e ∈ L,EnL e := fun e he => by rw [hLd] at he; exact srtL_l ts e he
 have hLo : ∀ e ∈ L,EnOk e := fun e he => by rw [hLd,srtL_eq] at he; exact srt_ok hsz e he
 have hLp : ∀ e ∈ L,e.p = 0 := fun e he => by rw [hLd] at he; rw [(srtL_mk0 ts e he).1]; rfl
 have hLn := srtL_len ts
 rw [← hLd] at hok hLn
 refine Cfg.setS 4 (congrArg (fun (xq : Nat) => (.slice (Own.a ow) xq (Own.c ow) : Value)) (show ((srtL ts).length) = L.length from by rw [hLd])) ?_
 refine Cfg.setS 5 (congrArg Value.string (show ((⟨#[80,65,67,75]⟩ : ByteArray) ++ (beS (srtL ts).length 4)) = (tx (bodyP L 0)) from by rw [← hLd]; exact bodyP_zero L)) ?_
 refine Cfg.setO (congrArg (fun (xq : List Value) => (([] ++ (Own.o 49 xq ow ++ [])) : LO)) (show _ = (L.flatMap enr) from by rw [hLd])) ?_
 refine Rg [4,5,18,19,20] [] n0 trivial ?_
 refine Cfg.loop rfl (ι := Nat) (fun (i : Nat) => [(20,[],.int .i64 (i : Int)),(19,[],.int .i64 (L.length : Int)),(18,[],.slice (Own.a ow) L.length (Own.c ow)),(5,[],.string (tx (bodyP L i))),(4,[],.slice (Own.a ow) L.length (Own.c ow))]) (fun (i : Nat) => ([] ++ (Own.o 49 ((pre L i).flatMap enr) ow ++ []))) (fun (i : Nat) => (i ≤ L.length) ∧ (OwnOk ow 66 L.length ((pre L i).flatMap enr))) (fun (i : Nat) => L.length - i) 0 ?_ (Conv.mk kr) slr ?_
 ·exact ⟨Nat.zero_le _,by exact hok⟩
 ·rintro i ⟨hi,hok2⟩
  refine Rg [4,5,18,19,20,21] [] n0 trivial ?_
  refine Cfg.cond rfl (b := (decide ((i : Int) < (L.length : Int)))) kr (fun c1r => ?_) (fun c1r => ?_)
  ·have c1 := (dT c1r)
   have hpl := pre_len L (i := i) om
   have hch := chn_tl L (i := i) om
   obtain ⟨b2,bcs,hba,hbm,hbc⟩ := own_at (e := 49) hok2 om
   obtain ⟨x,hx⟩ : ∃ x,x = L.getD i ez := ⟨_,rfl⟩
   have hxm : x ∈ L := by rw [hx]; exact K.getD_mem om
   have hxl : EnL x := hLl _ hxm
   have hxs : x.t.size ≤ 32768 := (hLo _ hxm).t
   have hxp0 := hLp _ hxm
   have hxp : x = (pre L i).getD i ez := by rw [pre_at om]; exact hx
   have hpre := pre_l hLl i
   have hbl := bodyP_len hLo i
   refine Cfg.setS 18 (congrArg (fun (xq : Value) => (xq : Value)) (show .slice (Own.a ow) L.length (Own.c ow) = .slice (some ⟨b2,0,none⟩) L.length (Own.c ow) from by rw [hba])) ?_
   refine Cfg.setS 4 (congrArg (fun (xq : Value) => (xq : Value)) (show .slice (Own.a ow) L.length (Own.c ow) = .slice (some ⟨b2,0,none⟩) L.length (Own.c ow) from by rw [hba])) ?_
   refine Cfg.begL rfl ?_
   refine Lp 3 [dZ,dZ,(dS (.agg (enr x).toArray))] (some [4,5,18,19,20,22,24]) (fun S => [(0 ≤ (i : Int) ∧ (i : Int) < (L.length : Int)),(∀ w1,S w1 → (loadVar 49 ⟨b2,(i * 66),none⟩).run Tryz.prog w1 = .ok (.agg (enr x).toArray) w1)]) ⟨om,(fun w1 h => load_list (vs := enr x) Tryz.underlying49 rfl kr (enr_len hxl) (fun q9 v hq9 => (cell_cells (h.own _ (show _ ∈ (([] ++ (Own.o 49 ((pre L i).flatMap enr) ow ++ [])) : LO) from (mR (mL hbm))))).trans (er_cell hpre hbc (i := i) om (by rw [← hxp]; exact hq9)))),trivial⟩ ?_
   refine Le (Eff.alloc (z := (.agg (enr ez).toArray)) rfl kr) ?_
   rintro xb ⟨hxb,nxb⟩
   refine Lp 1 [] (some [4,5,6,7,18,19,20,24]) n0 trivial ?_
   refine Le (Eff.storeN (b := xb) (off := 0) (vs := (enr x).toArray) (n := 66) rfl kr kr kr (by rw [List.size_toArray,enr_len hxl]) (fun q hq => all_enr _ q hq) 0 (cs := (enr ez).toArray) (e := 49) kr (by rw [zero_er]; decide)) ?_
   rintro ⟨⟩ -
   refine CfgL.setO (congrArg (fun (xq : Array Value) => (([(xb,.cells xq 49 (0,0))] ++ (Own.o 49 ((pre L i).flatMap enr) ow ++ [])) : LO)) (show _ = ((enr x).toArray) from spl_all (by rw [List.size_toArray,zero_er,enr_len hxl]))) ?_
   refine CfgL.done rfl ?_
   refine Cg (Γ' := [(6,[],.int .i64 (i : Int)),(7,[],pT xb),(20,[],.int .i64 (i : Int)),(19,[],.int .i64 (L.length : Int)),(18,[],.slice (some ⟨b2,0,none⟩) L.length (Own.c ow)),(5,[],.string (tx (bodyP L i))),(4,[],.slice (some ⟨b2,0,none⟩) L.length (Own.c ow))]) ?_
   refine Rg [4,5,6,7,8,18,19,20] [] n0 trivial ?_
   refine Rg [4,5,6,7,8,9,18,19,20] [] n0 trivial ?_
   refine Cfg.setS 8 (congrArg (fun (xq : Int) => (.int .i64 xq : Value)) (show (-1) = (atZ (atK (chn (L.take i)) x 0)) from by rw [atK_zero]; rfl)) ?_
   refine Cfg.loop rfl (ι := Nat) (fun (k : Nat) => [(9,[],.int .i64 (k : Int)),(8,[],.int .i64 (atZ (atK (chn (L.take i)) x k))),(6,[],.int .i64 (i : Int)),(7,[],pT xb),(20,[],.int .i64 (i : Int)),(19,[],.int .i64 (L.length : Int)),(18,[],.slice (some ⟨b2,0,none⟩) L.length (Own.c ow)),(5,[],.string (tx (bodyP L i))),(4,[],.slice (some ⟨b2,0,none⟩) L.length (Own.c ow))]) (fun (k : Nat) => ([(xb,.cells ((enr x).toArray) 49 (0,0))] ++ (Own.o 49 ((pre L i).flatMap enr) ow ++ []))) (fun (k : Nat) => (k ≤ i)) (fun (k : Nat) => i - k) 0 ?_ (Conv.mk kr) slr ?_
   ·exact Nat.zero_le _
   ·rintro k hk
    refine Rg [4,5,6,7,8,9,18,19,20,27] [] n0 trivial ?_
    refine Cfg.cond rfl (b := (decide ((k : Int) < (i : Int)))) kr (fun c2r => ?_) (fun c2r => ?_)
    ·have c2 := (dT c2r)
     obtain ⟨y,hyd⟩ : ∃ y,y = (chn (L.take i)).getD k ez := ⟨_,rfl⟩
     have hyp : y = (pre L i).getD k ez := by rw [pre_lt om om]; exact hyd
     have hyl : EnL y := by rw [hyp]; exact hpre _ (K.getD_mem om)
     have hzz := @atZ_le (chn (L.take i)) x k
     refine Cfg.regD rfl kr [4,5,6,7,8,9,18,19,20,54] [dZ,(dS (.string x.t)),dZ,dZ,dZ,dZ,dZ,dZ,dZ,(dS (.string y.t)),dZ,dZ,dZ,dZ,dZ,dZ,dZ,dZ,(dS (.string y.t)),dZ,dZ,(dS (.string x.t))] (Γ' := [(54,[],.bool (((decide ((x.t.size : Int) > (0 : Int))) && (decide ((y.t.size : Int) > (0 : Int)))) && ((sbyte y.t (0 : Int)) == (sbyte x.t (0 : Int))))),(9,[],.int .i64 (k : Int)),(8,[],.int .i64 (atZ (atK (chn (L.take i)) x k))),(6,[],.int .i64 (i : Int)),(7,[],pT xb),(20,[],.int .i64 (i : Int)),(19,[],.int .i64 (L.length : Int)),(18,[],.slice (some ⟨b2,0,none⟩) L.length (Own.c ow)),(5,[],.string (tx (bodyP L i))),(4,[],.slice (some ⟨b2,0,none⟩) L.length (Own.c ow))]) (nd := (fun S => [(cE S xb 32 (.string x.t)),((.bool (decide ((x.t.size : Int) > (0 : Int))) : Value) = .bool true → (0 ≤ (k : Int) ∧ (k : Int) < (L.length : Int))),((.bool (decide ((x.t.size : Int) > (0 : Int))) : Value) = .bool true → (cE S b2 ((k * 66) + 32) (.string y.t))),((.bool ((decide ((x.t.size : Int) > (0 : Int))) && (decide ((y.t.size : Int) > (0 : Int)))) : Value) = .bool true → (0 ≤ (k : Int) ∧ (k : Int) < (L.length : Int))),((.bool ((decide ((x.t.size : Int) > (0 : Int))) && (decide ((y.t.size : Int) > (0 : Int)))) : Value) = .bool true → (cE S b2 ((k * 66) + 32) (.string y.t))),((.bool ((decide ((x.t.size : Int) > (0 : Int))) && (decide ((y.t.size : Int) > (0 : Int)))) : Value) = .bool true → (0 ≤ (0 : Int) ∧ (0 : Int) < (y.t.size : Int))),((.bool ((decide ((x.t.size : Int) > (0 : Int))) && (decide ((y.t.size : Int) > (0 : Int)))) : Value) = .bool true → (cE S xb 32 (.string x.t))),((.bool ((decide ((x.t.size : Int) > (0 : Int))) && (decide ((y.t.size : Int) > (0 : Int)))) : Value) = .bool true → (0 ≤ (0 : Int) ∧ (0 : Int) < (x.t.size : Int)))])) kr kr (fun _ => kr) ⟨(fun w1 h => h.ocell 0 rfl (by rw [List.getElem?_toArray]; exact (enr_t hxl))),(fun g0 => have q0 : ((x.t.size : Int) > (0 : Int)) := (dT (boolV g0)); om),(fun g0 => have q0 : ((x.t.size : Int) > (0 : Int)) := (dT (boolV g0)); (fun w1 h => (cell_cells (h.own _ (show _ ∈ (([(xb,Obj.cells ((enr x).toArray) 49 (0,0))] ++ (Own.o 49 ((pre L i).flatMap enr) ow ++ [])) : LO) from (mR (mL hbm))))).trans (er_cell hpre hbc (i := k) om (by rw [← hyp]; exact (enr_t hyl))))),(fun g0 => have q0 : (((x.t.size : Int) > (0 : Int)) ∧ ((y.t.size : Int) > (0 : Int))) := ⟨(dT (andT1 (boolV g0))),(dT (andT2 (boolV g0)))⟩; om),(fun g0 => have q0 : (((x.t.size : Int) > (0 : Int)) ∧ ((y.t.size : Int) > (0 : Int))) := ⟨(dT (andT1 (boolV g0))),(dT (andT2 (boolV g0)))⟩; (fun w1 h => (cell_cells (h.own _ (show _ ∈ (([(xb,Obj.cells ((enr x).toArray) 49 (0,0))] ++ (Own.o 49 ((pre L i).flatMap enr) ow ++ [])) : LO) from (mR (mL hbm))))).trans (er_cell hpre hbc (i := k) om (by rw [← hyp]; exact (enr_t hyl))))),(fun g0 => have q0 : (((x.t.size : Int) > (0 : Int)) ∧ ((y.t.size : Int) > (0 : Int))) := ⟨(dT (andT1 (boolV g0))),(dT (andT2 (boolV g0)))⟩; om),(fun g0 => have q0 : (((x.t.size : Int) > (0 : Int)) ∧ ((y.t.size : Int) > (0 : Int))) := ⟨(dT (andT1 (boolV g0))),(dT (andT2 (boolV g0)))⟩; (fun w1 h => h.ocell 0 rfl (by rw [List.getElem?_toArray]; exact (enr_t hxl)))),(fun g0 => have q0 : (((x.t.size : Int) > (0 : Int)) ∧ ((y.t.size : Int) > (0 : Int))) := ⟨(dT (andT1 (boolV g0))),(dT (andT2 (boolV g0)))⟩; om),trivial⟩ ?_
     refine Cfg.cond rfl (b := (((decide ((x.t.size : Int) > (0 : Int))) && (decide ((y.t.size : Int) > (0 : Int)))) && ((sbyte y.t (0 : Int)) == (sbyte x.t (0 : Int))))) kr (fun c3r => ?_) (fun c3r => ?_)
     ·have c3 : ((((x.t.size : Int) > (0 : Int)) ∧ ((y.t.size : Int) > (0 : Int))) ∧ ((sbyte y.t (0 : Int)) = (sbyte x.t (0 : Int)))) := ⟨⟨(dT (andT1 (andT1 c3r))),(dT (andT2 (andT1 c3r)))⟩,(beq_iff_eq.1 (andT2 c3r))⟩
      refine Rg [4,5,6,7,8,9,18,19,20] [] n0 trivial ?_
      refine Rg [4,5,6,7,8,9,18,19,20] [] (fun _ => [(i6 ((k : Int) + 1))]) ⟨om,trivial⟩ ?_
      have hat : atK (chn (L.take i)) x (k + 1) = some k := by
       rw [atK_succ om,← hyd]
       have c9 := c3
       simp only [Bool.and_eq_true,decide_eq_true_eq,beq_iff_eq,sb_fb,gt_iff_lt] at c9
       exact if_pos om
      refine Cfg.setS 8 (congrArg (fun (xq : Int) => (.int .i64 xq : Value)) (show (k : Int) = (atZ (atK (chn (L.take i)) x (k + 1))) from by rw [hat]; rfl)) ?_
      refine Cfg.again rfl (k + 1) (show k + 1 ≤ i by omega) om (Conv.mk kr) slr
     ·have c3 : (((¬ ((x.t.size : Int) > (0 : Int))) ∨ (¬ ((y.t.size : Int) > (0 : Int)))) ∨ ((sbyte y.t (0 : Int)) ≠ (sbyte x.t (0 : Int)))) := ((andF c3r).elim (fun h => Or.inl ((andF h).elim (fun h => Or.inl (dF h)) (fun h => Or.inr (dF h)))) (fun h => Or.inr (beq_eq_false_iff_ne.1 h)))
      refine Rg [4,5,6,7,8,9,18,19,20] [] (fun _ => [(i6 ((k : Int) + 1))]) ⟨om,trivial⟩ ?_
      have hat : atK (chn (L.take i)) x (k + 1) = atK (chn (L.take i)) x k := by
       rw [atK_succ om,← hyd]
       have c9 := c3
       simp only [Bool.and_eq_true,decide_eq_true_eq,beq_iff_eq,sb_fb,gt_iff_lt] at c9
       exact if_neg om
      refine Cfg.setS 8 (congrArg (fun (xq : Int) => (.int .i64 xq : Value)) (show (atZ (atK (chn (L.take i)) x k)) = (atZ (atK (chn (L.take i)) x (k + 1))) from by rw [hat])) ?_
      refine Cfg.again rfl (k + 1) (show k + 1 ≤ i by omega) om (Conv.mk kr) slr
    ·have c2 := (dF c2r)
     have hki : k = i := by omega
     refine Cfg.setS 8 (congrArg (fun (xq : Int) => (.int .i64 xq : Value)) (show (atZ (atK (chn (L.take i)) x k)) = (atZ (atK (chn (L.take i)) x i)) from by rw [hki])) ?_
     refine Cfg.begL rfl ?_
     refine Lp 3 [dZ,dZ,(dS (.agg (bv x.id)))] (some [4,5,6,7,8,18,19,20,56,58]) (fun S => [(∀ w1,S w1 → (loadVar 36 ⟨xb,0,none⟩).run Tryz.prog w1 = .ok (.agg (bv x.id)) w1)]) ⟨(fun w1 h => load_list (vs := dgc x.id) Tryz.underlying36 rfl kr (dgc_len hxl.id) (fun q9 v hq9 => h.ocell 0 rfl (by rw [List.getElem?_toArray]; exact enr_id hq9))),trivial⟩ ?_
     refine Le (Eff.callA (vs := [.agg (bv x.id)]) (.string (tx x.id)) rfl Tryz.func11 rfl rfl kr (fun w1 _ => rDigest x.id w1 hxl.id)) ?_
     rintro ⟨⟩ -
     refine Lp 2 [] (some [4,5,6,7,8,18,19,20]) (fun _ => [((tx (bodyP L i)).size + (tx x.id).size ≤ 9223372036854775807)]) ⟨(by (try have := mk_len ye.t x.t); (try have := md_size ye.t x.t); (try have hi1 := hxl.id); (try have hi2 := hyel.id); (try have hs9 := shaD_len (bodyF (planF ts))); (try simp only [ByteArray.size_append,tx_size,text4_len,beS_size]); (try simp only [show (⟨#[0]⟩ : ByteArray).size = 1 from rfl,show (⟨#[1]⟩ : ByteArray).size = 1 from rfl,show (⟨#[80,65,67,75]⟩ : ByteArray).size = 4 from rfl]); omega),trivial⟩ ?_
     refine CfgL.done rfl ?_
     by_cases hlf : (atK (chn (L.take i)) x i).isSome = true
     ·
      have hae := atK_end (acc := (chn (L.take i))) (x := x) (k := i) om
      obtain ⟨j,hj⟩ := Option.isSome_iff_exists.1 hlf
      rw [hj] at hae
      have hx0 : ¬ x.t.size = 0 := fun h => by rw [if_pos h] at hae; cases hae
      rw [if_neg hx0] at hae
      have hae := hae.symm
      have hjl := lst_lt hae
      rw [hch] at hjl
      obtain ⟨ye,hye⟩ : ∃ y,y = (chn (L.take i)).getD j ez := ⟨_,rfl⟩
      have hyep : ye = (pre L i).getD j ez := by rw [pre_lt om hjl]; exact hye
      have hyel : EnL ye := by rw [hyep]; exact hpre _ (K.getD_mem om)
      have hyes : ye.t.size ≤ 32768 := by
       have h1 : ye ∈ (chn (L.take i)) := by rw [hye]; exact K.getD_mem om
       exact (chn_ok (L.take i) (fun e he => hLo e (List.mem_of_mem_take he)) _ h1).t
      refine Cfg.setS 8 (congrArg (fun (xq : Int) => (.int .i64 xq : Value)) (show (atZ (atK (chn (L.take i)) x i)) = (j : Int) from by rw [hj]; rfl)) ?_
      refine Rg [4,5,6,7,8,18,19,20,70] [dZ,dZ,dZ,dZ,dZ,dZ,dZ,(dS (.int .i64 (ye.p : Int)))] (fun S => [((.bool (decide ((j : Int) ≥ (0 : Int))) : Value) = .bool true → (0 ≤ (j : Int) ∧ (j : Int) < (L.length : Int))),((.bool (decide ((j : Int) ≥ (0 : Int))) : Value) = .bool true → (cE S b2 ((j * 66) + 33) (.int .i64 (ye.p : Int))))]) ⟨(fun g0 => have q0 : ((j : Int) ≥ (0 : Int)) := (dT (boolV g0)); om),(fun g0 => have q0 : ((j : Int) ≥ (0 : Int)) := (dT (boolV g0)); (fun w1 h => (cell_cells (h.own _ (show _ ∈ (([(xb,Obj.cells ((enr x).toArray) 49 (0,0))] ++ (Own.o 49 ((pre L i).flatMap enr) ow ++ [])) : LO) from (mR (mL hbm))))).trans (er_cell hpre hbc (i := j) om (by rw [← hyep]; exact (enr_p hyel))))),trivial⟩ ?_
      refine Cfg.cond rfl (b := ((decide ((j : Int) ≥ (0 : Int))) && (decide ((ye.p : Int) < (4 : Int))))) kr (fun c4r => ?_) (fun c4r => ?_)
      ·have c4 : (((j : Int) ≥ (0 : Int)) ∧ ((ye.p : Int) < (4 : Int))) := ⟨(dT (andT1 c4r)),(dT (andT2 c4r))⟩
       refine Cfg.begA rfl kr ([(xb,.cells ((enr x).toArray) 49 (0,0))] ++ (Own.o 49 ((pre L i).flatMap enr) ow ++ [])) ?_
       refine Ap [0,1,2,3,4,5,6] [dZ,dZ,dZ,dZ,(dS (.string ye.t)),dZ,(dS (.string x.t))] (some [4,5,6,7,8,18,19,20,75,77]) (tF 7 2) slr 2 (fun S => [(0 ≤ (j : Int) ∧ (j : Int) < (L.length : Int)),(cE S b2 ((j * 66) + 32) (.string ye.t)),(cE S xb 32 (.string x.t))]) ⟨om,(fun w1 h => (cell_cells (h.own _ (show _ ∈ (([(xb,Obj.cells ((enr x).toArray) 49 (0,0))] ++ (Own.o 49 ((pre L i).flatMap enr) ow ++ [])) : LO) from (mR (mL hbm))))).trans (er_cell hpre hbc (i := j) om (by rw [← hyep]; exact (enr_t hyel)))),(fun w1 h => h.ocell 0 rfl (by rw [List.getElem?_toArray]; exact (enr_t hxl))),trivial⟩ ?_
       refine Ae 7 rfl 1  (Eff.callA (vs := [.string ye.t,.string x.t]) (.string (tx (mk ye.t x.t))) rfl Tryz.func21 rfl rfl kr (fun w1 _ => rMake ye.t x.t w1 om om)) (fun _ _ => slr) ?_
       rintro ⟨⟩ -
       refine Ap [8] [] (some [4,5,6,7,8,10,18,19,20]) (tF 9 0) slr 0 n0 trivial ?_
       refine CfgA.done kr ?_
       refine Rg [4,5,6,7,8,10,18,19,20,85] [dZ,(dS (.string x.t))] (fun S => [(cE S xb 32 (.string x.t)),(i6 ((x.t.size : Int) - ((tx (mk ye.t x.t)).size : Int)))]) ⟨(fun w1 h => h.ocell 0 rfl (by rw [List.getElem?_toArray]; exact (enr_t hxl))),(by (try have := mk_len ye.t x.t); (try have := md_size ye.t x.t); (try have hi1 := hxl.id); (try have hi2 := hyel.id); (try have hs9 := shaD_len (bodyF (planF ts))); (try simp only [ByteArray.size_append,tx_size,text4_len,beS_size]); (try simp only [show (⟨#[0]⟩ : ByteArray).size = 1 from rfl,show (⟨#[1]⟩ : ByteArray).size = 1 from rfl,show (⟨#[80,65,67,75]⟩ : ByteArray).size = 4 from rfl]); omega),trivial⟩ ?_
       refine Cfg.cond rfl (b := (decide (((x.t.size : Int) - ((tx (mk ye.t x.t)).size : Int)) ≥ (32 : Int)))) kr (fun c5r => ?_) (fun c5r => ?_)
       ·have c5 := (dT c5r)
        rw [tx_size] at c5
        obtain ⟨z,hz⟩ : ∃ z,z = (⟨x.id,x.t,ye.id,tx (mk ye.t x.t),ye.p + 1⟩ : En) := ⟨_,rfl⟩
        have hzl : EnL z := by rw [hz]; exact ⟨hxl.id,hyel.id⟩
        have hmk : mkE (chn (L.take i)) x = z := by rw [hz,mkE_some hx0 hae (by rw [← hye]; omega) (by rw [← hye]; omega),← hye]
        have hb1 := hbm
        have hc1 := hbc
        refine Cfg.begL rfl ?_
        refine Lp 10 [dZ,dZ,dZ,dZ,dZ,dZ,(dS (.int .i64 (ye.p : Int)))] (some [4,5,6,8,10,18,19,20,93,95]) (fun S => [(0 ≤ (j : Int) ∧ (j : Int) < (L.length : Int)),(cE S b2 ((j * 66) + 33) (.int .i64 (ye.p : Int))),(i6 ((ye.p : Int) + 1)),(0 ≤ (i : Int) ∧ (i : Int) < (L.length : Int))]) ⟨om,(fun w1 h => (cell_cells (h.own _ (show _ ∈ (([(xb,Obj.cells ((enr x).toArray) 49 (0,0))] ++ (Own.o 49 ((pre L i).flatMap enr) ow ++ [])) : LO) from (mR (mL hbm))))).trans (er_cell hpre hbc (i := j) om (by rw [← hyep]; exact (enr_p hyel)))),om,om,trivial⟩ ?_
        refine Le (Eff.storeOwn1 (b := b2) (off := i * 66 + 33) (v := .int .i64 ((ye.p : Int) + 1)) rfl (ow := ow) (e := 49) (xs := ((pre L i).flatMap enr)) hba kr kr rfl kr [(xb,.cells ((enr x).toArray) 49 (0,0))] [] rfl (by rw [enrl_len hpre,hpl]; omega)) ?_
        rintro ⟨⟩ -
        refine CfgL.done rfl ?_
        refine Cg (Γ' := [(10,[],.string (tx (mk ye.t x.t))),(5,[],.string ((tx (bodyP L i)) ++ (tx x.id))),(8,[],.int .i64 (j : Int)),(6,[],.int .i64 (i : Int)),(20,[],.int .i64 (i : Int)),(19,[],.int .i64 (L.length : Int)),(18,[],.slice (some ⟨b2,0,none⟩) L.length (Own.c ow)),(4,[],.slice (some ⟨b2,0,none⟩) L.length (Own.c ow))]) ?_
        obtain ⟨Q1,hQ1⟩ : ∃ Q,Q = (pre L i).set i ({ x with p := ye.p + 1 } : En) := ⟨_,rfl⟩
        have hq1 : ∀ e ∈ Q1,EnL e := by rw [hQ1]; exact set_l hpre ⟨hxl.id,hxl.b⟩
        have hq1n : Q1.length = L.length := by rw [hQ1,List.length_set]; exact hpl
        have hq1j : ye = Q1.getD j ez := by rw [hQ1,set_ne om]; exact hyep
        have hq1i : Q1.getD i ez = ({ x with p := ye.p + 1 } : En) := by rw [hQ1,set_at om]
        refine Cfg.setO (congrArg (fun (xq : List Value) => (([(xb,.cells ((enr x).toArray) 49 (0,0))] ++ (Own.o 49 xq ow ++ [])) : LO)) (show _ = (Q1.flatMap enr) from by rw [hQ1]; exact er_set hpre om (by rw [← hxp]; exact enr_setp x hxl ye.p) (by show 33 + 1 ≤ 66; decide))) ?_
        have hok3 : OwnOk ow 66 L.length (Q1.flatMap enr) := okLen hok2 (by rw [enrl_len hq1,enrl_len hpre,hq1n,hpl])
        obtain ⟨b3,bcs3,hba3,hbm3,hbc3⟩ := own_at (e := 49) hok3 om
        have hb32 : b3 = b2 := by rw [hba] at hba3; simpa using hba3.symm
        rw [hb32] at hbm3
        refine Cfg.begL rfl ?_
        refine Lp 9 [dZ,dZ,dZ,dZ,dZ,dZ,(dS (.agg (bv ye.id)))] (some [4,5,8,10,18,19,20,102,104]) (fun S => [(0 ≤ (j : Int) ∧ (j : Int) < (L.length : Int)),(∀ w1,S w1 → (loadVar 36 ⟨b2,(j * 66),none⟩).run Tryz.prog w1 = .ok (.agg (bv ye.id)) w1),(0 ≤ (i : Int) ∧ (i : Int) < (L.length : Int))]) ⟨om,(fun w1 h => load_list (vs := dgc ye.id) Tryz.underlying36 rfl kr (dgc_len hyel.id) (fun q9 v hq9 => by exact (cell_cells (h.own _ (show _ ∈ (([(xb,Obj.cells ((enr x).toArray) 49 (0,0))] ++ (Own.o 49 (Q1.flatMap enr) ow ++ [])) : LO) from (mR (mL hbm3))))).trans (er_cell hq1 hbc3 (i := j) om (by rw [← hq1j]; exact app_l hq9)))),om,trivial⟩ ?_
        refine Le (Eff.storeOwn (b := b2) (off := i * 66 + 34) (vs := (bv ye.id)) (n := 32) rfl (ow := ow) (e := 49) (xs := (Q1.flatMap enr)) hba kr kr kr ((bv_size _).trans hyel.id) (all_bv _) [(xb,.cells ((enr x).toArray) 49 (0,0))] [] rfl (by rw [enrl_len hq1,hq1n]; omega)) ?_
        rintro ⟨⟩ -
        refine CfgL.done rfl ?_
        refine Cg (Γ' := [(10,[],.string (tx (mk ye.t x.t))),(5,[],.string ((tx (bodyP L i)) ++ (tx x.id))),(8,[],.int .i64 (j : Int)),(20,[],.int .i64 (i : Int)),(19,[],.int .i64 (L.length : Int)),(18,[],.slice (some ⟨b2,0,none⟩) L.length (Own.c ow)),(4,[],.slice (some ⟨b2,0,none⟩) L.length (Own.c ow))]) ?_
        have hps : (Q1.set i ({ x with p := ye.p + 1,b := ye.id } : En)).flatMap enr = (pre L (i + 1)).flatMap enr := by
         rw [pre_step (y := z) om (by rw [← hx]; exact hmk),hQ1,List.set_set]
         exact set_enr (by rw [hz]; rfl) om
        have hpre2 := pre_l hLl (i + 1)
        have hpl2 := pre_len L (i := i + 1) om
        refine Cfg.setO (congrArg (fun (xq : List Value) => (([(xb,.cells ((enr x).toArray) 49 (0,0))] ++ (Own.o 49 xq ow ++ [])) : LO)) (show _ = ((pre L (i + 1)).flatMap enr) from by rw [← hps]; exact er_set hq1 om (by rw [hq1i]; exact enr_setb ({ x with p := ye.p + 1 } : En) ⟨hxl.id,hxl.b⟩ hyel.id) (by rw [show (bv ye.id).toList = dgc ye.id from rfl,dgc_len hyel.id]; decide))) ?_
        have hok4 : OwnOk ow 66 L.length ((pre L (i + 1)).flatMap enr) := okLen hok2 (by rw [enrl_len hpre2,enrl_len hpre,hpl2,hpl])
        obtain ⟨b4,bcs4,hba4,hbm4,hbc4⟩ := own_at (e := 49) hok4 om
        have hb42 : b4 = b2 := by rw [hba] at hba4; simpa using hba4.symm
        rw [hb42] at hbm4
        have hq4j : ye = (pre L (i + 1)).getD j ez := by rw [pre_step (y := z) om (by rw [← hx]; exact hmk),set_ne om]; exact hyep
        refine Cfg.begL rfl ?_
        refine Lp 7 [dZ,dZ,dZ,dZ,dZ,dZ,(dS (.agg (bv ye.id)))] (some [4,5,10,18,19,20,106,111]) (fun S => [(((tx (bodyP L i)) ++ (tx x.id)).size + 1 ≤ 9223372036854775807),(0 ≤ (j : Int) ∧ (j : Int) < (L.length : Int)),(∀ w1,S w1 → (loadVar 36 ⟨b2,(j * 66),none⟩).run Tryz.prog w1 = .ok (.agg (bv ye.id)) w1)]) ⟨(by (try have := mk_len ye.t x.t); (try have := md_size ye.t x.t); (try have hi1 := hxl.id); (try have hi2 := hyel.id); (try have hs9 := shaD_len (bodyF (planF ts))); (try simp only [ByteArray.size_append,tx_size,text4_len,beS_size]); (try simp only [show (⟨#[0]⟩ : ByteArray).size = 1 from rfl,show (⟨#[1]⟩ : ByteArray).size = 1 from rfl,show (⟨#[80,65,67,75]⟩ : ByteArray).size = 4 from rfl]); omega),om,(fun w1 h => load_list (vs := dgc ye.id) Tryz.underlying36 rfl kr (dgc_len hyel.id) (fun q9 v hq9 => by exact (cell_cells (h.own _ (show _ ∈ (([(xb,Obj.cells ((enr x).toArray) 49 (0,0))] ++ (Own.o 49 ((pre L (i + 1)).flatMap enr) ow ++ [])) : LO) from (mR (mL hbm4))))).trans (er_cell hpre2 hbc4 (i := j) om (by rw [← hq4j]; exact app_l hq9)))),trivial⟩ ?_
        refine Le (Eff.callA (vs := [.agg (bv ye.id)]) (.string (tx ye.id)) rfl Tryz.func11 rfl rfl kr (fun w1 _ => rDigest ye.id w1 hyel.id)) ?_
        rintro ⟨⟩ -
        refine Lp 2 [] (some [4,5,18,19,20,113,114]) (fun _ => [((((tx (bodyP L i)) ++ (tx x.id)) ++ (⟨#[1]⟩ : ByteArray)).size + (tx ye.id).size ≤ 9223372036854775807)]) ⟨(by (try have := mk_len ye.t x.t); (try have := md_size ye.t x.t); (try have hi1 := hxl.id); (try have hi2 := hyel.id); (try have hs9 := shaD_len (bodyF (planF ts))); (try simp only [ByteArray.size_append,tx_size,text4_len,beS_size]); (try simp only [show (⟨#[0]⟩ : ByteArray).size = 1 from rfl,show (⟨#[1]⟩ : ByteArray).size = 1 from rfl,show (⟨#[80,65,67,75]⟩ : ByteArray).size = 4 from rfl]); omega),trivial⟩ ?_
        refine Le (Eff.callA (vs := [.string (tx (mk ye.t x.t))]) (.string (tx (text4 (tx (mk ye.t x.t))))) rfl Tryz.func22 rfl rfl kr (fun w1 _ => rText (tx (mk ye.t x.t)) w1 (by have := mk_len ye.t x.t; have := md_size ye.t x.t; rw [tx_size]; omega))) ?_
        rintro ⟨⟩ -
        refine Lp 2 [] (some [4,5,18,19,20]) (fun _ => [(((((tx (bodyP L i)) ++ (tx x.id)) ++ (⟨#[1]⟩ : ByteArray)) ++ (tx ye.id)).size + (tx (text4 (tx (mk ye.t x.t)))).size ≤ 9223372036854775807)]) ⟨(by (try have := mk_len ye.t x.t); (try have := md_size ye.t x.t); (try have hi1 := hxl.id); (try have hi2 := hyel.id); (try have hs9 := shaD_len (bodyF (planF ts))); (try simp only [ByteArray.size_append,tx_size,text4_len,beS_size]); (try simp only [show (⟨#[0]⟩ : ByteArray).size = 1 from rfl,show (⟨#[1]⟩ : ByteArray).size = 1 from rfl,show (⟨#[80,65,67,75]⟩ : ByteArray).size = 4 from rfl]); omega),trivial⟩ ?_
        refine CfgL.done rfl ?_
        refine Rg [4,5,18,19,20] [] (fun _ => [(i6 ((i : Int) + 1))]) ⟨om,trivial⟩ ?_
        refine Cfg.setS 18 (congrArg (fun (xq : Value) => (xq : Value)) (show .slice (some ⟨b2,0,none⟩) L.length (Own.c ow) = .slice (Own.a ow) L.length (Own.c ow) from by rw [hba])) ?_
        refine Cfg.setS 4 (congrArg (fun (xq : Value) => (xq : Value)) (show .slice (some ⟨b2,0,none⟩) L.length (Own.c ow) = .slice (Own.a ow) L.length (Own.c ow) from by rw [hba])) ?_
        refine Cfg.setS 5 (congrArg Value.string (show (((((tx (bodyP L i)) ++ (tx x.id)) ++ (⟨#[1]⟩ : ByteArray)) ++ (tx ye.id)) ++ (tx (text4 (tx (mk ye.t x.t))))) = (tx (bodyP L (i + 1))) from by have h9 := bodyP_d om hx hmk (by rw [hz]; exact Nat.succ_pos _) (by rw [hz]); rw [hz] at h9; exact h9)) ?_
        refine Cfg.again rfl (i + 1) ⟨by omega,hok4⟩ (by show L.length - (i + 1) < L.length - i; omega) (Conv.mk kr) (.cons _ slr)
       ·have c5 := (dF c5r)
        rw [tx_size] at c5
        refine Cfg.begL rfl ?_
        refine Lp 4 [dZ,dZ,dZ,(dS (.string x.t))] (some [4,5,18,19,20,118,120]) (fun S => [(((tx (bodyP L i)) ++ (tx x.id)).size + 1 ≤ 9223372036854775807),(cE S xb 32 (.string x.t))]) ⟨(by (try have := mk_len ye.t x.t); (try have := md_size ye.t x.t); (try have hi1 := hxl.id); (try have hi2 := hyel.id); (try have hs9 := shaD_len (bodyF (planF ts))); (try simp only [ByteArray.size_append,tx_size,text4_len,beS_size]); (try simp only [show (⟨#[0]⟩ : ByteArray).size = 1 from rfl,show (⟨#[1]⟩ : ByteArray).size = 1 from rfl,show (⟨#[80,65,67,75]⟩ : ByteArray).size = 4 from rfl]); omega),(fun w1 h => h.ocell 0 rfl (by rw [List.getElem?_toArray]; exact (enr_t hxl))),trivial⟩ ?_
        refine Le (Eff.callA (vs := [.string x.t]) (.string (tx (text4 x.t))) rfl Tryz.func22 rfl rfl kr (fun w1 _ => rText x.t w1 om)) ?_
        rintro ⟨⟩ -
        refine Lp 2 [] (some [4,5,18,19,20]) (fun _ => [((((tx (bodyP L i)) ++ (tx x.id)) ++ (⟨#[0]⟩ : ByteArray)).size + (tx (text4 x.t)).size ≤ 9223372036854775807)]) ⟨(by (try have := mk_len ye.t x.t); (try have := md_size ye.t x.t); (try have hi1 := hxl.id); (try have hi2 := hyel.id); (try have hs9 := shaD_len (bodyF (planF ts))); (try simp only [ByteArray.size_append,tx_size,text4_len,beS_size]); (try simp only [show (⟨#[0]⟩ : ByteArray).size = 1 from rfl,show (⟨#[1]⟩ : ByteArray).size = 1 from rfl,show (⟨#[80,65,67,75]⟩ : ByteArray).size = 4 from rfl]); omega),trivial⟩ ?_
        refine CfgL.done rfl ?_
        refine Rg [4,5,18,19,20] [] (fun _ => [(i6 ((i : Int) + 1))]) ⟨om,trivial⟩ ?_
        have hmk : mkE (chn (L.take i)) x = x := mkE_far hx0 hae (by rw [← hye]; omega)
        have hps := pre_same (L := L) (i := i) om (by rw [← hx]; exact hmk)
        refine Cfg.setO (congrArg (fun (xq : List Value) => (([(xb,.cells ((enr x).toArray) 49 (0,0))] ++ (Own.o 49 xq ow ++ [])) : LO)) (show _ = ((pre L (i + 1)).flatMap enr) from by rw [hps])) ?_
        refine Cfg.setS 18 (congrArg (fun (xq : Value) => (xq : Value)) (show .slice (some ⟨b2,0,none⟩) L.length (Own.c ow) = .slice (Own.a ow) L.length (Own.c ow) from by rw [hba])) ?_
        refine Cfg.setS 4 (congrArg (fun (xq : Value) => (xq : Value)) (show .slice (some ⟨b2,0,none⟩) L.length (Own.c ow) = .slice (Own.a ow) L.length (Own.c ow) from by rw [hba])) ?_
        refine Cfg.setS 5 (congrArg Value.string (show ((((tx (bodyP L i)) ++ (tx x.id)) ++ (⟨#[0]⟩ : ByteArray)) ++ (tx (text4 x.t))) = (tx (bodyP L (i + 1))) from by exact bodyP_w om hx hmk hxp0)) ?_
        refine Cfg.again rfl (i + 1) ⟨by omega,by rw [hps]; exact hok2⟩ (by show L.length - (i + 1) < L.length - i; omega) (Conv.mk kr) (.cons _ slr)
      ·have c4 : ((¬ ((j : Int) ≥ (0 : Int))) ∨ (¬ ((ye.p : Int) < (4 : Int)))) := ((andF c4r).elim (fun h => Or.inl (dF h)) (fun h => Or.inr (dF h)))
       refine Cfg.begL rfl ?_
       refine Lp 4 [dZ,dZ,dZ,(dS (.string x.t))] (some [4,5,18,19,20,118,120]) (fun S => [(((tx (bodyP L i)) ++ (tx x.id)).size + 1 ≤ 9223372036854775807),(cE S xb 32 (.string x.t))]) ⟨(by (try have := mk_len ye.t x.t); (try have := md_size ye.t x.t); (try have hi1 := hxl.id); (try have hi2 := hyel.id); (try have hs9 := shaD_len (bodyF (planF ts))); (try simp only [ByteArray.size_append,tx_size,text4_len,beS_size]); (try simp only [show (⟨#[0]⟩ : ByteArray).size = 1 from rfl,show (⟨#[1]⟩ : ByteArray).size = 1 from rfl,show (⟨#[80,65,67,75]⟩ : ByteArray).size = 4 from rfl]); omega),(fun w1 h => h.ocell 0 rfl (by rw [List.getElem?_toArray]; exact (enr_t hxl))),trivial⟩ ?_
       refine Le (Eff.callA (vs := [.string x.t]) (.string (tx (text4 x.t))) rfl Tryz.func22 rfl rfl kr (fun w1 _ => rText x.t w1 om)) ?_
       rintro ⟨⟩ -
       refine Lp 2 [] (some [4,5,18,19,20]) (fun _ => [((((tx (bodyP L i)) ++ (tx x.id)) ++ (⟨#[0]⟩ : ByteArray)).size + (tx (text4 x.t)).size ≤ 9223372036854775807)]) ⟨(by (try have := mk_len ye.t x.t); (try have := md_size ye.t x.t); (try have hi1 := hxl.id); (try have hi2 := hyel.id); (try have hs9 := shaD_len (bodyF (planF ts))); (try simp only [ByteArray.size_append,tx_size,text4_len,beS_size]); (try simp only [show (⟨#[0]⟩ : ByteArray).size = 1 from rfl,show (⟨#[1]⟩ : ByteArray).size = 1 from rfl,show (⟨#[80,65,67,75]⟩ : ByteArray).size = 4 from rfl]); omega),trivial⟩ ?_
       refine CfgL.done rfl ?_
       refine Rg [4,5,18,19,20] [] (fun _ => [(i6 ((i : Int) + 1))]) ⟨om,trivial⟩ ?_
       have hmk : mkE (chn (L.take i)) x = x := mkE_far hx0 hae (by rw [← hye]; omega)
       have hps := pre_same (L := L) (i := i) om (by rw [← hx]; exact hmk)
       refine Cfg.setO (congrArg (fun (xq : List Value) => (([(xb,.cells ((enr x).toArray) 49 (0,0))] ++ (Own.o 49 xq ow ++ [])) : LO)) (show _ = ((pre L (i + 1)).flatMap enr) from by rw [hps])) ?_
       refine Cfg.setS 18 (congrArg (fun (xq : Value) => (xq : Value)) (show .slice (some ⟨b2,0,none⟩) L.length (Own.c ow) = .slice (Own.a ow) L.length (Own.c ow) from by rw [hba])) ?_
       refine Cfg.setS 4 (congrArg (fun (xq : Value) => (xq : Value)) (show .slice (some ⟨b2,0,none⟩) L.length (Own.c ow) = .slice (Own.a ow) L.length (Own.c ow) from by rw [hba])) ?_
       refine Cfg.setS 5 (congrArg Value.string (show ((((tx (bodyP L i)) ++ (tx x.id)) ++ (⟨#[0]⟩ : ByteArray)) ++ (tx (text4 x.t))) = (tx (bodyP L (i + 1))) from by exact bodyP_w om hx hmk hxp0)) ?_
       refine Cfg.again rfl (i + 1) ⟨by omega,by rw [hps]; exact hok2⟩ (by show L.length - (i + 1) < L.length - i; omega) (Conv.mk kr) (.cons _ slr)
     ·
      have hae := atK_end (acc := (chn (L.take i))) (x := x) (k := i) om
      have hjn : atK (chn (L.take i)) x i = none := by simpa using hlf
      rw [hjn] at hae
      refine Cfg.setS 8 (congrArg (fun (xq : Int) => (.int .i64 xq : Value)) (show (atZ (atK (chn (L.take i)) x i)) = (-1) from by rw [hjn]; rfl)) ?_
      refine Rg [4,5,6,7,8,18,19,20,70] [dZ,dZ,dZ,(2,false,none),(2,false,none),(2,false,none),(2,false,none),(2,false,none),(2,false,none)] (fun _ => [((.bool false : Value) ≠ .bool true),((.bool false : Value) ≠ .bool true),((.bool false : Value) ≠ .bool true),((.bool false : Value) ≠ .bool true),((.bool false : Value) ≠ .bool true),((.bool false : Value) ≠ .bool true)]) ⟨(by simp),(by simp),(by simp),(by simp),(by simp),(by simp),trivial⟩ ?_
      refine Cfg.condF rfl (b := false) kr rfl ?_
      refine Cfg.begL rfl ?_
      refine Lp 4 [dZ,dZ,dZ,(dS (.string x.t))] (some [4,5,18,19,20,118,120]) (fun S => [(((tx (bodyP L i)) ++ (tx x.id)).size + 1 ≤ 9223372036854775807),(cE S xb 32 (.string x.t))]) ⟨(by (try have := mk_len ye.t x.t); (try have := md_size ye.t x.t); (try have hi1 := hxl.id); (try have hi2 := hyel.id); (try have hs9 := shaD_len (bodyF (planF ts))); (try simp only [ByteArray.size_append,tx_size,text4_len,beS_size]); (try simp only [show (⟨#[0]⟩ : ByteArray).size = 1 from rfl,show (⟨#[1]⟩ : ByteArray).size = 1 from rfl,show (⟨#[80,65,67,75]⟩ : ByteArray).size = 4 from rfl]); omega),(fun w1 h => h.ocell 0 rfl (by rw [List.getElem?_toArray]; exact (enr_t hxl))),trivial⟩ ?_
      refine Le (Eff.callA (vs := [.string x.t]) (.string (tx (text4 x.t))) rfl Tryz.func22 rfl rfl kr (fun w1 _ => rText x.t w1 om)) ?_
      rintro ⟨⟩ -
      refine Lp 2 [] (some [4,5,18,19,20]) (fun _ => [((((tx (bodyP L i)) ++ (tx x.id)) ++ (⟨#[0]⟩ : ByteArray)).size + (tx (text4 x.t)).size ≤ 9223372036854775807)]) ⟨(by (try have := mk_len ye.t x.t); (try have := md_size ye.t x.t); (try have hi1 := hxl.id); (try have hi2 := hyel.id); (try have hs9 := shaD_len (bodyF (planF ts))); (try simp only [ByteArray.size_append,tx_size,text4_len,beS_size]); (try simp only [show (⟨#[0]⟩ : ByteArray).size = 1 from rfl,show (⟨#[1]⟩ : ByteArray).size = 1 from rfl,show (⟨#[80,65,67,75]⟩ : ByteArray).size = 4 from rfl]); omega),trivial⟩ ?_
      refine CfgL.done rfl ?_
      refine Rg [4,5,18,19,20] [] (fun _ => [(i6 ((i : Int) + 1))]) ⟨om,trivial⟩ ?_
      have hmk : mkE (chn (L.take i)) x = x := by
       by_cases h0 : x.t.size = 0
       ·exact mkE_zero h0
       ·rw [if_neg h0] at hae; exact mkE_none h0 hae.symm
      have hps := pre_same (L := L) (i := i) om (by rw [← hx]; exact hmk)
      refine Cfg.setO (congrArg (fun (xq : List Value) => (([(xb,.cells ((enr x).toArray) 49 (0,0))] ++ (Own.o 49 xq ow ++ [])) : LO)) (show _ = ((pre L (i + 1)).flatMap enr) from by rw [hps])) ?_
      refine Cfg.setS 18 (congrArg (fun (xq : Value) => (xq : Value)) (show .slice (some ⟨b2,0,none⟩) L.length (Own.c ow) = .slice (Own.a ow) L.length (Own.c ow) from by rw [hba])) ?_
      refine Cfg.setS 4 (congrArg (fun (xq : Value) => (xq : Value)) (show .slice (some ⟨b2,0,none⟩) L.length (Own.c ow) = .slice (Own.a ow) L.length (Own.c ow) from by rw [hba])) ?_
      refine Cfg.setS 5 (congrArg Value.string (show ((((tx (bodyP L i)) ++ (tx x.id)) ++ (⟨#[0]⟩ : ByteArray)) ++ (tx (text4 x.t))) = (tx (bodyP L (i + 1))) from by exact bodyP_w om hx hmk hxp0)) ?_
      refine Cfg.again rfl (i + 1) ⟨by omega,by rw [hps]; exact hok2⟩ (by show L.length - (i + 1) < L.length - i; omega) (Conv.mk kr) (.cons _ slr)
  ·have c1 := (dF c1r)
   have hie : i = L.length := by omega
   refine Cfg.setS 5 (congrArg Value.string (show (tx (bodyP L i)) = (tx (bodyF (planF ts))) from by rw [hie,bodyP_end,hLd,srtL_eq]; rfl)) ?_
   have hLp2 : L.length = (planF ts).length := by unfold planF; rw [chn_len,hLd,srtL_eq]
   have hbl := (body_len (planF_ok hsz)).2
   have hpn := planF_len ts
   have hts := tx_size (bodyF (planF ts))
   refine Cfg.begL rfl ?_
   refine Lp 2 [] (some [4,124,125]) n0 trivial ?_
   refine Le (Eff.callA (vs := [.string (tx (bodyF (planF ts)))]) (.agg (bv (shaD (bodyF (planF ts))))) rfl Tryz.func12 rfl rfl kr (fun w1 _ => (rSum (tx (bodyF (planF ts))) w1 om))) ?_
   rintro ⟨⟩ -
   refine Le (Eff.callA (vs := [.agg (bv (shaD (bodyF (planF ts))))]) (.string (tx (shaD (bodyF (planF ts))))) rfl Tryz.func11 rfl rfl kr (fun w1 _ => rDigest (shaD (bodyF (planF ts))) w1 (shaD_len _))) ?_
   rintro ⟨⟩ -
   refine Lp 4 [] (some [2,3]) (fun _ => [((tx (bodyF (planF ts))).size + (tx (shaD (bodyF (planF ts)))).size ≤ 9223372036854775807)]) ⟨(by (try have := mk_len ye.t x.t); (try have := md_size ye.t x.t); (try have hi1 := hxl.id); (try have hi2 := hyel.id); (try have hs9 := shaD_len (bodyF (planF ts))); (try simp only [ByteArray.size_append,tx_size,text4_len,beS_size]); (try simp only [show (⟨#[0]⟩ : ByteArray).size = 1 from rfl,show (⟨#[1]⟩ : ByteArray).size = 1 from rfl,show (⟨#[80,65,67,75]⟩ : ByteArray).size = 4 from rfl]); omega),trivial⟩ ?_
   refine CfgL.done rfl ?_
   refine Cfg.ret rfl (rs := [.tmp 2,.tmp 3]) rfl [.string ((tx (bodyF (planF ts))) ++ (tx (shaD (bodyF (planF ts))))),.slice (Own.a ow) L.length (Own.c ow)] ⟨kr,by kernel_rfl,trivial⟩ (fun w1 hp => ?_)
   have hpe : (pre L i) = planF ts := by rw [hie,pre_end,hLd,srtL_eq]; rfl
   have h9 : HP w [] Rl ([] ++ (Own.o 49 ((pre L i).flatMap enr) ow ++ [])) w1 := hp
   rw [hpe,List.append_nil,List.nil_append] at h9
   rw [hpe,hLp2] at hok2
   exact ⟨ow,hok2,by rw [← hLp2,tx_app]; rfl,_,h9⟩
end Go.Proofs.YtbeegepcdglcaaaGreatDoor
namespace Go.Proofs.YtbeegepcdglcaaaGreatDoor
open K
set_option linter.unusedVariables false
theorem atF_nodup : ∀ (l : List (List UInt8)),l.Nodup → ∀ i (h : i < l.length),atF l l[i] = some i := fun l => by
 refine snoc_ind (p := fun l : List (List UInt8) => l.Nodup → ∀ i (h : i < l.length),atF l l[i] = some i) (fun _ i h => absurd h (Nat.not_lt_zero i)) (fun l d ih => ?_) l
 intro hn i h
 have hn' := List.nodup_append.1 hn
 rw [atF_snoc]
 by_cases hi : i < l.length
 ·rw [List.getElem_append_left hi,if_neg (fun e => hn'.2.2 _ (List.getElem_mem hi) _ (List.mem_singleton.2 rfl) e)]
  exact ih hn'.1 i hi
 ·have he : i = l.length := by rw [List.length_append,List.length_singleton] at h; omega
  subst he
  rw [List.getElem_append_right (Nat.le_refl _)]
  simp
theorem atF_ids {es : List En} (hn : (ids es).Nodup) {i : Nat} (h : i < es.length) : atF (ids es) (es.getD i ez).id = some i := by
 have h1 := atF_nodup (ids es) hn i (by unfold ids; rw [List.length_map]; exact h)
 rw [getD_of _ h]
 unfold ids at h1 ⊢
 rw [List.getElem_map] at h1
 exact h1
set_option maxRecDepth 100000 in
set_option maxHeartbeats 8000000 in
theorem same21 (m : PkM) (es : List En) (la : Option Addr) (ca : Nat) (ow : K.Own) (w : World) (hm : PkOk m es) (hl : ∀ e ∈ es,EnL e) (hnd : (ids es).Nodup) (hI : 0 < es.length → ∃ (b : Nat) (cs : Array Value),la = some ⟨b,0,none⟩ ∧ (b,Obj.cells cs 49 (0,0)) ∈ Own.o 49 (es.flatMap enr) ow ∧ ∀ j,j < (es.flatMap enr).length → cs[0 + j]? = some ((es.flatMap enr).getD j undef)) (hA : Has w ((pkM (some m) es ++ (Own.o 49 (es.flatMap enr) ow ++ [])) : List (Nat × Obj))) (hd : (((pkM (some m) es ++ (Own.o 49 (es.flatMap enr) ow ++ [])) : List (Nat × Obj)).map Prod.fst).Nodup) (hn : es.length ≤ 1000000) :
  Calls Tryz.prog 10 #[.pointer (some ⟨m.pb,0,none⟩),.slice la es.length ca] w fun e w' => e = .returned (.bool true) ∧ ∃ R1,HP w (((pkM (some m) es ++ (Own.o 49 (es.flatMap enr) ow ++ [])) : LO).map Prod.fst) R1 ((pkM (some m) es ++ (Own.o 49 (es.flatMap enr) ow ++ [])) : LO) w' := by
 refine enterM (vs := [.pointer (some ⟨m.pb,0,none⟩),.slice la es.length ca]) (((pkM (some m) es ++ (Own.o 49 (es.flatMap enr) ow ++ [])) : LO).map Prod.fst) [] ([] ++ (pkM (some m) es ++ (Own.o 49 (es.flatMap enr) ow ++ []))) Tryz.func10 rfl kr (HP.ofL hA hd (R := []) (fun e he => by cases he) (fun e he => by cases he)) ?_
 refine Cfg.begL rfl ?_
 refine Le (Eff.box (v := .pointer (some ⟨m.pb,0,none⟩)) rfl kr) ?_
 rintro qb ⟨hqb,nqb⟩
 refine Le (Eff.box (v := .slice la es.length ca) rfl kr) ?_
 rintro lb ⟨hlb,nlb⟩
 refine Le (Eff.alloc (z := (.bool false)) rfl kr) ?_
 rintro rb ⟨hrb,nrb⟩
 refine CfgL.done rfl ?_
 refine Cg (Γ' := [(4,[],pT rb),(3,[],pT lb),(2,[],pT qb)]) ?_
 refine Cfg.begL rfl ?_
 refine Le (Eff.alloc (z := (.int .i64 0)) rfl kr) ?_
 rintro kb ⟨hkb,nkb⟩
 refine Le (Eff.store1 (b := kb) (off := 0) (v := .int .i64 0) rfl kr kr rfl kr 0 (cs := #[.int .i64 0]) (e := 3) kr (by simp)) ?_
 rintro ⟨⟩ -
 refine CfgL.done rfl ?_
 refine Cfg.begL rfl ?_
 refine Lp 1 [(dS (.pointer (some ⟨m.pb,0,none⟩)))] none (fun S => [(cE S qb 0 (.pointer (some ⟨m.pb,0,none⟩)))]) ⟨(oC 3 rfl rfl),trivial⟩ ?_
 refine Le (Eff.callN (vs := [.pointer (some ⟨m.pb,0,none⟩)]) (fun tb => .func (.func 61) #[] #[pT tb]) (fun tb => tb) (fun _ => .cells #[.pointer (some ⟨m.pb,0,none⟩)] 29 (0,0)) (fun _ => True) rfl Tryz.func25 rfl rfl kr (fun w1 h => pkTexts (some ⟨m.pb,0,none⟩) w1)) ?_
 rintro tb -
 refine CfgL.done rfl ?_
 refine Cg (Γ' := [(11,[],.func (.func 61) #[] #[pT tb]),(5,[],pT kb),(4,[],pT rb),(3,[],pT lb),(2,[],pT qb)]) ?_
 refine Cfg.rangeJ2 rfl (caps := #[pT tb]) kr Tryz.func61 kr rfl kr kr (pkIt tb m es hm hl hn) (σ := Nat) (fun (k : Nat) => ([(tb,.cells #[.pointer (some ⟨m.pb,0,none⟩)] 29 (0,0)),(kb,.cells #[.int .i64 (k : Int)] 3 (0,0)),(rb,.cells #[.bool false] 4 (0,0)),(lb,.cells #[.slice la es.length ca] 26 (0,0)),(qb,.cells #[.pointer (some ⟨m.pb,0,none⟩)] 29 (0,0))] ++ (pkM (some m) es ++ (Own.o 49 (es.flatMap enr) ow ++ [])))) (fun pre k => k = pre.length) 0 rfl [] (by rfl) (fun e he => by cases he) (fun w1 h => List.nodup_nil) (fun (k : Nat) => ([(tb,.cells #[.pointer (some ⟨m.pb,0,none⟩)] 29 (0,0)),(kb,.cells #[.int .i64 (k : Int)] 3 (0,0)),(rb,.cells #[.bool false] 4 (0,0)),(lb,.cells #[.slice la es.length ca] 26 (0,0)),(qb,.cells #[.pointer (some ⟨m.pb,0,none⟩)] 29 (0,0))] ++ (pkM (some m) es ++ (Own.o 49 (es.flatMap enr) ow ++ [])))) (fun _ => List.append_nil _) (fun _ => true) (fun pre k _ _ e he => by rcases List.mem_cons.1 he with rfl | he; exact mH; exact mR (mL he)) (.ret) rfl ?_ ?_ ?_
 ·intro l ob1 ob2 w2 M2 pre k x rest hal hJx hit
  have hJx : k = pre.length := hJx
  have hkl : k < es.length := by have h9 := congrArg List.length hit; rw [List.length_append,List.length_cons] at h9; omega
  have hxe : x = es.getD k ez := by rw [hJx,hit,List.getD_eq_getElem?_getD,List.getElem?_append_right (Nat.le_refl _),Nat.sub_self]; rfl
  have hxl : EnL x := by rw [hxe]; exact hl _ (K.getD_mem hkl)
  have hat : atF (ids es) x.id = some k := by rw [hxe]; exact atF_ids hnd hkl
  refine ⟨Nat,fun _ => True,fun (db : Nat) => [(7,[],.string x.t),(6,[],pT db),(5,[],pT kb),(4,[],pT rb),(3,[],pT lb),(2,[],pT qb)],fun (db : Nat) => ([(db,.cells (bv x.id) 36 (0,0)),(tb,.cells #[.pointer (some ⟨m.pb,0,none⟩)] 29 (0,0)),(kb,.cells #[.int .i64 (k : Int)] 3 (0,0)),(rb,.cells #[.bool false] 4 (0,0)),(lb,.cells #[.slice la es.length ca] 26 (0,0)),(qb,.cells #[.pointer (some ⟨m.pb,0,none⟩)] 29 (0,0))] ++ (pkM (some m) es ++ (Own.o 49 (es.flatMap enr) ow ++ []))),?_,?_⟩
  ·
   refine Cfg.begL rfl ?_
   refine Le (Eff.alloc (z := (.agg (bv (List.replicate 32 0)))) rfl kr) ?_
   rintro db ⟨hdb,ndb⟩
   refine Le (Eff.storeN (b := db) (off := 0) (vs := (bv x.id)) (n := 32) rfl kr kr kr ((bv_size _).trans hxl.id) (all_bv _) 0 (cs := (bv (List.replicate 32 0))) (e := 36) kr (by rw [zdg_size]; omega)) ?_
   rintro ⟨⟩ -
   refine CfgL.setO (congrArg (fun (xq : Array Value) => (([(db,.cells xq 36 (0,0)),(l,ob1),(tb,.cells #[.pointer (some ⟨m.pb,0,none⟩)] 29 (0,0)),(kb,.cells #[.int .i64 (k : Int)] 3 (0,0)),(rb,.cells #[.bool false] 4 (0,0)),(lb,.cells #[.slice la es.length ca] 26 (0,0)),(qb,.cells #[.pointer (some ⟨m.pb,0,none⟩)] 29 (0,0))] ++ (pkM (some m) es ++ (Own.o 49 (es.flatMap enr) ow ++ []))) : LO)) (show _ = (bv x.id) from spl_all (((bv_size _).trans hxl.id).trans zdg_size.symm))) ?_
   refine CfgL.done rfl ?_
   refine Cg (Γ' := [(6,[],pT db),(13,[],.string x.t),(5,[],pT kb),(4,[],pT rb),(3,[],pT lb),(2,[],pT qb)]) ?_
   refine Rg [2,3,4,5,6,7] [] n0 trivial ?_
   refine Cfg.permO (O' := ([(l,ob1),(db,.cells (bv x.id) 36 (0,0)),(tb,.cells #[.pointer (some ⟨m.pb,0,none⟩)] 29 (0,0)),(kb,.cells #[.int .i64 (k : Int)] 3 (0,0)),(rb,.cells #[.bool false] 4 (0,0)),(lb,.cells #[.slice la es.length ca] 26 (0,0)),(qb,.cells #[.pointer (some ⟨m.pb,0,none⟩)] 29 (0,0))] ++ (pkM (some m) es ++ (Own.o 49 (es.flatMap enr) ow ++ [])))) (swap_app _ _ _ _) ?_
   refine Cfg.mid rfl db trivial (Conv.mk kr) slr
  ·rintro db -
   obtain ⟨b2,bcs,rfl,hbm,hbc⟩ := hI om
   refine Cfg.begA rfl kr ([(l,ob2),(db,.cells (bv x.id) 36 (0,0)),(tb,.cells #[.pointer (some ⟨m.pb,0,none⟩)] 29 (0,0)),(kb,.cells #[.int .i64 (k : Int)] 3 (0,0)),(rb,.cells #[.bool false] 4 (0,0)),(lb,.cells #[.slice (some ⟨b2,0,none⟩) es.length ca] 26 (0,0)),(qb,.cells #[.pointer (some ⟨m.pb,0,none⟩)] 29 (0,0))] ++ (pkM (some m) es ++ (Own.o 49 (es.flatMap enr) ow ++ []))) ?_
   refine Ap (List.range 23) [(dS (.int .i64 (k : Int))),(dS (.slice (some ⟨b2,0,none⟩) es.length ca)),dZ,dZ,dZ,(dS (.agg (bv x.id))),(dS (.slice (some ⟨b2,0,none⟩) es.length ca)),(dS (.int .i64 (k : Int))),dZ,dZ,(dS (.agg (bv x.id))),(dS (.bool (x.id == x.id))),dZ,dZ,dZ,(dS (.slice (some ⟨b2,0,none⟩) es.length ca)),(dS (.int .i64 (k : Int))),dZ,dZ,(dS (.string x.t))] (some [2,3,4,5,6,7,36]) (tF 23 10) slr 10 (fun S => [(cE S kb 0 (.int .i64 (k : Int))),(cE S lb 0 (.slice (some ⟨b2,0,none⟩) es.length ca)),((.bool (decide ((k : Int) ≥ (es.length : Int))) : Value) = .bool false → (∀ w1,S w1 → (loadVar 36 ⟨db,0,none⟩).run Tryz.prog w1 = .ok (.agg (bv x.id)) w1)),((.bool (decide ((k : Int) ≥ (es.length : Int))) : Value) = .bool false → (cE S lb 0 (.slice (some ⟨b2,0,none⟩) es.length ca))),((.bool (decide ((k : Int) ≥ (es.length : Int))) : Value) = .bool false → (cE S kb 0 (.int .i64 (k : Int)))),((.bool (decide ((k : Int) ≥ (es.length : Int))) : Value) = .bool false → (0 ≤ (k : Int) ∧ (k : Int) < (es.length : Int))),((.bool (decide ((k : Int) ≥ (es.length : Int))) : Value) = .bool false → (∀ w1,S w1 → (loadVar 36 ⟨b2,(k * 66),none⟩).run Tryz.prog w1 = .ok (.agg (bv x.id)) w1)),((.bool (decide ((k : Int) ≥ (es.length : Int))) : Value) = .bool false → (∀ w1,S w1 → (Op.equal 36 (.agg (bv x.id)) (.agg (bv x.id))).run Tryz.prog w1 = .ok (x.id == x.id) w1)),((.bool ((decide ((k : Int) ≥ (es.length : Int))) || (!(x.id == x.id))) : Value) = .bool false → (cE S lb 0 (.slice (some ⟨b2,0,none⟩) es.length ca))),((.bool ((decide ((k : Int) ≥ (es.length : Int))) || (!(x.id == x.id))) : Value) = .bool false → (cE S kb 0 (.int .i64 (k : Int)))),((.bool ((decide ((k : Int) ≥ (es.length : Int))) || (!(x.id == x.id))) : Value) = .bool false → (0 ≤ (k : Int) ∧ (k : Int) < (es.length : Int))),((.bool ((decide ((k : Int) ≥ (es.length : Int))) || (!(x.id == x.id))) : Value) = .bool false → (cE S b2 ((k * 66) + 32) (.string x.t)))]) ⟨(oC 3 rfl rfl),(oC 5 rfl rfl),(fun g0 => have q0 : (¬ ((k : Int) ≥ (es.length : Int))) := (dF (boolV g0)); (fun w1 h => h.oload 1 rfl Tryz.underlying36 rfl (n := 32) kr ((bv_size _).trans hxl.id))),(fun g0 => have q0 : (¬ ((k : Int) ≥ (es.length : Int))) := (dF (boolV g0)); (oC 5 rfl rfl)),(fun g0 => have q0 : (¬ ((k : Int) ≥ (es.length : Int))) := (dF (boolV g0)); (oC 3 rfl rfl)),(fun g0 => have q0 : (¬ ((k : Int) ≥ (es.length : Int))) := (dF (boolV g0)); om),(fun g0 => have q0 : (¬ ((k : Int) ≥ (es.length : Int))) := (dF (boolV g0)); (fun w1 h => load_list (vs := dgc x.id) Tryz.underlying36 rfl kr (dgc_len hxl.id) (fun q9 v hq9 => by exact (cell_cells (h.own _ (show _ ∈ (([(l,ob2),(db,Obj.cells (bv x.id) 36 (0,0)),(tb,Obj.cells #[.pointer (some ⟨m.pb,0,none⟩)] 29 (0,0)),(kb,Obj.cells #[.int .i64 (k : Int)] 3 (0,0)),(rb,Obj.cells #[.bool false] 4 (0,0)),(lb,Obj.cells #[.slice (some ⟨b2,0,none⟩) es.length ca] 26 (0,0)),(qb,Obj.cells #[.pointer (some ⟨m.pb,0,none⟩)] 29 (0,0))] ++ (pkM (some m) es ++ (Own.o 49 (es.flatMap enr) ow ++ []))) : LO) from (mR (mR (mL hbm)))))).trans (er_cell hl hbc (i := k) om (by rw [← hxe]; exact app_l hq9))))),(fun g0 => have q0 : (¬ ((k : Int) ≥ (es.length : Int))) := (dF (boolV g0)); (fun w1 _ => equal_bv Tryz.underlying36 Tryz.underlying5 kr hxl.id hxl.id)),(fun g0 => have q0 : ((¬ ((k : Int) ≥ (es.length : Int))) ∧ ((x.id == x.id) = true)) := ⟨(dF (orF1 (boolV g0))),(notF (orF2 (boolV g0)))⟩; (oC 5 rfl rfl)),(fun g0 => have q0 : ((¬ ((k : Int) ≥ (es.length : Int))) ∧ ((x.id == x.id) = true)) := ⟨(dF (orF1 (boolV g0))),(notF (orF2 (boolV g0)))⟩; (oC 3 rfl rfl)),(fun g0 => have q0 : ((¬ ((k : Int) ≥ (es.length : Int))) ∧ ((x.id == x.id) = true)) := ⟨(dF (orF1 (boolV g0))),(notF (orF2 (boolV g0)))⟩; om),(fun g0 => have q0 : ((¬ ((k : Int) ≥ (es.length : Int))) ∧ ((x.id == x.id) = true)) := ⟨(dF (orF1 (boolV g0))),(notF (orF2 (boolV g0)))⟩; (fun w1 h => (cell_cells (h.own _ (show _ ∈ (([(l,ob2),(db,Obj.cells (bv x.id) 36 (0,0)),(tb,Obj.cells #[.pointer (some ⟨m.pb,0,none⟩)] 29 (0,0)),(kb,Obj.cells #[.int .i64 (k : Int)] 3 (0,0)),(rb,Obj.cells #[.bool false] 4 (0,0)),(lb,Obj.cells #[.slice (some ⟨b2,0,none⟩) es.length ca] 26 (0,0)),(qb,Obj.cells #[.pointer (some ⟨m.pb,0,none⟩)] 29 (0,0))] ++ (pkM (some m) es ++ (Own.o 49 (es.flatMap enr) ow ++ []))) : LO) from (mR (mR (mL hbm)))))).trans (er_cell hl hbc (i := k) om (by rw [← hxe]; exact (enr_t hxl))))),trivial⟩ ?_
   refine CfgA.known 36 (b := (((decide ((k : Int) ≥ (es.length : Int))) || (!(x.id == x.id))) || (!(x.t.toList == x.t.toList)))) kr false (by rw [decide_eq_false om,beq_self_eq_true,beq_self_eq_true]; rfl) ?_
   refine Ap [23,24,26,27,28,29,30] [(1,false,some (.pointer (some ⟨m.pb,0,none⟩))),(1,false,some (.agg (bv x.id))),(1,false,some (.slice (some ⟨b2,0,none⟩) es.length ca)),(1,false,some (.int .i64 (k : Int))),(1,false,none),(1,false,none),(1,false,some (.int .i64 (x.p : Int)))] (some [2,4,5,6,7,36,37,38,44]) (bF 2113929215 33) slr 3 (fun S => [((.bool false : Value) = .bool false),(cE S qb 0 (.pointer (some ⟨m.pb,0,none⟩))),((.bool false : Value) = .bool false),(∀ w1,S w1 → (loadVar 36 ⟨db,0,none⟩).run Tryz.prog w1 = .ok (.agg (bv x.id)) w1),((.bool false : Value) = .bool false),(cE S lb 0 (.slice (some ⟨b2,0,none⟩) es.length ca)),((.bool false : Value) = .bool false),(cE S kb 0 (.int .i64 (k : Int))),((.bool false : Value) = .bool false),(0 ≤ (k : Int) ∧ (k : Int) < (es.length : Int)),((.bool false : Value) = .bool false),((.bool false : Value) = .bool false),(cE S b2 ((k * 66) + 33) (.int .i64 (x.p : Int)))]) ⟨rfl,(oC 6 rfl rfl),rfl,(fun w1 h => h.oload 1 rfl Tryz.underlying36 rfl (n := 32) kr ((bv_size _).trans hxl.id)),rfl,(oC 5 rfl rfl),rfl,(oC 3 rfl rfl),rfl,om,rfl,rfl,(fun w1 h => (cell_cells (h.own _ (show _ ∈ (([(l,ob2),(db,Obj.cells (bv x.id) 36 (0,0)),(tb,Obj.cells #[.pointer (some ⟨m.pb,0,none⟩)] 29 (0,0)),(kb,Obj.cells #[.int .i64 (k : Int)] 3 (0,0)),(rb,Obj.cells #[.bool false] 4 (0,0)),(lb,Obj.cells #[.slice (some ⟨b2,0,none⟩) es.length ca] 26 (0,0)),(qb,Obj.cells #[.pointer (some ⟨m.pb,0,none⟩)] 29 (0,0))] ++ (pkM (some m) es ++ (Own.o 49 (es.flatMap enr) ow ++ []))) : LO) from (mR (mR (mL hbm)))))).trans (er_cell hl hbc (i := k) om (by rw [← hxe]; exact (enr_p hxl)))),trivial⟩ ?_
   refine Ae 25 rfl 2  (Eff.callA (vs := [.pointer (some ⟨m.pb,0,none⟩),.agg (bv x.id)]) (.int .i64 ((es.getD k ez).p : Int)) rfl Tryz.func26 rfl rfl kr (fun w1 h => pkDepth m es (pkM (some m) es) x.id k w1 hm hl (fun e he => he) (fun e he => h.own e (show _ ∈ (([(l,ob2),(db,Obj.cells (bv x.id) 36 (0,0)),(tb,Obj.cells #[.pointer (some ⟨m.pb,0,none⟩)] 29 (0,0)),(kb,Obj.cells #[.int .i64 (k : Int)] 3 (0,0)),(rb,Obj.cells #[.bool false] 4 (0,0)),(lb,Obj.cells #[.slice (some ⟨b2,0,none⟩) es.length ca] 26 (0,0)),(qb,Obj.cells #[.pointer (some ⟨m.pb,0,none⟩)] 29 (0,0))] ++ (pkM (some m) es ++ (Own.o 49 (es.flatMap enr) ow ++ []))) : LO) from (mR (mL he)))) hn hxl.id hat)) (fun _ _ => slr) ?_
   rintro ⟨⟩ -
   refine Ap [31,32] [(1,false,none)] (some [2,4,5,6,7,46]) (tF 33 0) slr 0 (fun _ => [((.bool false : Value) = .bool false)]) ⟨rfl,trivial⟩ ?_
   refine CfgA.done kr ?_
   refine Cfg.condF rfl (b := (((es.getD k ez).p : Int) != (x.p : Int))) kr (by rw [← hxe]; exact bne_self_eq_false _) ?_
   refine Cfg.begL rfl ?_
   refine Lp 2 [(dS (.pointer (some ⟨m.pb,0,none⟩))),(dS (.agg (bv x.id)))] (some [4,5,7,48,49]) (fun S => [(cE S qb 0 (.pointer (some ⟨m.pb,0,none⟩))),(∀ w1,S w1 → (loadVar 36 ⟨db,0,none⟩).run Tryz.prog w1 = .ok (.agg (bv x.id)) w1)]) ⟨(oC 6 rfl rfl),(fun w1 h => h.oload 1 rfl Tryz.underlying36 rfl (n := 32) kr ((bv_size _).trans hxl.id)),trivial⟩ ?_
   refine Le (Eff.callA (vs := [.pointer (some ⟨m.pb,0,none⟩),.agg (bv x.id)]) (.tuple #[.string (es.getD k ez).t,.bool true]) rfl Tryz.func27 rfl rfl kr (fun w1 h => pkGet m es (pkM (some m) es) x.id k w1 hm hl (fun e he => he) (fun e he => h.own e (show _ ∈ (([(l,ob2),(db,Obj.cells (bv x.id) 36 (0,0)),(tb,Obj.cells #[.pointer (some ⟨m.pb,0,none⟩)] 29 (0,0)),(kb,Obj.cells #[.int .i64 (k : Int)] 3 (0,0)),(rb,Obj.cells #[.bool false] 4 (0,0)),(lb,Obj.cells #[.slice (some ⟨b2,0,none⟩) es.length ca] 26 (0,0)),(qb,Obj.cells #[.pointer (some ⟨m.pb,0,none⟩)] 29 (0,0))] ++ (pkM (some m) es ++ (Own.o 49 (es.flatMap enr) ow ++ []))) : LO) from (mR (mL he)))) hn hxl.id hat)) ?_
   rintro ⟨⟩ -
   refine Lp 5 [] (some [4,5,7,8,9]) n0 trivial ?_
   refine CfgL.done rfl ?_
   refine Rg [4,5,59] [dZ,dZ,dZ,(1,false,none),(1,false,none),(1,false,none)] (fun _ => [((.bool false : Value) = .bool false),((.bool false : Value) = .bool false),((.bool false : Value) = .bool false)]) ⟨rfl,rfl,rfl,trivial⟩ ?_
   refine Cfg.condF rfl (b := (!((es.getD k ez).t.toList == x.t.toList))) kr (by rw [← hxe,beq_self_eq_true]; rfl) ?_
   refine Cfg.begL rfl ?_
   refine CfgL.pure 2 [(dS (.int .i64 (k : Int)))] (some [5,61]) (Γ' := [(61,[],.int .i64 ((k : Int) + 1)),(5,[],pT kb)]) (nd := (fun S => [(cE S kb 0 (.int .i64 (k : Int))),(i6 ((k : Int) + 1))])) kr (fun _ => kr) ⟨(oC 3 rfl rfl),om,trivial⟩ ?_
   refine Le (Eff.store1 (b := kb) (off := 0) (v := .int .i64 ((k : Int) + 1)) rfl kr kr rfl kr 3 (cs := #[.int .i64 (k : Int)]) (e := 3) kr (by simp)) ?_
   rintro ⟨⟩ -
   refine CfgL.done rfl ?_
   refine Cg (Γ' := []) ?_
   refine Cfg.finR rfl (fun w1 hp => ?_)
   exact ⟨k + 1,by rw [List.length_append,← hJx]; rfl,rfl,hp.sub (.cons_cons _ (.cons _ slr))⟩
 ·intro dr1 k hal hJy
  have hJy : k = es.length := hJy
  refine Cfg.begA rfl kr ([(dr1,.deferred (some [])),(tb,.cells #[.pointer (some ⟨m.pb,0,none⟩)] 29 (0,0)),(kb,.cells #[.int .i64 (k : Int)] 3 (0,0)),(lb,.cells #[.slice la es.length ca] 26 (0,0)),(qb,.cells #[.pointer (some ⟨m.pb,0,none⟩)] 29 (0,0))] ++ (pkM (some m) es ++ (Own.o 49 (es.flatMap enr) ow ++ []))) ?_
  refine Ap [0,1,2,3,4] [(dS (.int .i64 (k : Int))),(dS (.slice la es.length ca))] (some [2,3,4,66]) (tF 5 7) (.cons_cons _ (.cons_cons _ (.cons_cons _ (.cons _ slr)))) 7 (fun S => [(cE S kb 0 (.int .i64 (k : Int))),(cE S lb 0 (.slice la es.length ca))]) ⟨(oC 2 rfl rfl),(oC 3 rfl rfl),trivial⟩ ?_
  refine CfgA.known 66 (b := ((k : Int) == (es.length : Int))) kr true (by rw [hJy]; exact beq_self_eq_true _) ?_
  refine Ap [5,7,8] [(1,false,some (.pointer (some ⟨m.pb,0,none⟩))),(1,false,some (.slice la es.length ca)),(1,false,none)] (some [4,66,67,70]) (bF 447 12) (.cons_cons _ (.cons_cons _ (.cons_cons _ (.cons _ slr)))) 4 (fun S => [((.bool true : Value) = .bool true),(cE S qb 0 (.pointer (some ⟨m.pb,0,none⟩))),((.bool true : Value) = .bool true),(cE S lb 0 (.slice la es.length ca)),((.bool true : Value) = .bool true)]) ⟨rfl,(oC 4 rfl rfl),rfl,(oC 3 rfl rfl),rfl,trivial⟩ ?_
  refine Ae 6 rfl 3  (Eff.callA (vs := [.pointer (some ⟨m.pb,0,none⟩)]) (.int .i64 (es.length : Int)) rfl Tryz.func14 rfl rfl kr (fun w1 h => pkLen m es (pkM (some m) es) w1 hm hl (fun e he => he) (fun e he => h.own e (show _ ∈ (([(dr1,.deferred (some [])),(tb,Obj.cells #[.pointer (some ⟨m.pb,0,none⟩)] 29 (0,0)),(kb,Obj.cells #[.int .i64 (k : Int)] 3 (0,0)),(rb,Obj.cells #[.bool false] 4 (0,0)),(lb,Obj.cells #[.slice la es.length ca] 26 (0,0)),(qb,Obj.cells #[.pointer (some ⟨m.pb,0,none⟩)] 29 (0,0))] ++ (pkM (some m) es ++ (Own.o 49 (es.flatMap enr) ow ++ []))) : LO) from (mR (mL he)))) hn)) (fun _ _ => (.cons_cons _ (.cons_cons _ (.cons_cons _ (.cons _ slr))))) ?_
  rintro ⟨⟩ -
  refine Ap [9,10] [(1,false,none)] (some [4,72]) (tF 11 1) (.cons_cons _ (.cons_cons _ (.cons_cons _ (.cons _ slr)))) 1 (fun _ => [((.bool true : Value) = .bool true)]) ⟨rfl,trivial⟩ ?_
  refine Ae 11 rfl 0  (Eff.store1 (b := rb) (off := 0) (v := .bool ((es.length : Int) == (es.length : Int))) rfl kr kr rfl kr 3 (cs := #[.bool false]) (e := 4) kr (by simp)) (fun _ _ => (.cons_cons _ (.cons_cons _ (.cons_cons _ (.cons _ slr))))) ?_
  rintro ⟨⟩ -
  refine CfgA.done kr ?_
  refine Cg (Γ' := [(4,[],pT rb)]) ?_
  refine Cfg.retM (O' := ([(tb,.cells #[.pointer (some ⟨m.pb,0,none⟩)] 29 (0,0)),(kb,.cells #[.int .i64 (k : Int)] 3 (0,0)),(rb,.cells ((#[.bool false] : Array Value).setIfInBounds 0 (.bool ((es.length : Int) == (es.length : Int)))) 4 (0,0)),(lb,.cells #[.slice la es.length ca] 26 (0,0)),(qb,.cells #[.pointer (some ⟨m.pb,0,none⟩)] 29 (0,0))] ++ (pkM (some m) es ++ (Own.o 49 (es.flatMap enr) ow ++ [])))) rfl (rs := [.cell 4 4]) rfl [.bool ((es.length : Int) == (es.length : Int))] slr ⟨⟨_,by kernel_rfl,fun w1 h => h.ovar 2 (off := 0) rfl kr rfl⟩,trivial⟩ (fun w1 hp => ?_)
  exact ⟨congrArg (fun b => Ending.returned (.bool b)) (beq_self_eq_true _),_,hp.sub (List.sublist_append_right _ _)⟩
 ·intro dr1 k pre x rest hit hal hpa hJy
  cases hpa
end Go.Proofs.YtbeegepcdglcaaaGreatDoor
namespace Go.Proofs.YtbeegepcdglcaaaGreatDoor
open K
set_option linter.unusedVariables false
def rawE (e : En) : En := if 0 < e.p then ⟨e.id,ByteArray.empty,e.b,e.d,1⟩ else ⟨e.id,e.t,dzz,ByteArray.empty,0⟩
theorem tx_data (s : ByteArray) : tx s.data.toList = s := by
 apply ByteArray.ext
 simp [tx]
theorem data_tx (l : List UInt8) : (tx l).data.toList = l := rfl
theorem takeE_app {e : En} (h : EnOk e) (r : List UInt8) : takeE ⟨0,partE e ++ r⟩ = (rawE e,⟨0,r⟩) := by
 unfold takeE partE rawE
 have ht := h.t
 have hd := h.d
 by_cases hp : 0 < e.p
 ·rw [if_pos hp,if_pos hp,List.append_assoc,digF_app _ _ h.id,List.append_assoc]
  simp only
  rw [byteF_app 1 _ (by decide),if_neg (show ¬ (1 : Nat) = 0 by decide),if_pos rfl,List.append_assoc]
  simp only
  rw [digF_app _ _ h.b]
  simp only
  rw [textF_app e.d r om om]
  simp only [tx_data]
 ·rw [if_neg hp,if_neg hp,List.append_assoc,digF_app _ _ h.id,List.append_assoc]
  simp only
  rw [byteF_app 0 _ (by decide),if_pos rfl]
  simp only
  rw [textF_app e.t r om om]
  simp only [tx_data]
theorem rowsF_ents : ∀ (es : List En) (r : List UInt8) (acc : List En),(∀ e ∈ es,EnOk e) → rowsF takeE es.length ⟨0,flat partE es ++ r⟩ acc = (acc ++ es.map rawE,⟨0,r⟩)
 | [],r,acc,_ => by simp [rowsF,flat]
 | x :: xs,r,acc,h => by
  have ht := takeE_app (h x mH) (flat partE xs ++ r)
  have hf : flat partE (x :: xs) ++ r = partE x ++ (flat partE xs ++ r) := by simp [flat]
  rw [List.length_cons,hf,rowsF_succ (by rw [ht]; simp),ht,rowsF_ents xs r _ (fun p hp => h p (List.mem_cons_of_mem _ hp)),List.append_assoc]
  rfl
theorem read_body {es : List En} (h : ∀ e ∈ es,EnOk e) (hn : es.length ≤ 1000000) : readF (bodyF es) = rdP (es.map rawE) [] [] := by
 have h0 : nextF ⟨0,bodyF es⟩ 4 = ([80,65,67,75],⟨0,four es.length ++ flat partE es⟩) := nextF_app [80,65,67,75] _ rfl
 have hb := body_len h
 have h1 : rdRow (bodyF es) = (es.map rawE,⟨0,[]⟩) := by
  unfold rdRow rowsT rdZ
  rw [h0]
  simp only
  rw [boundF_app es.length (flat partE es) om om]
  simp only
  have h2 := rowsF_ents es [] [] h
  rw [List.append_nil] at h2
  rw [h2]; rfl
 unfold readF
 rw [h0,h1,if_pos rfl]
 exact if_pos rfl
theorem rdP_chn (L : List En) : (∀ e ∈ L,e.p = 0) → (∀ e ∈ L,EnOk e) → (ids L).Nodup → ∀ m,rdP ((chn L).map rawE ++ m) [] [] = rdP m (ids L) (txs L) := by
 refine snoc_ind (p := fun L => (∀ e ∈ L,e.p = 0) → (∀ e ∈ L,EnOk e) → (ids L).Nodup → ∀ m,rdP ((chn L).map rawE ++ m) [] [] = rdP m (ids L) (txs L)) (fun _ _ _ m => rfl) (fun L x ih => ?_) L
 intro hp ho hn m
 have hn' : (ids L ++ [x.id]).Nodup := by unfold ids at hn ⊢; rwa [List.map_append] at hn
 have hnL := (List.nodup_append.1 hn').1
 have hoL : ∀ e ∈ L,EnOk e := fun e he => ho e (mL he)
 have ih := ih (fun e he => hp e (mL he)) hoL hnL
 have hx := ho x (mR mH)
 have hxp := hp x (mR mH)
 have hi2 : ids (L ++ [x]) = ids L ++ [x.id] := by unfold ids; rw [List.map_append]; rfl
 have ht2 : txs (L ++ [x]) = txs L ++ [x.t] := by unfold txs; rw [List.map_append]; rfl
 rw [chn_snoc,List.map_append,List.append_assoc,ih,hi2,ht2]
 show rdP (rawE (mkE (chn L) x) :: m) _ _ = _
 rcases mkE_cases (chn L) x with h | ⟨j,h0,h1,h2,h3,h⟩
 ·have hr : rawE x = ⟨x.id,x.t,dzz,ByteArray.empty,0⟩ := if_neg om
  rw [h,hr,rdP_w (show ¬ 0 < 0 by decide)]
 ·have hj := lst_lt h1
  have hci := (chn_ids L).1
  have hct := (chn_ids L).2
  have hcn : (ids (chn L)).Nodup := by rw [hci]; exact hnL
  have hat := atF_ids hcn hj
  obtain ⟨y,hy⟩ : ∃ y,y = (chn L).getD j ez := ⟨_,rfl⟩
  rw [← hy] at hat h
  have hyo : EnOk y := by rw [hy]; exact chn_ok L hoL _ (K.getD_mem hj)
  have hr : rawE (mkE (chn L) x) = ⟨x.id,ByteArray.empty,y.id,tx (mk y.t x.t),1⟩ := by rw [h]; exact if_pos (Nat.succ_pos _)
  have hty : (txs L).getD j ByteArray.empty = y.t := by
   rw [← hct,hy,getD_of _ hj,getD_of _ (by unfold txs; rw [List.length_map]; exact hj)]
   unfold txs
   rw [List.getElem_map]
  have h9 : y.t.size ≤ 10000000 := by have := hyo.t; omega
  have ha := apply_mk (a := y.t) (t := x.t) h9 hx.t
  rw [hr,rdP_d (j := j) (by show 0 < 1; decide) (by rw [← hci]; exact hat) (by rw [hty,data_tx,ha])]
  simp only
  rw [hty,data_tx,ha,tx_data]
theorem read_plan {l : List ByteArray} (hs : ∀ s ∈ l,s.size ≤ 32768) (hn : l.length ≤ 1000000) : readF (bodyF (planF l)) = some (txs (planF l)) := by
 have hpl := planF_len l
 rw [read_body (planF_ok hs) om]
 have hp : ∀ e ∈ esrt (uq l),e.p = 0 := fun e he => by rw [uq_mk0 l e ((esrt_perm _).mem_iff.1 he)]; rfl
 have h1 := rdP_chn (esrt (uq l)) hp (srt_ok hs) (esrt_strict l).nodup []
 rw [List.append_nil] at h1
 unfold planF
 rw [h1,(chn_ids _).2]; rfl
theorem uq_txs (L : List En) : (∀ e ∈ L,e = mk0 e.t) → (ids L).Nodup → uq (txs L) = L := by
 refine snoc_ind (p := fun L => (∀ e ∈ L,e = mk0 e.t) → (ids L).Nodup → uq (txs L) = L) (fun _ _ => rfl) (fun L x ih => ?_) L
 intro h hn
 have hn' : (ids L ++ [x.id]).Nodup := by unfold ids at hn ⊢; rwa [List.map_append] at hn
 have hx := h x (mR mH)
 have e1 : uq (txs (L ++ [x])) = uqs (uq (txs L)) x.t := by unfold uq txs; rw [List.map_append,List.foldl_append]; rfl
 rw [e1,ih (fun e he => h e (mL he)) (List.nodup_append.1 hn').1]
 have hid : sdg x.t = x.id := (congrArg En.id hx).symm
 unfold uqs
 rw [if_neg (fun hm => (List.nodup_append.1 hn').2.2 _ hm _ (List.mem_singleton.2 rfl) hid),← hx]
theorem plan_txs (l : List ByteArray) : planF (txs (planF l)) = planF l := by
 have h1 : txs (planF l) = txs (esrt (uq l)) := (chn_ids _).2
 have h2 : uq (txs (esrt (uq l))) = esrt (uq l) := uq_txs _ (fun e he => uq_mk0 l e ((esrt_perm _).mem_iff.1 he)) (esrt_strict l).nodup
 have h3 : esrt (esrt (uq l)) = esrt (uq l) := by
  have h4 := esrt_strict (txs (esrt (uq l)))
  rw [h2] at h4
  exact strict_eq (esrt_perm _) h4 (esrt_strict l)
 show chn (esrt (uq (txs (planF l)))) = chn (esrt (uq l))
 rw [h1,h2,h3]
theorem open_file {l : List ByteArray} (hs : ∀ s ∈ l,s.size ≤ 32768) (hn : l.length ≤ 1000000) : openF (fileF (planF l)) = (0,planF l) := by
 have hl : (shaD (bodyF (planF l))).length = 32 := shaD_len _
 have h1 : (fileF (planF l)).length - 32 = (bodyF (planF l)).length := by unfold fileF; rw [List.length_append]; omega
 have h2 : bodyOf (fileF (planF l)) = bodyF (planF l) := by
  unfold bodyOf
  rw [h1]
  unfold fileF
  rw [List.take_left']; rfl
 have h3 : (fileF (planF l)).drop ((fileF (planF l)).length - 32) = shaD (bodyF (planF l)) := by
  rw [h1]
  unfold fileF
  rw [List.drop_left']; rfl
 have h4 : openF (fileF (planF l)) = (0,planF (txs (planF l))) := openF_ok (by unfold fileF; rw [List.length_append]; omega) (by rw [h2,h3]; exact fun h => h rfl) (by rw [h2]; exact read_plan hs hn) (by rw [plan_txs])
 rw [h4,plan_txs]
theorem planF_nodup (l : List ByteArray) : (ids (planF l)).Nodup := by
 unfold planF
 rw [(chn_ids _).1]; exact (esrt_strict l).nodup
theorem file_len {l : List ByteArray} (hs : ∀ s ∈ l,s.size ≤ 32768) : (fileF (planF l)).length ≤ 40 + 32837 * l.length := by
 have h1 := (body_len (planF_ok hs)).2
 have h2 := planF_len l
 have h3 : (shaD (bodyF (planF l))).length = 32 := shaD_len _
 unfold fileF
 rw [List.length_append]; omega
theorem file_nil : (fileF (planF [])).length = 40 := by
 have e0 : planF [] = [] := List.eq_nil_of_length_eq_zero (Nat.le_zero.1 (planF_len []))
 rw [e0]
 have h3 : (shaD (bodyF [])).length = 32 := shaD_len _
 unfold fileF
 rw [List.length_append,h3]; rfl
end Go.Proofs.YtbeegepcdglcaaaGreatDoor
namespace Go.Proofs.YtbeegepcdglcaaaGreatDoor
open K
set_option linter.unusedVariables false
def txO (is : List (List UInt8)) (ts : List ByteArray) (d : List UInt8) : ByteArray := match atF is d with
 | none => ByteArray.empty
 | some j => ts.getD j ByteArray.empty
theorem txO_succ {is : List (List UInt8)} {ts : List ByteArray} {d : List UInt8} {i : Nat} (h : i < is.length) : txO (is.take (i + 1)) ts d = if d = is.getD i [] then ts.getD i ByteArray.empty else txO (is.take i) ts d := by
 unfold txO
 rw [List.take_succ_eq_append_getElem h,← getD_of [] h,atF_snoc,List.length_take,Nat.min_eq_left om]
 by_cases hd : d = is.getD i []
 ·rw [if_pos hd,if_pos hd]
 ·rw [if_neg hd,if_neg hd]
theorem dig_cell {is : List (List UInt8)} (hl : ∀ d ∈ is,d.length = 32) {cs : Array Value} (hcs : ∀ j,j < (is.flatMap dgc).length → cs[0 + j]? = some ((is.flatMap dgc).getD j undef)) {i : Nat} (hi : i < is.length) {j : Nat} {v : Value} (hv : (dgc (is.getD i []))[j]? = some v) : cs[i * 32 + j]? = some v := by
 have hd : ∀ d ∈ is,(dgc d).length = 32 := fun d hd => dgc_len (hl d hd)
 have hfl : (is.flatMap dgc).length = is.length * 32 := flat_len hd
 have h := fl_cell (f := dgc) (sz := 32) (l := is) [] hd (off := 0) (cs := cs) (fun j hj => hcs j (by rw [hfl]; exact hj)) hi hv
 rwa [Nat.zero_add] at h
set_option maxRecDepth 100000 in
set_option maxHeartbeats 8000000 in
theorem rText21 (oi ot : K.Own) (is : List (List UInt8)) (ts : List ByteArray) (d : List UInt8) (Rl : List (Nat × Obj)) (w : World) (hoi : OwnOk oi 32 is.length (is.flatMap dgc)) (hot : OwnOk ot 1 ts.length (ts.map Value.string)) (hAi : ∀ e ∈ Own.o 36 (is.flatMap dgc) oi,e ∈ Rl) (hAt : ∀ e ∈ Own.o 9 (ts.map Value.string) ot,e ∈ Rl) (hlen : is.length = ts.length) (h32 : ∀ d ∈ is,d.length = 32) (hd : d.length = 32) (hR : Has w Rl) (hn : is.length ≤ 1000000) :
  Calls Tryz.prog 34 #[.slice (Own.a oi) is.length (Own.c oi),.slice (Own.a ot) ts.length (Own.c ot),.agg (bv d)] w fun e w' => e = .returned (.string (txO is ts d)) ∧ Ext [] w w' := by
 refine enter (vs := [.slice (Own.a oi) is.length (Own.c oi),.slice (Own.a ot) ts.length (Own.c ot),.agg (bv d)]) [] Rl [] Tryz.func34 rfl kr (HP.ofHas hR) ?_
 refine Cfg.begL rfl ?_
 refine Le (Eff.box (v := .agg (bv d)) rfl kr) ?_
 rintro db ⟨hdb,ndb⟩
 refine Lp 1 [] (some [0,1,5]) n0 trivial ?_
 refine CfgL.done rfl ?_
 refine Rg [0,1,5,7] [] n0 trivial ?_
 refine Rg [0,1,5,7,10,11] [] n0 trivial ?_
 refine Cfg.loop rfl (ι := Nat) (fun (i : Nat) => [(11,[],.int .i64 (i : Int)),(10,[],.int .i64 (is.length : Int)),(7,[],.string (txO (is.take i) ts d)),(5,[],pT db),(0,[],.slice (Own.a oi) is.length (Own.c oi)),(1,[],.slice (Own.a ot) ts.length (Own.c ot))]) (fun (i : Nat) => [(db,.cells (bv d) 36 (0,0))]) (fun (i : Nat) => (i ≤ is.length)) (fun (i : Nat) => is.length - i) 0 ?_ (Conv.mk kr) (.cons_cons _ .slnil) ?_
 ·exact Nat.zero_le _
 ·rintro i hi
  refine Rg [0,1,5,7,10,11,12] [] n0 trivial ?_
  refine Cfg.cond rfl (b := (decide ((i : Int) < (is.length : Int)))) kr (fun c1r => ?_) (fun c1r => ?_)
  ·have c1 := (dT c1r)
   obtain ⟨b1,bcs,hba,hbm,hbc⟩ := own_at (e := 36) hoi om
   obtain ⟨s1,scs,hsa,hsm,hsc⟩ := own_at (e := 9) hot om
   refine Cfg.setS 0 (congrArg (fun (xq : Value) => (xq : Value)) (show .slice (Own.a oi) is.length (Own.c oi) = .slice (some ⟨b1,0,none⟩) is.length (Own.c oi) from by rw [hba])) ?_
   refine Cfg.setS 1 (congrArg (fun (xq : Value) => (xq : Value)) (show .slice (Own.a ot) ts.length (Own.c ot) = .slice (some ⟨s1,0,none⟩) ts.length (Own.c ot) from by rw [hsa])) ?_
   refine Rg [0,1,5,7,8,10,11] [] n0 trivial ?_
   refine Cfg.regD rfl kr [0,1,5,7,8,10,11,19] [dZ,dZ,dZ,(dS (.agg (bv (is.getD i [])))),(dS (.agg (bv d))),(dS (.bool ((is.getD i []) == d)))] (Γ' := [(19,[],.bool ((is.getD i []) == d)),(8,[],.int .i64 (i : Int)),(11,[],.int .i64 (i : Int)),(10,[],.int .i64 (is.length : Int)),(7,[],.string (txO (is.take i) ts d)),(5,[],pT db),(0,[],.slice (some ⟨b1,0,none⟩) is.length (Own.c oi)),(1,[],.slice (some ⟨s1,0,none⟩) ts.length (Own.c ot))]) (nd := (fun S => [(0 ≤ (i : Int) ∧ (i : Int) < (is.length : Int)),(∀ w1,S w1 → (loadVar 36 ⟨b1,(i * 32),none⟩).run Tryz.prog w1 = .ok (.agg (bv (is.getD i []))) w1),(∀ w1,S w1 → (loadVar 36 ⟨db,0,none⟩).run Tryz.prog w1 = .ok (.agg (bv d)) w1),(∀ w1,S w1 → (Op.equal 36 (.agg (bv (is.getD i []))) (.agg (bv d))).run Tryz.prog w1 = .ok ((is.getD i []) == d) w1)])) kr kr (fun _ => kr) ⟨om,(fun w1 h => load_list (vs := dgc (is.getD i [])) Tryz.underlying36 rfl kr (dgc_len (h32 _ (K.getD_mem om))) (fun q9 v hq9 => (cell_cells (h.ro _ (hAi _ hbm))).trans (dig_cell h32 hbc om hq9))),(fun w1 h => h.oload 0 rfl Tryz.underlying36 rfl (n := 32) kr ((bv_size _).trans hd)),(fun w1 _ => equal_bv Tryz.underlying36 Tryz.underlying5 kr (h32 _ (K.getD_mem om)) hd),trivial⟩ ?_
   refine Cfg.cond rfl (b := ((is.getD i []) == d)) kr (fun c2r => ?_) (fun c2r => ?_)
   ·have c2 : (((is.getD i []) == d) = true) := c2r
    refine Rg [0,1,5,7,10,11] [dZ,dZ,dZ,(dS (.string (ts.getD i ByteArray.empty)))] (fun S => [(0 ≤ (i : Int) ∧ (i : Int) < (ts.length : Int)),(cE S s1 i (.string (ts.getD i ByteArray.empty)))]) ⟨om,(fun w1 h => (cell_cells (h.ro _ (hAt _ hsm))).trans (str_at hsc om)),trivial⟩ ?_
    refine Rg [0,1,5,7,10,11] [] (fun _ => [(i6 ((i : Int) + 1))]) ⟨om,trivial⟩ ?_
    have ht : txO (is.take (i + 1)) ts d = ts.getD i ByteArray.empty := by
     rw [txO_succ om]
     exact if_pos (beq_iff_eq.1 (by simpa using c2)).symm
    refine Cfg.setS 7 (congrArg Value.string (show (ts.getD i ByteArray.empty) = (txO (is.take (i + 1)) ts d) from ht.symm)) ?_
    refine Cfg.setS 0 (congrArg (fun (xq : Value) => (xq : Value)) (show .slice (some ⟨b1,0,none⟩) is.length (Own.c oi) = .slice (Own.a oi) is.length (Own.c oi) from by rw [hba])) ?_
    refine Cfg.setS 1 (congrArg (fun (xq : Value) => (xq : Value)) (show .slice (some ⟨s1,0,none⟩) ts.length (Own.c ot) = .slice (Own.a ot) ts.length (Own.c ot) from by rw [hsa])) ?_
    refine Cfg.again rfl (i + 1) (show i + 1 ≤ is.length by omega) om (Conv.mk kr) (.cons_cons _ .slnil)
   ·have c2 : (((is.getD i []) == d) = false) := c2r
    refine Rg [0,1,5,7,10,11] [] (fun _ => [(i6 ((i : Int) + 1))]) ⟨om,trivial⟩ ?_
    have ht : txO (is.take (i + 1)) ts d = txO (is.take i) ts d := by
     rw [txO_succ om]
     exact if_neg (fun e => by rw [e] at c2; simp at c2)
    refine Cfg.setS 7 (congrArg Value.string (show (txO (is.take i) ts d) = (txO (is.take (i + 1)) ts d) from ht.symm)) ?_
    refine Cfg.setS 0 (congrArg (fun (xq : Value) => (xq : Value)) (show .slice (some ⟨b1,0,none⟩) is.length (Own.c oi) = .slice (Own.a oi) is.length (Own.c oi) from by rw [hba])) ?_
    refine Cfg.setS 1 (congrArg (fun (xq : Value) => (xq : Value)) (show .slice (some ⟨s1,0,none⟩) ts.length (Own.c ot) = .slice (Own.a ot) ts.length (Own.c ot) from by rw [hsa])) ?_
    refine Cfg.again rfl (i + 1) (show i + 1 ≤ is.length by omega) om (Conv.mk kr) (.cons_cons _ .slnil)
  ·have c1 := (dF c1r)
   refine Rg [6] [] n0 trivial ?_
   refine Cfg.ret rfl (rs := [.tmp 6]) rfl [.string (txO (is.take i) ts d)] ⟨kr,trivial⟩ (fun w1 hp => ?_)
   have hie : is.take i = is := List.take_of_length_le om
   rw [hie]
   exact ⟨rfl,hp.ext⟩
end Go.Proofs.YtbeegepcdglcaaaGreatDoor
namespace Go.Proofs.YtbeegepcdglcaaaGreatDoor
open K
set_option linter.unusedVariables false
def rlF : Nat → IN → List PT → List PT × IN
 | 0,z,acc => (acc,z)
 | k + 1,z,acc => if z.er ≠ 0 then (acc,z) else rlF k (takeP z).2 (acc ++ [(takeP z).1])
theorem rlF_err {k : Nat} {z : IN} {acc : List PT} (h : z.er ≠ 0) : rlF k z acc = (acc,z) := by
 cases k with
 | zero => rfl
 | succ k => exact if_pos h
theorem rlF_rows : ∀ (k : Nat) (z : IN) (acc : List PT),z.er = 0 → (rlF k z acc).2 = (rowsF takeP k z acc).2 ∧ ((rlF k z acc).2.er = 0 → rlF k z acc = rowsF takeP k z acc)
 | 0,z,acc,_ => ⟨rfl,fun _ => rfl⟩
 | k + 1,z,acc,h => by
  have e1 : rlF (k + 1) z acc = rlF k (takeP z).2 (acc ++ [(takeP z).1]) := if_neg (fun hn => hn h)
  rw [e1]
  by_cases h2 : (takeP z).2.er = 0
  ·rw [rowsF_succ (fun hn => hn h2)]
   exact rlF_rows k _ _ h2
  ·rw [rlF_err h2,rowsF_fail h2]
   exact ⟨rfl,fun h3 => absurd h3 h2⟩
end Go.Proofs.YtbeegepcdglcaaaGreatDoor
namespace Go.Proofs.YtbeegepcdglcaaaGreatDoor
open K
set_option linter.unusedVariables false
def pR (p : PT) : List Value := [.int .i64 (p.kind : Int),.int .i64 (p.pat : Int),.int .i64 (p.n : Int),.string p.text]
theorem pR_len (p : PT) : (pR p).length = 4 := rfl
theorem all_pR (p : PT) : ∀ v ∈ pR p,K.one v = true := by
 intro v h
 simp only [pR,List.mem_cons,List.not_mem_nil,or_false] at h
 rcases h with rfl | rfl | rfl | rfl <;> rfl
theorem pR_cell {l : List PT} {cs : Array Value} (hcs : ∀ j,j < (l.flatMap pR).length → cs[0 + j]? = some ((l.flatMap pR).getD j undef)) {i : Nat} (hi : i < l.length) {j : Nat} {v : Value} (hv : (pR (l.getD i PT0))[j]? = some v) : cs[i * 4 + j]? = some v := by
 have hfl : (l.flatMap pR).length = l.length * 4 := flat_len (fun p _ => pR_len p)
 have h := fl_cell (f := pR) (sz := 4) (l := l) PT0 (fun p _ => pR_len p) (off := 0) (cs := cs) (fun j hj => hcs j (by rw [hfl]; exact hj)) hi hv
 rwa [Nat.zero_add] at h
theorem byte_val (z : IN) : valF (nextF z ((1 : Nat) : Int)).1 = (byteF z).1 := by
 have h1 := nextF_len z 1
 have h2 : valF (nextF z 1).1 < 256 := by
  match (nextF z 1).1,h1 with
  | [],_ => decide
  | [b],_ =>
   have hb := byteLt b
   show vf 0 b < 256
   unfold vf; omega
  | _ :: _ :: _,h => exact absurd h (by simp)
 exact (Nat.mod_eq_of_lt h2).symm
theorem takeP_zero {z : IN} (h : (byteF z).1 = 0) : takeP z = (⟨0,(fourF (byteF z).2).1,(fourF (fourF (byteF z).2).2).1,ByteArray.empty⟩,(fourF (fourF (byteF z).2).2).2) := if_pos h
theorem takeP_one {z : IN} (h : (byteF z).1 = 1) : takeP z = (⟨1,0,0,tx (textF (byteF z).2 32768).1⟩,(textF (byteF z).2 32768).2) := by unfold takeP; rw [if_neg (by omega),if_pos h]
theorem takeP_else {z : IN} (h0 : ¬ (byteF z).1 = 0) (h1 : ¬ (byteF z).1 = 1) : takeP z = (⟨(byteF z).1,0,0,ByteArray.empty⟩,failF (byteF z).2 11) := by unfold takeP; rw [if_neg h0,if_neg h1]
theorem boundF_err {z : IN} {most e : Int} (h : (boundF z most e).2.er ≠ 0) : (boundF z most e).1 = 0 := by
 unfold boundF at h ⊢
 by_cases h1 : (fourF z).1 > (if 0 > most then 0 else most).toNat
 ·rw [if_pos h1]
 ·rw [if_neg h1] at h ⊢
  unfold fourF at h ⊢
  simp only at h ⊢
  unfold nextF at h ⊢
  by_cases h2 : z.er ≠ 0
  ·rw [if_pos h2]; rfl
  ·rw [if_neg h2] at h ⊢
   by_cases h3 : (4 : Int) < 0 ∨ 4 > (z.rest.length : Int)
   ·rw [if_pos h3]; rfl
   ·rw [if_neg h3] at h; exact absurd h h2
theorem rlF_fin {l : List UInt8} {k : Nat} {z : IN} {acc : List PT} (h : rlF ((boundF (aZ l) 64 6).1 - k) z acc = rlF (boundF (aZ l) 64 6).1 (boundF (aZ l) 64 6).2 []) (hx : k = (boundF (aZ l) 64 6).1 ∨ z.er ≠ 0) : z = (aRow l).2 ∧ (z.er = 0 → acc = (aRow l).1) := by
 have h1 : rlF ((boundF (aZ l) 64 6).1 - k) z acc = (acc,z) := by
  rcases hx with rfl | hx
  ·rw [Nat.sub_self]; rfl
  ·exact rlF_err hx
 rw [h1] at h
 by_cases h0 : (boundF (aZ l) 64 6).2.er = 0
 ·obtain ⟨g1,g2⟩ := rlF_rows (boundF (aZ l) 64 6).1 (boundF (aZ l) 64 6).2 [] h0
  rw [← h] at g1 g2
  exact ⟨g1,fun h9 => congrArg Prod.fst (g2 h9)⟩
 ·have hn := boundF_err h0
  rw [hn] at h
  have e : aRow l = ([],(boundF (aZ l) 64 6).2) := by unfold aRow rowsT; rw [hn]; rfl
  rw [e]
  have h7 := congrArg Prod.snd h
  have h8 := congrArg Prod.fst h
  exact ⟨h7,fun _ => h8⟩
theorem rlF_step {k n : Nat} {z z0 : IN} {acc : List PT} (hk : k < n) (he : z.er = 0) (h : rlF (n - k) z acc = rlF n z0 []) : rlF (n - (k + 1)) (takeP z).2 (acc ++ [(takeP z).1]) = rlF n z0 [] := by
 rw [← h,show n - k = (n - (k + 1)) + 1 by omega]
 exact (if_neg (fun hn => hn he)).symm
theorem fin_far {a : ByteArray} {l out : List UInt8} {acc : List PT} {i : Nat} (hac : acc = (aRow l).1) (h : ¬ aEnd l ≠ 0) (h2 : ¬ a.size ≠ aFrom l) (hap : applyP a (acc.drop i) out = applyP a acc []) (hi : i < acc.length) (hk : (acc.getD i PT0).kind = 0) (hf : a.size < (acc.getD i PT0).pat + (acc.getD i PT0).n) : applyF a l = ([],31) := by
 subst hac
 exact applyF_bad h h2 (hap.symm.trans (applyP_far a hi out hk hf)) (by decide)
theorem fin_long {a : ByteArray} {l out : List UInt8} {acc : List PT} {i : Nat} (hac : acc = (aRow l).1) (h : ¬ aEnd l ≠ 0) (h2 : ¬ a.size ≠ aFrom l) (hap : applyP a (acc.drop i) out = applyP a acc []) (hi : i < acc.length) (hk : ¬ ((acc.getD i PT0).kind = 0 ∧ a.size < (acc.getD i PT0).pat + (acc.getD i PT0).n)) (hf : out.length + (pieceF a (acc.getD i PT0)).size > 32768) : applyF a l = ([],5) := by
 subst hac
 exact applyF_bad h h2 (hap.symm.trans (applyP_long a hi out hk hf)) (by decide)
theorem fin_done {a : ByteArray} {l out : List UInt8} {acc : List PT} {i : Nat} (hac : acc = (aRow l).1) (hap : applyP a (acc.drop i) out = applyP a acc []) (hi : acc.length ≤ i) : applyP a (aRow l).1 [] = (0,out) := by
 subst hac
 rw [← hap,List.drop_eq_nil_of_le hi]; rfl
theorem endF_zero {z : IN} (h : endF z = 0) : z.er = 0 := by
 unfold endF at h
 by_cases h1 : z.er ≠ 0
 ·rw [if_pos h1] at h; exact absurd h h1
 ·exact Decidable.not_not.1 h1
theorem tx_ap (o : List UInt8) (s : ByteArray) : tx o ++ s = tx (o ++ s.data.toList) := by
 exact (congrArg (fun q => tx o ++ q) (tx_data s).symm).trans (tx_app _ _)
theorem tx_sz (o : List UInt8) (s : ByteArray) : (tx (o ++ s.data.toList)).size = o.length + s.size := by
 show (o ++ s.data.toList).toArray.size = _
 rw [List.size_toArray,List.length_append,Array.length_toList]; rfl
end Go.Proofs.YtbeegepcdglcaaaGreatDoor
namespace Go.Proofs.YtbeegepcdglcaaaGreatDoor
open K
set_option linter.unusedVariables false
def inR (z : IN) : Array Value := #[.string (tx z.rest),.int .i64 z.er]
theorem valF_lt4 {l : List UInt8} (h : l.length ≤ 4) : valF l < 4294967296 := by
 have key : ∀ (l : List UInt8) (m : Nat),(m + 1) * 256 ^ l.length ≤ 18446744073709551616 → l.foldl vf m < (m + 1) * 256 ^ l.length := by
  intro l
  induction l with
  | nil => intro m _; simp
  | cons b l ih =>
   intro m hm
   have hb := byteLt b
   rw [List.length_cons,Nat.pow_succ,Nat.mul_comm (256 ^ l.length) 256,← Nat.mul_assoc] at hm ⊢
   have hk : 0 < 256 ^ l.length := Nat.pow_pos (by decide)
   have h1 : (m + 1) * 256 ≤ 18446744073709551616 := Nat.le_trans (Nat.le_mul_of_pos_right _ hk) hm
   have e : vf m b = m * 256 + b.toNat := by unfold vf; omega
   rw [List.foldl_cons,e]
   have h2 : (m * 256 + b.toNat + 1) * 256 ^ l.length ≤ (m + 1) * 256 * 256 ^ l.length := Nat.mul_le_mul_right _ om
   exact Nat.lt_of_lt_of_le (ih _ (Nat.le_trans h2 hm)) h2
 have h1 := key l 0 (by
  have : 256 ^ l.length ≤ 256 ^ 4 := Nat.pow_le_pow_right (by decide) h
  omega)
 have h2 : 256 ^ l.length ≤ 256 ^ 4 := Nat.pow_le_pow_right (by decide) h
 unfold valF
 omega
theorem vf_sum (n : Nat) (b : UInt8) : ((((n : Int) * 256) % 18446744073709551616) + (b.toNat : Int)) % 18446744073709551616 = (vf n b : Int) := by
 have h1 := vf_lt n b
 unfold vf at h1 ⊢
 omega
theorem fourF_val (z : IN) : (fourF z).1 = valF (nextF z 4).1 := by
 have h1 := valF_lt4 (nextF_len z 4)
 exact Nat.mod_eq_of_lt h1
theorem failF_ne (z : IN) {e : Int} (he : e ≠ 0) : (failF z e).er ≠ 0 := by
 unfold failF; split
 ·exact he
 ·assumption
theorem textF_fail {z : IN} {most : Int} (h : (fourF z).1 > (if 0 > most then 0 else most).toNat) : textF z most = ([],failF (fourF z).2 5) := by
 unfold textF boundF
 rw [if_pos h]
 exact if_pos (failF_ne _ (by decide))
theorem textF_fine {z : IN} {most : Int} (h : ¬ (fourF z).1 > (if 0 > most then 0 else most).toNat) : textF z most = nextF (fourF z).2 ((fourF z).1 : Nat) := by
 unfold textF boundF
 rw [if_neg h]
def digK (l : List UInt8) (k : Nat) : List UInt8 := l.take k ++ List.replicate (32 - k) 0
theorem digK_len {l : List UInt8} {k : Nat} (h : k ≤ l.length) (h32 : k ≤ 32) : (digK l k).length = 32 := by simp [digK]; omega
theorem digK_set {l : List UInt8} {k : Nat} (h : k < l.length) (h32 : k < 32) : (digK l k).set k (l.getD k 0) = digK l (k + 1) := by
 have e : (l.take k).length = k := by rw [List.length_take]; omega
 unfold digK
 rw [List.set_append_right _ _ om,e,Nat.sub_self,show 32 - k = (32 - (k + 1)) + 1 by omega,List.replicate_succ,List.set_cons_zero,List.take_add_one,List.getD_eq_getElem?_getD,List.getElem?_eq_getElem h,List.append_assoc]
 rfl
theorem digK_zero (l : List UInt8) : digK l 0 = List.replicate 32 0 := by simp [digK]
theorem digK_end {l : List UInt8} (h : l = [] ∨ l.length = 32) : digK l l.length = dig32 l := by
 rcases h with rfl | h
 ·show digK [] 0 = _
  rw [digK_zero]; rfl
 ·unfold digK dig32; rw [if_pos h,List.take_length,h]; simp
theorem u8_same' (b : UInt8) : UInt8.ofNat ((b.toNat : Int)).toNat = b := by simp
set_option maxRecDepth 100000 in
theorem rFail (b : Nat) (z : IN) (x : Int) (w : World) (hB : w.heap[b]? = some (.cells (inR z) 76 (0,0))) :
  Calls Tryz.prog 36 #[.pointer (some ⟨b,0,none⟩),.int .i64 x] w fun e w' => e = .returned (.tuple #[]) ∧ Ext [b] w w' ∧ w'.heap[b]? = some (.cells (inR (failF z x)) 76 (0,0)) := by
 refine enter (vs := [pT b,.int .i64 x]) [b] [] [(b,.cells (inR z) 76 (0,0))] Tryz.func36 rfl kr (HP.startM (R := []) (fun _ h => by cases h) hB (by simp)) ?_
 refine Rg [0,1,8] [dZ,dZ,dZ,(dS (.int .i64 z.er))] (fun S => [(cE S b 1 (.int .i64 z.er))]) ⟨(oC 0 rfl rfl),trivial⟩ ?_
 refine Cfg.cond rfl (b := (z.er == (0 : Int))) kr (fun c1r => ?_) (fun c1r => ?_)
 ·have c1 := (beq_iff_eq.1 c1r)
  refine Cfg.begL rfl ?_
  refine Lp 4 [] (some [10,12]) n0 trivial ?_
  refine Le (Eff.store1 (b := b) (off := 1) (v := .int .i64 x) rfl kr kr rfl kr 0 (cs := (inR z)) (e := 76) kr (by simp [inR])) ?_
  rintro ⟨⟩ -
  refine CfgL.done rfl ?_
  refine Cg (Γ' := []) ?_
  refine Cfg.fin rfl (rs := []) rfl [] trivial (fun w1 hp => ?_)
  exact ⟨rfl,hp.ext,(show failF z x = ⟨x,z.rest⟩ from if_pos c1).symm ▸ hp.own (b,_) mH⟩
 ·have c1 := (beq_eq_false_iff_ne.1 c1r)
  refine Cfg.fin rfl (rs := []) rfl [] trivial (fun w1 hp => ?_)
  exact ⟨rfl,hp.ext,(show failF z x = z from if_neg c1).symm ▸ hp.own (b,_) mH⟩
set_option maxRecDepth 100000 in
theorem rRaw (b : Nat) (z : IN) (n : Int) (w : World) (hB : w.heap[b]? = some (.cells (inR z) 76 (0,0))) :
  Calls Tryz.prog 30 #[.pointer (some ⟨b,0,none⟩),.int .i64 n] w fun e w' => e = .returned (.string (tx (nextF z n).1)) ∧ Ext [b] w w' ∧ w'.heap[b]? = some (.cells (inR (nextF z n).2) 76 (0,0)) := by
 have hts := tx_size z.rest
 refine enter (vs := [pT b,.int .i64 n]) [b] [] [(b,.cells (inR z) 76 (0,0))] Tryz.func30 rfl kr (HP.startM (R := []) (fun _ h => by cases h) hB (by simp)) ?_
 refine Rg [0,1] [] n0 trivial ?_
 refine Rg [0,1,10] [dZ,dZ,dZ,(dS (.int .i64 z.er))] (fun S => [(cE S b 1 (.int .i64 z.er))]) ⟨(oC 0 rfl rfl),trivial⟩ ?_
 refine Cfg.cond rfl (b := (z.er != (0 : Int))) kr (fun c1r => ?_) (fun c1r => ?_)
 ·have c1 := (bne_iff_ne.1 c1r)
  refine Rg [4] [] n0 trivial ?_
  refine Cfg.ret rfl (rs := [.tmp 4]) rfl [.string ⟨#[]⟩] ⟨kr,trivial⟩ (fun w1 hp => ?_)
  have hx : nextF z n = ([],z) := if_pos c1
  rw [hx]
  exact ⟨rfl,hp.ext,hp.own (b,_) mH⟩
 ·have c1 := (bne_eq_false_iff_eq.1 c1r)
  refine Rg [0,1,21] [dZ,dZ,dZ,dZ,dZ,dZ,dZ,(dS (.string (tx z.rest)))] (fun S => [((.bool (decide (n < (0 : Int))) : Value) = .bool false → (cE S b 0 (.string (tx z.rest))))]) ⟨(fun g0 => have q0 : (¬ (n < (0 : Int))) := (dF (boolV g0)); (oC 0 rfl rfl)),trivial⟩ ?_
  refine Cfg.cond rfl (b := ((decide (n < (0 : Int))) || (decide (n > ((tx z.rest).size : Int))))) kr (fun c2r => ?_) (fun c2r => ?_)
  ·have c2 : ((n < (0 : Int)) ∨ (n > ((tx z.rest).size : Int))) := ((orT c2r).elim (fun h => Or.inl (dT h)) (fun h => Or.inr (dT h)))
   refine Cfg.begL rfl ?_
   refine Lp 3 [] (some [24]) n0 trivial ?_
   refine Le (Eff.store1 (b := b) (off := 1) (v := .int .i64 3) rfl kr kr rfl kr 0 (cs := (inR z)) (e := 76) kr (by simp [inR])) ?_
   rintro ⟨⟩ -
   refine CfgL.done rfl ?_
   refine Cg (Γ' := []) ?_
   refine Rg [4] [] n0 trivial ?_
   refine Cfg.ret rfl (rs := [.tmp 4]) rfl [.string ⟨#[]⟩] ⟨kr,trivial⟩ (fun w1 hp => ?_)
   have hx : nextF z n = ([],⟨3,z.rest⟩) := (if_neg om).trans (if_pos om)
   rw [hx]
   exact ⟨rfl,hp.ext,hp.own (b,_) mH⟩
  ·have c2 : ((¬ (n < (0 : Int))) ∧ (¬ (n > ((tx z.rest).size : Int)))) := ⟨(dF (orF1 c2r)),(dF (orF2 c2r))⟩
   refine Rg [0,1,5] [dZ,dZ,dZ,(dS (.string (tx z.rest)))] (fun S => [(cE S b 0 (.string (tx z.rest))),(0 ≤ n),(0 ≤ (n).toNat ∧ (n).toNat ≤ (tx z.rest).size)]) ⟨(oC 0 rfl rfl),om,om,trivial⟩ ?_
   refine Cfg.begL rfl ?_
   refine Lp 9 [dZ,dZ,dZ,dZ,(dS (.string (tx z.rest)))] (some [5,37,39]) (fun S => [(cE S b 0 (.string (tx z.rest))),(0 ≤ n),((n).toNat ≤ (tx z.rest).size ∧ (tx z.rest).size ≤ (tx z.rest).size)]) ⟨(oC 0 rfl rfl),om,om,trivial⟩ ?_
   refine Le (Eff.store1 (b := b) (off := 0) (v := .string ((tx z.rest).extract ((n).toNat) ((tx z.rest).size))) rfl kr kr rfl kr 0 (cs := (inR z)) (e := 76) kr (by simp [inR])) ?_
   rintro ⟨⟩ -
   refine CfgL.done rfl ?_
   refine Cg (Γ' := [(5,[],.string ((tx z.rest).extract 0 ((n).toNat)))]) ?_
   refine Rg [4] [] n0 trivial ?_
   refine Cfg.ret rfl (rs := [.tmp 4]) rfl [.string ((tx z.rest).extract 0 ((n).toNat))] ⟨kr,trivial⟩ (fun w1 hp => ?_)
   have hx : nextF z n = (z.rest.take n.toNat,⟨z.er,z.rest.drop n.toNat⟩) := (if_neg om).trans (if_neg om)
   rw [hx]
   exact ⟨by rw [tx_take]; rfl,hp.ext,by show w1.heap[b]? = some (.cells #[.string (tx (z.rest.drop n.toNat)),.int .i64 z.er] 76 (0,0)); rw [← tx_drop]; exact hp.own (b,_) mH⟩
set_option maxRecDepth 100000 in
theorem rNumI (b : Nat) (z : IN) (k : Nat) (w : World) (hB : w.heap[b]? = some (.cells (inR z) 76 (0,0))) (hk : k ≤ 8) :
  Calls Tryz.prog 31 #[.pointer (some ⟨b,0,none⟩),.int .i64 (k : Int)] w fun e w' => e = .returned (.int .u64 (valF (nextF z (k : Int)).1 : Int)) ∧ Ext [b] w w' ∧ w'.heap[b]? = some (.cells (inR (nextF z (k : Int)).2) 76 (0,0)) := by
 have hts := tx_size (nextF z (k : Int)).1
 have hnl := nextF_len z k
 refine enter (vs := [pT b,.int .i64 (k : Int)]) [b] [] [(b,.cells (inR z) 76 (0,0))] Tryz.func31 rfl kr (HP.startM (R := []) (fun _ h => by cases h) hB (by simp)) ?_
 refine Rg [0,1] [] n0 trivial ?_
 refine Cfg.begL rfl ?_
 refine Lp 2 [] (some [8,9]) n0 trivial ?_
 refine Le (Eff.callM (vs := [pT b,.int .i64 (k : Int)]) (.string (tx (nextF z (k : Int)).1)) 0 (b := b) (ob := .cells (inR z) 76 (0,0)) (.cells (inR ((nextF z (k : Int)).2)) 76 (0,0)) rfl Tryz.func30 rfl rfl kr kr (fun w1 h => rRaw b z (k : Int) w1 (h.own (b,_) (mG 0 rfl)))) ?_
 rintro ⟨⟩ -
 refine Lp 1 [] (some [5]) n0 trivial ?_
 refine CfgL.done rfl ?_
 refine Rg [5,6] [] n0 trivial ?_
 refine Rg [5,6,7] [] n0 trivial ?_
 refine Cfg.loop rfl (ι := Nat) (fun (i : Nat) => [(7,[],.int .i64 (i : Int)),(6,[],.int .u64 ((valF ((nextF z (k : Int)).1.take i)) : Int)),(5,[],.string (tx (nextF z (k : Int)).1))]) (fun (i : Nat) => [(b,.cells (inR ((nextF z (k : Int)).2)) 76 (0,0))]) (fun (i : Nat) => (i ≤ (nextF z (k : Int)).1.length)) (fun (i : Nat) => (nextF z (k : Int)).1.length - i) 0 ?_ (Conv.mk kr) (.cons_cons _ .slnil) ?_
 ·exact Nat.zero_le _
 ·rintro i hi
  refine Rg [5,6,7,14] [] n0 trivial ?_
  refine Cfg.cond rfl (b := (decide ((i : Int) < ((tx (nextF z (k : Int)).1).size : Int)))) kr (fun c1r => ?_) (fun c1r => ?_)
  ·have c1 := (dT c1r)
   refine Rg [5,6,7] [] (fun _ => [(0 ≤ (i : Int) ∧ (i : Int) < ((tx (nextF z (k : Int)).1).size : Int)),((0 : Int) ≤ (sbyte (tx (nextF z (k : Int)).1) (i : Int)) ∧ (sbyte (tx (nextF z (k : Int)).1) (i : Int)) ≤ 18446744073709551615)]) ⟨om,(by have := byteLt (gb (nextF z (k : Int)).1 i); have := valF_lt ((nextF z (k : Int)).1.take i); have := sbyte_gb (nextF z (k : Int)).1 i; omega),trivial⟩ ?_
   refine Cfg.reg rfl [5,6,7] [] (Γ' := [(7,[],.int .i64 ((i : Int) + 1)),(6,[],.int .u64 ((((((valF ((nextF z (k : Int)).1.take i)) : Int) * 256) % 18446744073709551616) + (sbyte (tx (nextF z (k : Int)).1) (i : Int))) % 18446744073709551616)),(5,[],.string (tx (nextF z (k : Int)).1))]) (nd := (fun _ => [(i6 ((i : Int) + 1))])) (fun _ => kr) ⟨om,trivial⟩ ?_
   refine Cfg.setS 6 (congrArg (fun (xq : Int) => (.int .u64 xq : Value)) (show ((((((valF ((nextF z (k : Int)).1.take i)) : Int) * 256) % 18446744073709551616) + (sbyte (tx (nextF z (k : Int)).1) (i : Int))) % 18446744073709551616) = ((valF ((nextF z (k : Int)).1.take (i + 1))) : Int) from by rw [val_succ om,sbyte_gb,vf_sum])) ?_
   refine Cfg.again rfl (i + 1) (show i + 1 ≤ (nextF z (k : Int)).1.length by omega) om (Conv.mk kr) (.cons_cons _ .slnil)
  ·have c1 := (dF c1r)
   refine Rg [4] [] n0 trivial ?_
   refine Cfg.ret rfl (rs := [.tmp 4]) rfl [.int .u64 ((valF ((nextF z (k : Int)).1.take i)) : Int)] ⟨kr,trivial⟩ (fun w1 hp => ?_)
   exact ⟨by rw [show (nextF z (k : Int)).1.take i = (nextF z (k : Int)).1 from List.take_of_length_le om]; rfl,hp.ext,hp.own (b,_) mH⟩
set_option maxRecDepth 100000 in
theorem rTextI (b : Nat) (z : IN) (most : Int) (w : World) (hB : w.heap[b]? = some (.cells (inR z) 76 (0,0))) (hm : most ≤ 9223372036854775807) :
  Calls Tryz.prog 33 #[.pointer (some ⟨b,0,none⟩),.int .i64 most] w fun e w' => e = .returned (.string (tx (textF z most).1)) ∧ Ext [b] w w' ∧ w'.heap[b]? = some (.cells (inR (textF z most).2) 76 (0,0)) := by
 have hfl := fourF_lt z
 have hfv := fourF_val z
 refine enter (vs := [pT b,.int .i64 most]) [b] [] [(b,.cells (inR z) 76 (0,0))] Tryz.func33 rfl kr (HP.startM (R := []) (fun _ h => by cases h) hB (by simp)) ?_
 refine Rg [0,1] [] n0 trivial ?_
 refine Cfg.begL rfl ?_
 refine Lp 1 [] none n0 trivial ?_
 refine Le (Eff.callM (vs := [pT b,.int .i64 4]) (.int .u64 ((fourF z).1 : Int)) 0 (b := b) (ob := .cells (inR z) 76 (0,0)) (.cells (inR ((fourF z).2)) 76 (0,0)) rfl Tryz.func31 rfl rfl kr kr (fun w1 h => (by have h9 := rNumI b z 4 w1 (h.own (b,_) (mG 0 rfl)) om; rw [hfv]; exact h9))) ?_
 rintro ⟨⟩ -
 refine Lp 1 [] (some [0,1,5]) n0 trivial ?_
 refine CfgL.done rfl ?_
 refine Rg [0,1,5,9] [] n0 trivial ?_
 refine Cfg.cond rfl (b := (decide (most < (0 : Int)))) kr (fun c1r => ?_) (fun c1r => ?_)
 ·have c1 := (dT c1r)
  refine Rg [0,1,5] [] n0 trivial ?_
  refine Rg [0,5,13] [] n0 trivial ?_
  refine Cfg.cond rfl (b := (decide (((fourF z).1 : Int) > (0 : Int)))) kr (fun c2r => ?_) (fun c2r => ?_)
  ·have c2 := (dT c2r)
   refine Cfg.begL rfl ?_
   refine Lp 1 [] (some [14]) n0 trivial ?_
   refine Le (Eff.callM (vs := [pT b,.int .i64 5]) (.tuple #[]) 0 (b := b) (ob := .cells (inR ((fourF z).2)) 76 (0,0)) (.cells (inR (failF ((fourF z).2) (5 : Int))) 76 (0,0)) rfl Tryz.func36 rfl rfl kr kr (fun w1 h => rFail b ((fourF z).2) (5 : Int) w1 (h.own (b,_) (mG 0 rfl)))) ?_
   rintro ⟨⟩ -
   refine CfgL.done rfl ?_
   refine Cg (Γ' := []) ?_
   refine Rg [4] [] n0 trivial ?_
   refine Cfg.ret rfl (rs := [.tmp 4]) rfl [.string ⟨#[]⟩] ⟨kr,trivial⟩ (fun w1 hp => ?_)
   have hmx : (if 0 > most then (0 : Int) else most) = 0 := if_pos om
   have hx : textF z most = ([],failF (fourF z).2 5) := textF_fail (by rw [hmx]; omega)
   rw [hx]
   exact ⟨rfl,hp.ext,hp.own (b,_) mH⟩
  ·have c2 := (dF c2r)
   refine Cfg.begL rfl ?_
   refine Lp 3 [] (some [16,18]) (fun _ => [(i6 ((fourF z).1 : Int))]) ⟨om,trivial⟩ ?_
   refine Le (Eff.callM (vs := [pT b,.int .i64 ((fourF z).1 : Int)]) (.string (tx (nextF ((fourF z).2) ((fourF z).1 : Int)).1)) 0 (b := b) (ob := .cells (inR ((fourF z).2)) 76 (0,0)) (.cells (inR ((nextF ((fourF z).2) ((fourF z).1 : Int)).2)) 76 (0,0)) rfl Tryz.func30 rfl rfl kr kr (fun w1 h => rRaw b ((fourF z).2) ((fourF z).1 : Int) w1 (h.own (b,_) (mG 0 rfl)))) ?_
   rintro ⟨⟩ -
   refine Lp 1 [] (some [4]) n0 trivial ?_
   refine CfgL.done rfl ?_
   refine Cfg.ret rfl (rs := [.tmp 4]) rfl [.string (tx (nextF ((fourF z).2) ((fourF z).1 : Int)).1)] ⟨kr,trivial⟩ (fun w1 hp => ?_)
   have hmx : (if 0 > most then (0 : Int) else most) = 0 := if_pos om
   have hx : textF z most = nextF (fourF z).2 ((fourF z).1 : Nat) := textF_fine (by rw [hmx]; omega)
   rw [hx]
   exact ⟨rfl,hp.ext,hp.own (b,_) mH⟩
 ·have c1 := (dF c1r)
  refine Rg [0,5,13] [] n0 trivial ?_
  refine Cfg.cond rfl (b := (decide (((fourF z).1 : Int) > (most % 18446744073709551616)))) kr (fun c3r => ?_) (fun c3r => ?_)
  ·have c3 := (dT c3r)
   refine Cfg.begL rfl ?_
   refine Lp 1 [] (some [14]) n0 trivial ?_
   refine Le (Eff.callM (vs := [pT b,.int .i64 5]) (.tuple #[]) 0 (b := b) (ob := .cells (inR ((fourF z).2)) 76 (0,0)) (.cells (inR (failF ((fourF z).2) (5 : Int))) 76 (0,0)) rfl Tryz.func36 rfl rfl kr kr (fun w1 h => rFail b ((fourF z).2) (5 : Int) w1 (h.own (b,_) (mG 0 rfl)))) ?_
   rintro ⟨⟩ -
   refine CfgL.done rfl ?_
   refine Cg (Γ' := []) ?_
   refine Rg [4] [] n0 trivial ?_
   refine Cfg.ret rfl (rs := [.tmp 4]) rfl [.string ⟨#[]⟩] ⟨kr,trivial⟩ (fun w1 hp => ?_)
   have hmx : (if 0 > most then (0 : Int) else most) = most := if_neg om
   have hx : textF z most = ([],failF (fourF z).2 5) := textF_fail (by rw [hmx]; omega)
   rw [hx]
   exact ⟨rfl,hp.ext,hp.own (b,_) mH⟩
  ·have c3 := (dF c3r)
   refine Cfg.begL rfl ?_
   refine Lp 3 [] (some [16,18]) (fun _ => [(i6 ((fourF z).1 : Int))]) ⟨om,trivial⟩ ?_
   refine Le (Eff.callM (vs := [pT b,.int .i64 ((fourF z).1 : Int)]) (.string (tx (nextF ((fourF z).2) ((fourF z).1 : Int)).1)) 0 (b := b) (ob := .cells (inR ((fourF z).2)) 76 (0,0)) (.cells (inR ((nextF ((fourF z).2) ((fourF z).1 : Int)).2)) 76 (0,0)) rfl Tryz.func30 rfl rfl kr kr (fun w1 h => rRaw b ((fourF z).2) ((fourF z).1 : Int) w1 (h.own (b,_) (mG 0 rfl)))) ?_
   rintro ⟨⟩ -
   refine Lp 1 [] (some [4]) n0 trivial ?_
   refine CfgL.done rfl ?_
   refine Cfg.ret rfl (rs := [.tmp 4]) rfl [.string (tx (nextF ((fourF z).2) ((fourF z).1 : Int)).1)] ⟨kr,trivial⟩ (fun w1 hp => ?_)
   have hmx : (if 0 > most then (0 : Int) else most) = most := if_neg om
   have hx : textF z most = nextF (fourF z).2 ((fourF z).1 : Nat) := textF_fine (by rw [hmx]; omega)
   rw [hx]
   exact ⟨rfl,hp.ext,hp.own (b,_) mH⟩
set_option maxRecDepth 100000 in
theorem rCountI (b : Nat) (z : IN) (most : Int) (w : World) (hB : w.heap[b]? = some (.cells (inR z) 76 (0,0))) (hm : most ≤ 9223372036854775807) :
  Calls Tryz.prog 62 #[.pointer (some ⟨b,0,none⟩),.int .i64 most] w fun e w' => e = .returned (.int .i64 ((boundF z most 6).1 : Int)) ∧ Ext [b] w w' ∧ w'.heap[b]? = some (.cells (inR (boundF z most 6).2) 76 (0,0)) := by
 have hfl := fourF_lt z
 have hfv := fourF_val z
 refine enter (vs := [pT b,.int .i64 most]) [b] [] [(b,.cells (inR z) 76 (0,0))] Tryz.func62 rfl kr (HP.startM (R := []) (fun _ h => by cases h) hB (by simp)) ?_
 refine Rg [0,1] [] n0 trivial ?_
 refine Cfg.begL rfl ?_
 refine Lp 1 [] none n0 trivial ?_
 refine Le (Eff.callM (vs := [pT b,.int .i64 4]) (.int .u64 ((fourF z).1 : Int)) 0 (b := b) (ob := .cells (inR z) 76 (0,0)) (.cells (inR ((fourF z).2)) 76 (0,0)) rfl Tryz.func31 rfl rfl kr kr (fun w1 h => (by have h9 := rNumI b z 4 w1 (h.own (b,_) (mG 0 rfl)) om; rw [hfv]; exact h9))) ?_
 rintro ⟨⟩ -
 refine Lp 1 [] (some [0,1,5]) n0 trivial ?_
 refine CfgL.done rfl ?_
 refine Rg [0,1,5,9] [] n0 trivial ?_
 refine Cfg.cond rfl (b := (decide (most < (0 : Int)))) kr (fun c1r => ?_) (fun c1r => ?_)
 ·have c1 := (dT c1r)
  refine Rg [0,1,5] [] n0 trivial ?_
  refine Rg [0,5,13] [] n0 trivial ?_
  refine Cfg.cond rfl (b := (decide (((fourF z).1 : Int) > (0 : Int)))) kr (fun c2r => ?_) (fun c2r => ?_)
  ·have c2 := (dT c2r)
   refine Cfg.begL rfl ?_
   refine Lp 1 [] (some [14]) n0 trivial ?_
   refine Le (Eff.callM (vs := [pT b,.int .i64 6]) (.tuple #[]) 0 (b := b) (ob := .cells (inR ((fourF z).2)) 76 (0,0)) (.cells (inR (failF ((fourF z).2) (6 : Int))) 76 (0,0)) rfl Tryz.func36 rfl rfl kr kr (fun w1 h => rFail b ((fourF z).2) (6 : Int) w1 (h.own (b,_) (mG 0 rfl)))) ?_
   rintro ⟨⟩ -
   refine CfgL.done rfl ?_
   refine Cg (Γ' := []) ?_
   refine Rg [4] [] n0 trivial ?_
   refine Cfg.ret rfl (rs := [.tmp 4]) rfl [.int .i64 0] ⟨kr,trivial⟩ (fun w1 hp => ?_)
   have hmx : (if 0 > most then (0 : Int) else most) = 0 := if_pos om
   have hx : boundF z most 6 = (0,failF (fourF z).2 6) := if_pos (by rw [hmx]; omega)
   rw [hx]
   exact ⟨rfl,hp.ext,hp.own (b,_) mH⟩
  ·have c2 := (dF c2r)
   refine Rg [4] [] (fun _ => [(i6 ((fourF z).1 : Int))]) ⟨om,trivial⟩ ?_
   refine Cfg.ret rfl (rs := [.tmp 4]) rfl [.int .i64 ((fourF z).1 : Int)] ⟨kr,trivial⟩ (fun w1 hp => ?_)
   have hmx : (if 0 > most then (0 : Int) else most) = 0 := if_pos om
   have hx : boundF z most 6 = fourF z := if_neg (by rw [hmx]; omega)
   rw [hx]
   exact ⟨rfl,hp.ext,hp.own (b,_) mH⟩
 ·have c1 := (dF c1r)
  refine Rg [0,5,13] [] n0 trivial ?_
  refine Cfg.cond rfl (b := (decide (((fourF z).1 : Int) > (most % 18446744073709551616)))) kr (fun c3r => ?_) (fun c3r => ?_)
  ·have c3 := (dT c3r)
   refine Cfg.begL rfl ?_
   refine Lp 1 [] (some [14]) n0 trivial ?_
   refine Le (Eff.callM (vs := [pT b,.int .i64 6]) (.tuple #[]) 0 (b := b) (ob := .cells (inR ((fourF z).2)) 76 (0,0)) (.cells (inR (failF ((fourF z).2) (6 : Int))) 76 (0,0)) rfl Tryz.func36 rfl rfl kr kr (fun w1 h => rFail b ((fourF z).2) (6 : Int) w1 (h.own (b,_) (mG 0 rfl)))) ?_
   rintro ⟨⟩ -
   refine CfgL.done rfl ?_
   refine Cg (Γ' := []) ?_
   refine Rg [4] [] n0 trivial ?_
   refine Cfg.ret rfl (rs := [.tmp 4]) rfl [.int .i64 0] ⟨kr,trivial⟩ (fun w1 hp => ?_)
   have hmx : (if 0 > most then (0 : Int) else most) = most := if_neg om
   have hx : boundF z most 6 = (0,failF (fourF z).2 6) := if_pos (by rw [hmx]; omega)
   rw [hx]
   exact ⟨rfl,hp.ext,hp.own (b,_) mH⟩
  ·have c3 := (dF c3r)
   refine Rg [4] [] (fun _ => [(i6 ((fourF z).1 : Int))]) ⟨om,trivial⟩ ?_
   refine Cfg.ret rfl (rs := [.tmp 4]) rfl [.int .i64 ((fourF z).1 : Int)] ⟨kr,trivial⟩ (fun w1 hp => ?_)
   have hmx : (if 0 > most then (0 : Int) else most) = most := if_neg om
   have hx : boundF z most 6 = fourF z := if_neg (by rw [hmx]; omega)
   rw [hx]
   exact ⟨rfl,hp.ext,hp.own (b,_) mH⟩
set_option maxRecDepth 100000 in
theorem rDigI (b : Nat) (z : IN) (w : World) (hB : w.heap[b]? = some (.cells (inR z) 76 (0,0))) :
  Calls Tryz.prog 32 #[.pointer (some ⟨b,0,none⟩)] w fun e w' => e = .returned (.agg (bv (digF z).1)) ∧ Ext [b] w w' ∧ w'.heap[b]? = some (.cells (inR (digF z).2) 76 (0,0)) := by
 have hnn := next_none z 32
 have hts := tx_size (nextF z (32 : Int)).1
 have hnl : (nextF z (32 : Int)).1.length ≤ 32 := nextF_len z 32
 refine enter (vs := [pT b]) [b] [] [(b,.cells (inR z) 76 (0,0))] Tryz.func32 rfl kr (HP.startM (R := []) (fun _ h => by cases h) hB (by simp)) ?_
 refine Cfg.begL rfl ?_
 refine Le (Eff.alloc (z := (.agg (bv (List.replicate 32 0)))) rfl kr) ?_
 rintro rs ⟨hrs,nrs⟩
 refine CfgL.done rfl ?_
 refine Cfg.begL rfl ?_
 refine Le (Eff.alloc (z := (.agg (bv (List.replicate 32 0)))) rfl kr) ?_
 rintro d ⟨hd,nd⟩
 refine CfgL.done rfl ?_
 refine Cfg.begL rfl ?_
 refine Lp 1 [] (some [2,3,6]) n0 trivial ?_
 refine Le (Eff.callM (vs := [pT b,.int .i64 32]) (.string (tx (nextF z (32 : Int)).1)) 2 (b := b) (ob := .cells (inR z) 76 (0,0)) (.cells (inR ((nextF z (32 : Int)).2)) 76 (0,0)) rfl Tryz.func30 rfl rfl kr kr (fun w1 h => rRaw b z (32 : Int) w1 (h.own (b,_) (mG 2 rfl)))) ?_
 rintro ⟨⟩ -
 refine Lp 1 [] (some [2,3,4]) n0 trivial ?_
 refine CfgL.done rfl ?_
 refine Rg [2,3,4,5] [] n0 trivial ?_
 refine Cfg.setO (congrArg (fun (xq : Array Value) => ([(d,.cells xq 36 (0,0)),(rs,.cells (bv (List.replicate 32 0)) 36 (0,0)),(b,.cells (inR ((nextF z (32 : Int)).2)) 76 (0,0))] : LO)) (show _ = (bv (digK (nextF z (32 : Int)).1 0)) from by rw [digK_zero]; rfl)) ?_
 refine Cfg.loop rfl (ι := Nat) (fun (k : Nat) => [(5,[],.int .i64 (k : Int)),(4,[],.string (tx (nextF z (32 : Int)).1)),(3,[],pT d),(2,[],pT rs)]) (fun (k : Nat) => [(d,.cells (bv (digK (nextF z (32 : Int)).1 k)) 36 (0,0)),(rs,.cells (bv (List.replicate 32 0)) 36 (0,0)),(b,.cells (inR ((nextF z (32 : Int)).2)) 76 (0,0))]) (fun (k : Nat) => (k ≤ (nextF z (32 : Int)).1.length)) (fun (k : Nat) => (nextF z (32 : Int)).1.length - k) 0 ?_ (Conv.mk kr) (.cons_cons _ (.cons_cons _ (.cons_cons _ .slnil))) ?_
 ·exact Nat.zero_le _
 ·rintro k hk
  refine Rg [2,3,4,5,11] [] n0 trivial ?_
  refine Cfg.cond rfl (b := (decide ((k : Int) < ((tx (nextF z (32 : Int)).1).size : Int)))) kr (fun c1r => ?_) (fun c1r => ?_)
  ·have c1 := (dT c1r)
   refine Cfg.begL rfl ?_
   refine Lp 5 [] (some [2,3,4,5,17,18]) (fun _ => [(0 ≤ (k : Int) ∧ (k : Int) < ((tx (nextF z (32 : Int)).1).size : Int)),(iL (k : Int) 32)]) ⟨om,om,trivial⟩ ?_
   refine Le (Eff.store1 (b := d) (off := k) (v := .int .u8 (sbyte (tx (nextF z (32 : Int)).1) (k : Int))) rfl kr kr rfl kr 0 (cs := (bv (digK (nextF z (32 : Int)).1 k))) (e := 36) kr (by rw [bv_size,digK_len om om]; omega)) ?_
   rintro ⟨⟩ -
   refine CfgL.done rfl ?_
   refine Cg (Γ' := [(5,[],.int .i64 (k : Int)),(4,[],.string (tx (nextF z (32 : Int)).1)),(3,[],pT d),(2,[],pT rs)]) ?_
   refine Rg [2,3,4,5] [] (fun _ => [(i6 ((k : Int) + 1))]) ⟨om,trivial⟩ ?_
   refine Cfg.setO (congrArg (fun (xq : Array Value) => ([(d,.cells xq 36 (0,0)),(rs,.cells (bv (List.replicate 32 0)) 36 (0,0)),(b,.cells (inR ((nextF z (32 : Int)).2)) 76 (0,0))] : LO)) (show _ = (bv (digK (nextF z (32 : Int)).1 (k + 1))) from by rw [sbyte_gb,bv_set om (by have := byteLt (gb (nextF z (32 : Int)).1 k); omega),u8_same',show gb (nextF z (32 : Int)).1 k = (nextF z (32 : Int)).1.getD k 0 from rfl,digK_set om om])) ?_
   refine Cfg.again rfl (k + 1) (by show k + 1 ≤ (nextF z (32 : Int)).1.length; omega) (by show (nextF z (32 : Int)).1.length - (k + 1) < (nextF z (32 : Int)).1.length - k; omega) (Conv.mk kr) (.cons_cons _ (.cons_cons _ (.cons_cons _ .slnil)))
  ·have c1 := (dF c1r)
   have hke : k = (nextF z (32 : Int)).1.length := by omega
   refine Cfg.setO (congrArg (fun (xq : Array Value) => ([(d,.cells xq 36 (0,0)),(rs,.cells (bv (List.replicate 32 0)) 36 (0,0)),(b,.cells (inR ((nextF z (32 : Int)).2)) 76 (0,0))] : LO)) (show _ = (bv (dig32 (nextF z (32 : Int)).1)) from by rw [hke,digK_end hnn])) ?_
   refine Cfg.begL rfl ?_
   refine Lp 1 [(dS (.agg (bv (dig32 (nextF z (32 : Int)).1))))] (some [2,19]) (fun S => [(∀ w1,S w1 → (loadVar 36 ⟨d,0,none⟩).run Tryz.prog w1 = .ok (.agg (bv (dig32 (nextF z (32 : Int)).1))) w1)]) ⟨(fun w1 h => h.oload 0 rfl Tryz.underlying36 rfl (n := 32) kr ((bv_size _).trans (dig32_len _))),trivial⟩ ?_
   refine Le (Eff.storeN (b := rs) (off := 0) (vs := (bv (dig32 (nextF z (32 : Int)).1))) (n := 32) rfl kr kr kr ((bv_size _).trans (dig32_len _)) (all_bv _) 1 (cs := (bv (List.replicate 32 0))) (e := 36) kr (by rw [zsz32]; omega)) ?_
   rintro ⟨⟩ -
   refine CfgL.setO (congrArg (fun (xq : Array Value) => ([(d,.cells (bv (dig32 (nextF z (32 : Int)).1)) 36 (0,0)),(rs,.cells xq 36 (0,0)),(b,.cells (inR ((nextF z (32 : Int)).2)) 76 (0,0))] : LO)) (show _ = (bv (dig32 (nextF z (32 : Int)).1)) from spl_all (((bv_size _).trans (dig32_len _)).trans zsz32.symm))) ?_
   refine CfgL.done rfl ?_
   refine Cg (Γ' := [(2,[],pT rs)]) ?_
   refine Cfg.ret rfl (rs := [.cell 2 36]) rfl [.agg (bv (dig32 (nextF z (32 : Int)).1))] ⟨⟨_,by kernel_rfl,(fun w1 h => h.oload 1 rfl Tryz.underlying36 rfl (n := 32) kr ((bv_size _).trans (dig32_len _)))⟩,trivial⟩ (fun w1 hp => ?_)
   exact ⟨rfl,hp.ext,hp.own (b,_) (mG 2 rfl)⟩
set_option maxRecDepth 100000 in
theorem rEndI (b : Nat) (z : IN) (w : World) (hB : w.heap[b]? = some (.cells (inR z) 76 (0,0))) :
  Calls Tryz.prog 37 #[.pointer (some ⟨b,0,none⟩)] w fun e w' => e = .returned (.int .i64 (endF z)) ∧ Ext [] w w' := by
 have hts := tx_size z.rest
 refine enter (vs := [pT b]) [] [(b,.cells (inR z) 76 (0,0))] [] Tryz.func37 rfl kr (HP.ofHas (fun e he => by rw [List.mem_singleton.1 he]; exact hB)) ?_
 refine Rg [0] [] n0 trivial ?_
 refine Rg [0,15] [dZ,dZ,dZ,(dS (.int .i64 z.er)),dZ,dZ,dZ,dZ,dZ,(dS (.string (tx z.rest)))] (fun S => [(cE S b 1 (.int .i64 z.er)),((.bool (z.er == (0 : Int)) : Value) = .bool true → (cE S b 0 (.string (tx z.rest))))]) ⟨(rC 0 rfl rfl),(fun g0 => have q0 : (z.er = (0 : Int)) := (beq_iff_eq.1 (boolV g0)); (rC 0 rfl rfl)),trivial⟩ ?_
 refine Cfg.cond rfl (b := ((z.er == (0 : Int)) && (decide (((tx z.rest).size : Int) > (0 : Int))))) kr (fun c1r => ?_) (fun c1r => ?_)
 ·have c1 : ((z.er = (0 : Int)) ∧ (((tx z.rest).size : Int) > (0 : Int))) := ⟨(beq_iff_eq.1 (andT1 c1r)),(dT (andT2 c1r))⟩
  refine Rg [2] [] n0 trivial ?_
  refine Cfg.ret rfl (rs := [.tmp 2]) rfl [.int .i64 4] ⟨kr,trivial⟩ (fun w1 hp => ?_)
  exact ⟨by rw [show endF z = 4 from (if_neg om).trans (if_pos om)]; rfl,hp.ext⟩
 ·have c1 : ((z.er ≠ (0 : Int)) ∨ (¬ (((tx z.rest).size : Int) > (0 : Int)))) := ((andF c1r).elim (fun h => Or.inl (beq_eq_false_iff_ne.1 h)) (fun h => Or.inr (dF h)))
  refine Rg [2] [dZ,dZ,dZ,(dS (.int .i64 z.er))] (fun S => [(cE S b 1 (.int .i64 z.er))]) ⟨(rC 0 rfl rfl),trivial⟩ ?_
  refine Cfg.ret rfl (rs := [.tmp 2]) rfl [.int .i64 z.er] ⟨kr,trivial⟩ (fun w1 hp => ?_)
  have hx : endF z = z.er := by
   unfold endF; split
   ·rfl
   ·split
    ·omega
    ·omega
  exact ⟨by rw [hx]; rfl,hp.ext⟩
end Go.Proofs.YtbeegepcdglcaaaGreatDoor
namespace Go.Proofs.YtbeegepcdglcaaaGreatDoor
open K
set_option linter.unusedVariables false
set_option maxRecDepth 100000 in
set_option maxHeartbeats 8000000 in
theorem rApply (a : ByteArray) (l : List UInt8) (w : World) (ha : a.size ≤ 10000000) (hl : l.length ≤ 30000000) :
  Calls Tryz.prog 35 #[.string a,.string (tx l)] w fun e w' => e = .returned (.tuple #[.string (tx (applyF a l).1),.int .i64 (applyF a l).2]) ∧ Ext [] w w' := by
 have hrl := aRow_len l
 have hfr2 : aFrom l < 4294967296 := fourF_lt ⟨0,l⟩
 have hmo2 : aMost l < 4294967296 := fourF_lt (fourF ⟨0,l⟩).2
 have hnb : (boundF (aZ l) 64 6).1 ≤ 64 := boundF_le (aZ l) (Int.le_refl _)
 refine enter (vs := [.string a,.string (tx l)]) [] [] [] Tryz.func35 rfl kr (HP.start w) ?_
 refine Rg [0,1] [] n0 trivial ?_
 refine Cfg.begL rfl ?_
 refine Lp 2 [dZ,(dS (.agg (inR ⟨0,l⟩)))] (some [0,17]) (fun S => [(∀ w1,S w1 → (Instr.build 76 #[(0,.string (tx l))]).run Tryz.prog w1 = .ok (.agg (inR ⟨0,l⟩)) w1)]) ⟨(fun _ _ => kr),trivial⟩ ?_
 refine Le (Eff.box (v := .agg (inR ⟨0,l⟩)) rfl kr) ?_
 rintro ib ⟨hib,nib⟩
 refine Lp 1 [] (some [0,6]) n0 trivial ?_
 refine CfgL.done rfl ?_
 refine Cfg.begL rfl ?_
 refine Lp 1 [] none n0 trivial ?_
 refine Le (Eff.callM (vs := [pT ib,.int .i64 4]) (.int .u64 ((aFrom l) : Int)) 0 (b := ib) (ob := .cells (inR ⟨0,l⟩) 76 (0,0)) (.cells (inR ((fourF ⟨0,l⟩).2)) 76 (0,0)) rfl Tryz.func31 rfl rfl kr kr (fun w1 h => (by have h9 := rNumI ib ⟨0,l⟩ 4 w1 (h.own (ib,Obj.cells (inR ⟨0,l⟩) 76 (0,0)) (show (ib,Obj.cells (inR ⟨0,l⟩) 76 (0,0)) ∈ ([(ib,Obj.cells (inR ⟨0,l⟩) 76 (0,0))] : LO) from (mG 0 rfl))) (by decide); rw [show valF (nextF ⟨0,l⟩ ((4 : Nat) : Int)).1 = (fourF ⟨0,l⟩).1 from (fourF_val _).symm] at h9; exact h9))) ?_
 rintro ⟨⟩ -
 refine Lp 1 [] (some [0,6,7]) n0 trivial ?_
 refine CfgL.done rfl ?_
 refine Cfg.begL rfl ?_
 refine Lp 1 [] none n0 trivial ?_
 refine Le (Eff.callM (vs := [pT ib,.int .i64 4]) (.int .u64 ((aMost l) : Int)) 0 (b := ib) (ob := .cells (inR (fourF ⟨0,l⟩).2) 76 (0,0)) (.cells (inR (aZ l)) 76 (0,0)) rfl Tryz.func31 rfl rfl kr kr (fun w1 h => (by have h9 := rNumI ib (fourF ⟨0,l⟩).2 4 w1 (h.own (ib,Obj.cells (inR ((fourF ⟨0,l⟩).2)) 76 (0,0)) (show (ib,Obj.cells (inR ((fourF ⟨0,l⟩).2)) 76 (0,0)) ∈ ([(ib,Obj.cells (inR ((fourF ⟨0,l⟩).2)) 76 (0,0))] : LO) from (mG 0 rfl))) (by decide); rw [show valF (nextF (fourF ⟨0,l⟩).2 ((4 : Nat) : Int)).1 = (fourF (fourF ⟨0,l⟩).2).1 from (fourF_val _).symm] at h9; exact h9))) ?_
 rintro ⟨⟩ -
 refine Lp 1 [] (some [0,6,7,8]) n0 trivial ?_
 refine CfgL.done rfl ?_
 refine Cfg.begL rfl ?_
 refine CfgL.pure 1 [] none (Γ' := [(23,[],pT ib),(8,[],.int .u64 ((aMost l) : Int)),(7,[],.int .u64 ((aFrom l) : Int)),(6,[],pT ib),(0,[],.string a)]) (nd := (fun _ => [])) kr (fun _ => kr) trivial ?_
 refine Le (Eff.callM (vs := [pT ib,.int .i64 64]) (.int .i64 ((boundF (aZ l) 64 6).1 : Int)) 0 (b := ib) (ob := .cells (inR (aZ l)) 76 (0,0)) (.cells (inR ((boundF (aZ l) 64 6).2)) 76 (0,0)) rfl Tryz.func62 rfl rfl kr kr (fun w1 h => rCountI ib (aZ l) 64 w1 (h.own (ib,Obj.cells (inR (aZ l)) 76 (0,0)) (show (ib,Obj.cells (inR (aZ l)) 76 (0,0)) ∈ ([(ib,Obj.cells (inR (aZ l)) 76 (0,0))] : LO) from (mG 0 rfl))) (by decide))) ?_
 rintro ⟨⟩ -
 refine Lp 1 [] (some [0,6,7,8,9]) n0 trivial ?_
 refine CfgL.done rfl ?_
 refine Rg [0,6,7,8,9,10] [] n0 trivial ?_
 refine Rg [0,6,7,8,9,10,11] [] n0 trivial ?_
 refine Cfg.loop rfl (ι := Nat × IN × List PT × K.Own) (fun (xz : Nat × IN × List PT × K.Own) => match xz with | (k,z,acc,own) => [(11,[],.int .i64 (k : Int)),(10,[],.slice (Own.a own) acc.length (Own.c own)),(9,[],.int .i64 ((boundF (aZ l) 64 6).1 : Int)),(8,[],.int .u64 ((aMost l) : Int)),(7,[],.int .u64 ((aFrom l) : Int)),(6,[],pT ib),(0,[],.string a)]) (fun (xz : Nat × IN × List PT × K.Own) => match xz with | (k,z,acc,own) => ([(ib,.cells (inR z) 76 (0,0))] ++ (Own.o 115 (acc.flatMap pR) own ++ []))) (fun (xz : Nat × IN × List PT × K.Own) => match xz with | (k,z,acc,own) => (k ≤ (boundF (aZ l) 64 6).1) ∧ (rlF ((boundF (aZ l) 64 6).1 - k) z acc = rlF (boundF (aZ l) 64 6).1 (boundF (aZ l) 64 6).2 []) ∧ (acc.length = k) ∧ (∀ p ∈ acc,PtOk 32768 p) ∧ (OwnOk own 4 acc.length (acc.flatMap pR))) (fun (xz : Nat × IN × List PT × K.Own) => match xz with | (k,z,acc,own) => (boundF (aZ l) 64 6).1 - k) (0,(boundF (aZ l) 64 6).2,[],none) ?_ (Conv.mk kr) slr ?_
 ·exact ⟨Nat.zero_le _,rfl,rfl,(fun p hp => by cases hp),OwnOk.none _⟩
 ·rintro ⟨k,z,acc,own⟩ ⟨hk,hra,hal,hpo,hok⟩
  refine Rg [0,6,7,8,9,10,11,34] [dZ,dZ,dZ,dZ,dZ,dZ,dZ,(dS (.int .i64 z.er))] (fun S => [((.bool (decide ((k : Int) < ((boundF (aZ l) 64 6).1 : Int))) : Value) = .bool true → (cE S ib 1 (.int .i64 z.er)))]) ⟨(fun g0 => have q0 : ((k : Int) < ((boundF (aZ l) 64 6).1 : Int)) := (dT (boolV g0)); (oC 0 rfl rfl)),trivial⟩ ?_
  refine Cfg.cond rfl (b := ((decide ((k : Int) < ((boundF (aZ l) 64 6).1 : Int))) && (z.er == (0 : Int)))) kr (fun c1r => ?_) (fun c1r => ?_)
  ·have c1 : (((k : Int) < ((boundF (aZ l) 64 6).1 : Int)) ∧ (z.er = (0 : Int))) := ⟨(dT (andT1 c1r)),(beq_iff_eq.1 (andT2 c1r))⟩
   have hby : (byteF z).1 < 256 := Nat.mod_lt _ (by decide)
   have hf1 := fourF_lt (byteF z).2
   have hf2 := fourF_lt (fourF (byteF z).2).2
   refine Cfg.begL rfl ?_
   refine Lp 1 [] (some [0,6,7,8,9,10,11,37]) n0 trivial ?_
   refine Le (Eff.callM (vs := [pT ib,.int .i64 1]) (.int .u64 ((byteF z).1 : Int)) 0 (b := ib) (ob := .cells (inR z) 76 (0,0)) (.cells (inR ((byteF z).2)) 76 (0,0)) rfl Tryz.func31 rfl rfl kr kr (fun w1 h => (by have h9 := rNumI ib z 1 w1 (h.own (ib,Obj.cells (inR z) 76 (0,0)) (show (ib,Obj.cells (inR z) 76 (0,0)) ∈ (([(ib,Obj.cells (inR z) 76 (0,0))] ++ (Own.o 115 (acc.flatMap pR) own ++ [])) : LO) from (mL (mG 0 rfl)))) (by decide); rw [byte_val] at h9; exact h9))) ?_
   rintro ⟨⟩ -
   refine Lp 2 [dZ,(dS (.agg (pR ⟨(byteF z).1,0,0,ByteArray.empty⟩).toArray))] (some [0,6,7,8,9,10,11,40]) (fun S => [(i6 ((byteF z).1 : Int)),(∀ w1,S w1 → (Instr.build 115 #[(0,.int .i64 ((byteF z).1 : Int))]).run Tryz.prog w1 = .ok (.agg (pR ⟨(byteF z).1,0,0,ByteArray.empty⟩).toArray) w1)]) ⟨om,(fun _ _ => kr),trivial⟩ ?_
   refine Le (Eff.alloc (z := (.agg #[.int .i64 0,.int .i64 0,.int .i64 0,.string ByteArray.empty])) rfl kr) ?_
   rintro pb ⟨hpb,npb⟩
   refine Le (Eff.storeN (b := pb) (off := 0) (vs := (pR ⟨(byteF z).1,0,0,ByteArray.empty⟩).toArray) (n := 4) rfl kr kr kr rfl (all_pR _) 0 (cs := #[.int .i64 0,.int .i64 0,.int .i64 0,.string ByteArray.empty]) (e := 115) kr (Nat.le_refl 4)) ?_
   rintro ⟨⟩ -
   refine CfgL.setO (congrArg (fun (xq : Array Value) => (([(pb,.cells xq 115 (0,0)),(ib,.cells (inR ((byteF z).2)) 76 (0,0))] ++ (Own.o 115 (acc.flatMap pR) own ++ [])) : LO)) (show _ = #[.int .i64 ((byteF z).1 : Int),.int .i64 0,.int .i64 0,.string ByteArray.empty] from (show spl (#[.int .i64 0,.int .i64 0,.int .i64 0,.string ByteArray.empty] : Array Value) 0 (pR ⟨(byteF z).1,0,0,ByteArray.empty⟩).toArray.toList = #[.int .i64 ((byteF z).1 : Int),.int .i64 0,.int .i64 0,.string ByteArray.empty] from spl_all rfl))) ?_
   refine CfgL.done rfl ?_
   refine Cg (Γ' := [(12,[],pT pb),(11,[],.int .i64 (k : Int)),(10,[],.slice (Own.a own) acc.length (Own.c own)),(9,[],.int .i64 ((boundF (aZ l) 64 6).1 : Int)),(8,[],.int .u64 ((aMost l) : Int)),(7,[],.int .u64 ((aFrom l) : Int)),(6,[],pT ib),(0,[],.string a)]) ?_
   refine Rg [0,6,7,8,9,10,11,12,43] [dZ,(dS (.int .i64 ((byteF z).1 : Int)))] (fun S => [(cE S pb 0 (.int .i64 ((byteF z).1 : Int)))]) ⟨(oC 0 rfl rfl),trivial⟩ ?_
   refine Cfg.cond rfl (b := (((byteF z).1 : Int) == (0 : Int))) kr (fun c2r => ?_) (fun c2r => ?_)
   ·have c2 := (beq_iff_eq.1 c2r)
    refine Cfg.begL rfl ?_
    refine Lp 1 [] (some [0,6,7,8,9,10,11,12,44]) n0 trivial ?_
    refine Le (Eff.callM (vs := [pT ib,.int .i64 4]) (.int .u64 ((fourF (byteF z).2).1 : Int)) 1 (b := ib) (ob := .cells (inR (byteF z).2) 76 (0,0)) (.cells (inR ((fourF (byteF z).2).2)) 76 (0,0)) rfl Tryz.func31 rfl rfl kr kr (fun w1 h => (by have h9 := rNumI ib (byteF z).2 4 w1 (h.own (ib,Obj.cells (inR ((byteF z).2)) 76 (0,0)) (show (ib,Obj.cells (inR ((byteF z).2)) 76 (0,0)) ∈ (([(pb,Obj.cells #[.int .i64 ((byteF z).1 : Int),.int .i64 0,.int .i64 0,.string ByteArray.empty] 115 (0,0)),(ib,Obj.cells (inR ((byteF z).2)) 76 (0,0))] ++ (Own.o 115 (acc.flatMap pR) own ++ [])) : LO) from (mL (mG 1 rfl)))) (by decide); rw [show valF (nextF (byteF z).2 ((4 : Nat) : Int)).1 = (fourF (byteF z).2).1 from (fourF_val _).symm] at h9; exact h9))) ?_
    rintro ⟨⟩ -
    refine Lp 2 [] (some [0,6,7,8,9,10,11,12,46,47]) (fun _ => [(i6 ((fourF (byteF z).2).1 : Int))]) ⟨om,trivial⟩ ?_
    refine Le (Eff.store1 (b := pb) (off := 1) (v := .int .i64 ((fourF (byteF z).2).1 : Int)) rfl kr kr rfl kr 0 (cs := #[.int .i64 ((byteF z).1 : Int),.int .i64 0,.int .i64 0,.string ByteArray.empty]) (e := 115) kr (by simp)) ?_
    rintro ⟨⟩ -
    refine CfgL.done rfl ?_
    refine Cg (Γ' := [(12,[],pT pb),(11,[],.int .i64 (k : Int)),(10,[],.slice (Own.a own) acc.length (Own.c own)),(9,[],.int .i64 ((boundF (aZ l) 64 6).1 : Int)),(8,[],.int .u64 ((aMost l) : Int)),(7,[],.int .u64 ((aFrom l) : Int)),(6,[],pT ib),(0,[],.string a)]) ?_
    refine Cfg.begL rfl ?_
    refine Lp 1 [] none n0 trivial ?_
    refine Le (Eff.callM (vs := [pT ib,.int .i64 4]) (.int .u64 ((fourF (fourF (byteF z).2).2).1 : Int)) 1 (b := ib) (ob := .cells (inR (fourF (byteF z).2).2) 76 (0,0)) (.cells (inR ((fourF (fourF (byteF z).2).2).2)) 76 (0,0)) rfl Tryz.func31 rfl rfl kr kr (fun w1 h => (by have h9 := rNumI ib (fourF (byteF z).2).2 4 w1 (h.own (ib,Obj.cells (inR ((fourF (byteF z).2).2)) 76 (0,0)) (show (ib,Obj.cells (inR ((fourF (byteF z).2).2)) 76 (0,0)) ∈ (([(pb,Obj.cells ((#[.int .i64 ((byteF z).1 : Int),.int .i64 0,.int .i64 0,.string ByteArray.empty] : Array Value).setIfInBounds 1 (.int .i64 ((fourF (byteF z).2).1 : Int))) 115 (0,0)),(ib,Obj.cells (inR ((fourF (byteF z).2).2)) 76 (0,0))] ++ (Own.o 115 (acc.flatMap pR) own ++ [])) : LO) from (mL (mG 1 rfl)))) (by decide); rw [show valF (nextF (fourF (byteF z).2).2 ((4 : Nat) : Int)).1 = (fourF (fourF (byteF z).2).2).1 from (fourF_val _).symm] at h9; exact h9))) ?_
    rintro ⟨⟩ -
    refine Lp 2 [] (some [0,6,7,8,9,10,11,12,50,51]) (fun _ => [(i6 ((fourF (fourF (byteF z).2).2).1 : Int))]) ⟨om,trivial⟩ ?_
    refine Le (Eff.store1 (b := pb) (off := 2) (v := .int .i64 ((fourF (fourF (byteF z).2).2).1 : Int)) rfl kr kr rfl kr 0 (cs := ((#[.int .i64 ((byteF z).1 : Int),.int .i64 0,.int .i64 0,.string ByteArray.empty] : Array Value).setIfInBounds 1 (.int .i64 ((fourF (byteF z).2).1 : Int)))) (e := 115) kr (by simp)) ?_
    rintro ⟨⟩ -
    refine CfgL.done rfl ?_
    refine Cg (Γ' := [(12,[],pT pb),(11,[],.int .i64 (k : Int)),(10,[],.slice (Own.a own) acc.length (Own.c own)),(9,[],.int .i64 ((boundF (aZ l) 64 6).1 : Int)),(8,[],.int .u64 ((aMost l) : Int)),(7,[],.int .u64 ((aFrom l) : Int)),(6,[],pT ib),(0,[],.string a)]) ?_
    have htk : takeP z = _ := takeP_zero om
    refine Cfg.setO (congrArg (fun (xq : Array Value) => (([(pb,.cells xq 115 (0,0)),(ib,.cells (inR ((fourF (fourF (byteF z).2).2).2)) 76 (0,0))] ++ (Own.o 115 (acc.flatMap pR) own ++ [])) : LO)) (show _ = ((pR (takeP z).1).toArray) from by rw [htk]; rw [show (byteF z).1 = 0 by omega]; rfl)) ?_
    refine Cfg.setO (congrArg (fun (xq : Array Value) => (([(pb,.cells ((pR (takeP z).1).toArray) 115 (0,0)),(ib,.cells xq 76 (0,0))] ++ (Own.o 115 (acc.flatMap pR) own ++ [])) : LO)) (show _ = (inR ((takeP z).2)) from by rw [htk])) ?_
    refine Cfg.begL rfl ?_
    refine Lp 2 [dZ,(dS (.agg (pR (takeP z).1).toArray))] (some [0,6,7,8,9,10,11,60,61]) (fun S => [(∀ w1,S w1 → (loadVar 115 ⟨pb,0,none⟩).run Tryz.prog w1 = .ok (.agg (pR (takeP z).1).toArray) w1)]) ⟨(fun w1 h => load_list (vs := pR (takeP z).1) Tryz.underlying115 rfl kr (pR_len _) (fun q9 v hq9 => h.ocell 0 rfl (by rw [List.getElem?_toArray,Nat.zero_add]; exact hq9))),trivial⟩ ?_
    refine Le (Eff.buildAgg (vs := (pR (takeP z).1).toArray) (n := 4) rfl kr Tryz.underlying113 kr (z := (.agg #[.int .i64 0,.int .i64 0,.int .i64 0,.string ByteArray.empty])) kr (by rfl) (by decide) (by decide)) ?_
    rintro nb3 ⟨hnb3,nnb3⟩
    refine Le (Eff.appendF rfl 4 40 Tryz.underlying113 kr (z := (.agg #[.int .i64 0,.int .i64 0,.int .i64 0,.string ByteArray.empty])) kr kr own (xs := (acc.flatMap pR)) hok kr (b2 := nb3) (off2 := 0) (m := 1) (c2 := 1) kr (pR (takeP z).1) (pR_len _) (all_pR _) [(nb3,.cells ((pR (takeP z).1).toArray) 115 (0,0)),(pb,.cells ((pR (takeP z).1).toArray) 115 (0,0)),(ib,.cells (inR ((takeP z).2)) 76 (0,0))] [] (by rfl) (fun w1 h j v hj => by rw [Nat.zero_add]; exact h.ocell 0 rfl (by rw [List.getElem?_toArray]; exact hj)) om om) ?_
    rintro o7 ko7
    refine Lp 1 [] (some [0,6,7,8,9,10,11]) n0 trivial ?_
    refine CfgL.done rfl ?_
    refine Rg [0,6,7,8,9,10,11] [] (fun _ => [(i6 ((k : Int) + 1))]) ⟨om,trivial⟩ ?_
    refine Cfg.setO (congrArg (fun (xq : List Value) => (([(nb3,.cells ((pR (takeP z).1).toArray) 115 (0,0)),(pb,.cells ((pR (takeP z).1).toArray) 115 (0,0)),(ib,.cells (inR ((takeP z).2)) 76 (0,0))] ++ (Own.o 115 xq o7 ++ [])) : LO)) (show _ = ((acc ++ [(takeP z).1]).flatMap pR) from by rw [List.flatMap_append,List.flatMap_singleton])) ?_
    refine Cfg.setS 10 (congrArg (fun (xq : Nat) => (.slice (Own.a o7) xq (Own.c o7) : Value)) (show ((acc.length + 1)) = ((acc ++ [(takeP z).1]).length) from by rw [List.length_append]; rfl)) ?_
    refine Cfg.again rfl (k + 1,(takeP z).2,acc ++ [(takeP z).1],o7) ⟨by omega,rlF_step om om hra,by rw [List.length_append,hal]; rfl,fun p hp => by rcases List.mem_append.1 hp with hp | hp; exact hpo p hp; rw [List.mem_singleton.1 hp]; exact takeP_ok z,by rw [List.flatMap_append,List.flatMap_singleton,List.length_append]; exact ko7⟩ (by show (boundF (aZ l) 64 6).1 - (k + 1) < (boundF (aZ l) 64 6).1 - k; omega) (Conv.mk kr) (.cons _ (.cons _ slr))
   ·have c2 := (beq_eq_false_iff_ne.1 c2r)
    refine Rg [0,6,7,8,9,10,11,12,54] [dZ,(dS (.int .i64 ((byteF z).1 : Int)))] (fun S => [(cE S pb 0 (.int .i64 ((byteF z).1 : Int)))]) ⟨(oC 0 rfl rfl),trivial⟩ ?_
    refine Cfg.cond rfl (b := (((byteF z).1 : Int) == (1 : Int))) kr (fun c3r => ?_) (fun c3r => ?_)
    ·have c3 := (beq_iff_eq.1 c3r)
     refine Cfg.begL rfl ?_
     refine Lp 1 [] (some [0,6,7,8,9,10,11,12,55]) n0 trivial ?_
     refine Le (Eff.callM (vs := [pT ib,.int .i64 32768]) (.string (tx (textF (byteF z).2 32768).1)) 1 (b := ib) (ob := .cells (inR (byteF z).2) 76 (0,0)) (.cells (inR ((textF (byteF z).2 32768).2)) 76 (0,0)) rfl Tryz.func33 rfl rfl kr kr (fun w1 h => rTextI ib (byteF z).2 32768 w1 (h.own (ib,Obj.cells (inR ((byteF z).2)) 76 (0,0)) (show (ib,Obj.cells (inR ((byteF z).2)) 76 (0,0)) ∈ (([(pb,Obj.cells #[.int .i64 ((byteF z).1 : Int),.int .i64 0,.int .i64 0,.string ByteArray.empty] 115 (0,0)),(ib,Obj.cells (inR ((byteF z).2)) 76 (0,0))] ++ (Own.o 115 (acc.flatMap pR) own ++ [])) : LO) from (mL (mG 1 rfl)))) (by decide))) ?_
     rintro ⟨⟩ -
     refine Lp 1 [] (some [0,6,7,8,9,10,11,12,56,57]) n0 trivial ?_
     refine Le (Eff.store1 (b := pb) (off := 3) (v := .string (tx (textF (byteF z).2 32768).1)) rfl kr kr rfl kr 0 (cs := #[.int .i64 ((byteF z).1 : Int),.int .i64 0,.int .i64 0,.string ByteArray.empty]) (e := 115) kr (by simp)) ?_
     rintro ⟨⟩ -
     refine CfgL.done rfl ?_
     refine Cg (Γ' := [(12,[],pT pb),(11,[],.int .i64 (k : Int)),(10,[],.slice (Own.a own) acc.length (Own.c own)),(9,[],.int .i64 ((boundF (aZ l) 64 6).1 : Int)),(8,[],.int .u64 ((aMost l) : Int)),(7,[],.int .u64 ((aFrom l) : Int)),(6,[],pT ib),(0,[],.string a)]) ?_
     have htk : takeP z = _ := takeP_one om
     refine Cfg.setO (congrArg (fun (xq : Array Value) => (([(pb,.cells xq 115 (0,0)),(ib,.cells (inR ((textF (byteF z).2 32768).2)) 76 (0,0))] ++ (Own.o 115 (acc.flatMap pR) own ++ [])) : LO)) (show _ = ((pR (takeP z).1).toArray) from by rw [htk]; rw [show (byteF z).1 = 1 by omega]; rfl)) ?_
     refine Cfg.setO (congrArg (fun (xq : Array Value) => (([(pb,.cells ((pR (takeP z).1).toArray) 115 (0,0)),(ib,.cells xq 76 (0,0))] ++ (Own.o 115 (acc.flatMap pR) own ++ [])) : LO)) (show _ = (inR ((takeP z).2)) from by rw [htk])) ?_
     refine Cfg.begL rfl ?_
     refine Lp 2 [dZ,(dS (.agg (pR (takeP z).1).toArray))] (some [0,6,7,8,9,10,11,60,61]) (fun S => [(∀ w1,S w1 → (loadVar 115 ⟨pb,0,none⟩).run Tryz.prog w1 = .ok (.agg (pR (takeP z).1).toArray) w1)]) ⟨(fun w1 h => load_list (vs := pR (takeP z).1) Tryz.underlying115 rfl kr (pR_len _) (fun q9 v hq9 => h.ocell 0 rfl (by rw [List.getElem?_toArray,Nat.zero_add]; exact hq9))),trivial⟩ ?_
     refine Le (Eff.buildAgg (vs := (pR (takeP z).1).toArray) (n := 4) rfl kr Tryz.underlying113 kr (z := (.agg #[.int .i64 0,.int .i64 0,.int .i64 0,.string ByteArray.empty])) kr (by rfl) (by decide) (by decide)) ?_
     rintro nb4 ⟨hnb4,nnb4⟩
     refine Le (Eff.appendF rfl 4 40 Tryz.underlying113 kr (z := (.agg #[.int .i64 0,.int .i64 0,.int .i64 0,.string ByteArray.empty])) kr kr own (xs := (acc.flatMap pR)) hok kr (b2 := nb4) (off2 := 0) (m := 1) (c2 := 1) kr (pR (takeP z).1) (pR_len _) (all_pR _) [(nb4,.cells ((pR (takeP z).1).toArray) 115 (0,0)),(pb,.cells ((pR (takeP z).1).toArray) 115 (0,0)),(ib,.cells (inR ((takeP z).2)) 76 (0,0))] [] (by rfl) (fun w1 h j v hj => by rw [Nat.zero_add]; exact h.ocell 0 rfl (by rw [List.getElem?_toArray]; exact hj)) om om) ?_
     rintro o9 ko9
     refine Lp 1 [] (some [0,6,7,8,9,10,11]) n0 trivial ?_
     refine CfgL.done rfl ?_
     refine Rg [0,6,7,8,9,10,11] [] (fun _ => [(i6 ((k : Int) + 1))]) ⟨om,trivial⟩ ?_
     refine Cfg.setO (congrArg (fun (xq : List Value) => (([(nb4,.cells ((pR (takeP z).1).toArray) 115 (0,0)),(pb,.cells ((pR (takeP z).1).toArray) 115 (0,0)),(ib,.cells (inR ((takeP z).2)) 76 (0,0))] ++ (Own.o 115 xq o9 ++ [])) : LO)) (show _ = ((acc ++ [(takeP z).1]).flatMap pR) from by rw [List.flatMap_append,List.flatMap_singleton])) ?_
     refine Cfg.setS 10 (congrArg (fun (xq : Nat) => (.slice (Own.a o9) xq (Own.c o9) : Value)) (show ((acc.length + 1)) = ((acc ++ [(takeP z).1]).length) from by rw [List.length_append]; rfl)) ?_
     refine Cfg.again rfl (k + 1,(takeP z).2,acc ++ [(takeP z).1],o9) ⟨by omega,rlF_step om om hra,by rw [List.length_append,hal]; rfl,fun p hp => by rcases List.mem_append.1 hp with hp | hp; exact hpo p hp; rw [List.mem_singleton.1 hp]; exact takeP_ok z,by rw [List.flatMap_append,List.flatMap_singleton,List.length_append]; exact ko9⟩ (by show (boundF (aZ l) 64 6).1 - (k + 1) < (boundF (aZ l) 64 6).1 - k; omega) (Conv.mk kr) (.cons _ (.cons _ slr))
    ·have c3 := (beq_eq_false_iff_ne.1 c3r)
     refine Cfg.begL rfl ?_
     refine Lp 1 [] (some [0,6,7,8,9,10,11,12,58]) n0 trivial ?_
     refine Le (Eff.callM (vs := [pT ib,.int .i64 11]) (.tuple #[]) 1 (b := ib) (ob := .cells (inR (byteF z).2) 76 (0,0)) (.cells (inR (failF (byteF z).2 11)) 76 (0,0)) rfl Tryz.func36 rfl rfl kr kr (fun w1 h => rFail ib (byteF z).2 11 w1 (h.own (ib,Obj.cells (inR ((byteF z).2)) 76 (0,0)) (show (ib,Obj.cells (inR ((byteF z).2)) 76 (0,0)) ∈ (([(pb,Obj.cells #[.int .i64 ((byteF z).1 : Int),.int .i64 0,.int .i64 0,.string ByteArray.empty] 115 (0,0)),(ib,Obj.cells (inR ((byteF z).2)) 76 (0,0))] ++ (Own.o 115 (acc.flatMap pR) own ++ [])) : LO) from (mL (mG 1 rfl)))))) ?_
     rintro ⟨⟩ -
     refine CfgL.done rfl ?_
     refine Cg (Γ' := [(12,[],pT pb),(11,[],.int .i64 (k : Int)),(10,[],.slice (Own.a own) acc.length (Own.c own)),(9,[],.int .i64 ((boundF (aZ l) 64 6).1 : Int)),(8,[],.int .u64 ((aMost l) : Int)),(7,[],.int .u64 ((aFrom l) : Int)),(6,[],pT ib),(0,[],.string a)]) ?_
     have htk : takeP z = _ := takeP_else om om
     refine Cfg.setO (congrArg (fun (xq : Array Value) => (([(pb,.cells xq 115 (0,0)),(ib,.cells (inR (failF (byteF z).2 11)) 76 (0,0))] ++ (Own.o 115 (acc.flatMap pR) own ++ [])) : LO)) (show _ = ((pR (takeP z).1).toArray) from by rw [htk]; rfl)) ?_
     refine Cfg.setO (congrArg (fun (xq : Array Value) => (([(pb,.cells ((pR (takeP z).1).toArray) 115 (0,0)),(ib,.cells xq 76 (0,0))] ++ (Own.o 115 (acc.flatMap pR) own ++ [])) : LO)) (show _ = (inR ((takeP z).2)) from by rw [htk])) ?_
     refine Cfg.begL rfl ?_
     refine Lp 2 [dZ,(dS (.agg (pR (takeP z).1).toArray))] (some [0,6,7,8,9,10,11,60,61]) (fun S => [(∀ w1,S w1 → (loadVar 115 ⟨pb,0,none⟩).run Tryz.prog w1 = .ok (.agg (pR (takeP z).1).toArray) w1)]) ⟨(fun w1 h => load_list (vs := pR (takeP z).1) Tryz.underlying115 rfl kr (pR_len _) (fun q9 v hq9 => h.ocell 0 rfl (by rw [List.getElem?_toArray,Nat.zero_add]; exact hq9))),trivial⟩ ?_
     refine Le (Eff.buildAgg (vs := (pR (takeP z).1).toArray) (n := 4) rfl kr Tryz.underlying113 kr (z := (.agg #[.int .i64 0,.int .i64 0,.int .i64 0,.string ByteArray.empty])) kr (by rfl) (by decide) (by decide)) ?_
     rintro nb5 ⟨hnb5,nnb5⟩
     refine Le (Eff.appendF rfl 4 40 Tryz.underlying113 kr (z := (.agg #[.int .i64 0,.int .i64 0,.int .i64 0,.string ByteArray.empty])) kr kr own (xs := (acc.flatMap pR)) hok kr (b2 := nb5) (off2 := 0) (m := 1) (c2 := 1) kr (pR (takeP z).1) (pR_len _) (all_pR _) [(nb5,.cells ((pR (takeP z).1).toArray) 115 (0,0)),(pb,.cells ((pR (takeP z).1).toArray) 115 (0,0)),(ib,.cells (inR ((takeP z).2)) 76 (0,0))] [] (by rfl) (fun w1 h j v hj => by rw [Nat.zero_add]; exact h.ocell 0 rfl (by rw [List.getElem?_toArray]; exact hj)) om om) ?_
     rintro o11 ko11
     refine Lp 1 [] (some [0,6,7,8,9,10,11]) n0 trivial ?_
     refine CfgL.done rfl ?_
     refine Rg [0,6,7,8,9,10,11] [] (fun _ => [(i6 ((k : Int) + 1))]) ⟨om,trivial⟩ ?_
     refine Cfg.setO (congrArg (fun (xq : List Value) => (([(nb5,.cells ((pR (takeP z).1).toArray) 115 (0,0)),(pb,.cells ((pR (takeP z).1).toArray) 115 (0,0)),(ib,.cells (inR ((takeP z).2)) 76 (0,0))] ++ (Own.o 115 xq o11 ++ [])) : LO)) (show _ = ((acc ++ [(takeP z).1]).flatMap pR) from by rw [List.flatMap_append,List.flatMap_singleton])) ?_
     refine Cfg.setS 10 (congrArg (fun (xq : Nat) => (.slice (Own.a o11) xq (Own.c o11) : Value)) (show ((acc.length + 1)) = ((acc ++ [(takeP z).1]).length) from by rw [List.length_append]; rfl)) ?_
     refine Cfg.again rfl (k + 1,(takeP z).2,acc ++ [(takeP z).1],o11) ⟨by omega,rlF_step om om hra,by rw [List.length_append,hal]; rfl,fun p hp => by rcases List.mem_append.1 hp with hp | hp; exact hpo p hp; rw [List.mem_singleton.1 hp]; exact takeP_ok z,by rw [List.flatMap_append,List.flatMap_singleton,List.length_append]; exact ko11⟩ (by show (boundF (aZ l) 64 6).1 - (k + 1) < (boundF (aZ l) 64 6).1 - k; omega) (Conv.mk kr) (.cons _ (.cons _ slr))
  ·have c1 : ((¬ ((k : Int) < ((boundF (aZ l) 64 6).1 : Int))) ∨ (z.er ≠ (0 : Int))) := ((andF c1r).elim (fun h => Or.inl (dF h)) (fun h => Or.inr (beq_eq_false_iff_ne.1 h)))
   obtain ⟨hz,hac0⟩ := rlF_fin hra om
   have hz2 : endF z = aEnd l := by rw [hz]; rfl
   refine Cfg.begL rfl ?_
   refine Lp 1 [] (some [0,6,7,8,10,64]) n0 trivial ?_
   refine Le (Eff.callA (vs := [pT ib]) (.int .i64 (endF z)) rfl Tryz.func37 rfl rfl kr (fun w1 h => rEndI ib z w1 (h.own (ib,Obj.cells (inR z) 76 (0,0)) (show (ib,Obj.cells (inR z) 76 (0,0)) ∈ (([(ib,Obj.cells (inR z) 76 (0,0))] ++ (Own.o 115 (acc.flatMap pR) own ++ [])) : LO) from (mL (mG 0 rfl)))))) ?_
   rintro ⟨⟩ -
   refine Lp 1 [] (some [0,6,7,8,10,66]) n0 trivial ?_
   refine CfgL.done rfl ?_
   refine Cfg.cond rfl (b := ((endF z) != (0 : Int))) kr (fun c4r => ?_) (fun c4r => ?_)
   ·have c4 := (bne_iff_ne.1 c4r)
    refine Cfg.begL rfl ?_
    refine Lp 1 [] (some [67]) n0 trivial ?_
    refine Le (Eff.callA (vs := [pT ib]) (.int .i64 (endF z)) rfl Tryz.func37 rfl rfl kr (fun w1 h => rEndI ib z w1 (h.own (ib,Obj.cells (inR z) 76 (0,0)) (show (ib,Obj.cells (inR z) 76 (0,0)) ∈ (([(ib,Obj.cells (inR z) 76 (0,0))] ++ (Own.o 115 (acc.flatMap pR) own ++ [])) : LO) from (mL (mG 0 rfl)))))) ?_
    rintro ⟨⟩ -
    refine Lp 2 [] (some [4,5]) n0 trivial ?_
    refine CfgL.done rfl ?_
    refine Cfg.ret rfl (rs := [.tmp 4,.tmp 5]) rfl [.string ⟨#[]⟩,.int .i64 (endF z)] ⟨kr,by kernel_rfl,trivial⟩ (fun w1 hp => ?_)
    rw [applyF_end (show aEnd l ≠ 0 by omega),hz2]
    exact ⟨rfl,hp.ext⟩
   ·have c4 := (bne_eq_false_iff_eq.1 c4r)
    have hac : acc = (aRow l).1 := hac0 (endF_zero om)
    have hB : ¬ aEnd l ≠ 0 := by omega
    refine Rg [0,8,10,73] [] n0 trivial ?_
    refine Cfg.cond rfl (b := (((aFrom l) : Int) != ((a.size : Int) % 18446744073709551616))) kr (fun c5r => ?_) (fun c5r => ?_)
    ·have c5 := (bne_iff_ne.1 c5r)
     refine Rg [4,5] [] n0 trivial ?_
     refine Cfg.ret rfl (rs := [.tmp 4,.tmp 5]) rfl [.string ⟨#[]⟩,.int .i64 31] ⟨kr,by kernel_rfl,trivial⟩ (fun w1 hp => ?_)
     first
      | (rw [fin_far hac hB om hap om om om]; exact ⟨rfl,hp.ext⟩)
      | (rw [applyF_base hB om]; exact ⟨rfl,hp.ext⟩)
    ·have c5 := (bne_eq_false_iff_eq.1 c5r)
     refine Rg [0,8,10,13] [] n0 trivial ?_
     refine Cfg.reg rfl [0,8,13,74,75,76] [] (Γ' := [(76,[],.int .i64 0),(75,[],.int .i64 (acc.length : Int)),(74,[],.slice (Own.a own) acc.length (Own.c own)),(13,[],.string ⟨#[]⟩),(8,[],.int .u64 ((aMost l) : Int)),(0,[],.string a)]) (nd := (fun _ => [])) (fun _ => kr) trivial ?_
     refine Cfg.loop rfl (ι := Nat × List UInt8) (fun (xz : Nat × List UInt8) => match xz with | (i,out) => [(76,[],.int .i64 (i : Int)),(75,[],.int .i64 (acc.length : Int)),(74,[],.slice (Own.a own) acc.length (Own.c own)),(13,[],.string (tx out)),(8,[],.int .u64 ((aMost l) : Int)),(0,[],.string a)]) (fun (xz : Nat × List UInt8) => match xz with | (i,out) => ([] ++ (Own.o 115 (acc.flatMap pR) own ++ []))) (fun (xz : Nat × List UInt8) => match xz with | (i,out) => (i ≤ acc.length) ∧ (applyP a (acc.drop i) out = applyP a acc []) ∧ (out.length ≤ 32768)) (fun (xz : Nat × List UInt8) => match xz with | (i,out) => acc.length - i) (0,[]) ?_ (Conv.mk kr) (.cons _ slr) ?_
     ·exact ⟨Nat.zero_le _,rfl,Nat.zero_le _⟩
     ·rintro ⟨i,out⟩ ⟨hi,hap,hout⟩
      refine Rg [0,8,13,74,75,76,77] [] n0 trivial ?_
      refine Cfg.cond rfl (b := (decide ((i : Int) < (acc.length : Int)))) kr (fun c6r => ?_) (fun c6r => ?_)
      ·have c6 := (dT c6r)
       obtain ⟨sb,scs,hsa,hsm,hsc⟩ := own_at (e := 115) hok om
       have hel : PtOk 32768 (acc.getD i PT0) := hpo _ (K.getD_mem om)
       have hepat := hel.1.pat
       have hen := hel.1.n
       have hek := hel.1.kind
       have hele := piece_le a hel
       refine Cfg.setS 74 (congrArg (fun (xq : Value) => (xq : Value)) (show .slice (Own.a own) acc.length (Own.c own) = .slice (some ⟨sb,0,none⟩) acc.length (Own.c own) from by rw [hsa])) ?_
       refine Cfg.begL rfl ?_
       refine Lp 2 [dZ,(dS (.agg (pR (acc.getD i PT0)).toArray))] (some [0,8,13,74,75,76,79]) (fun S => [(0 ≤ (i : Int) ∧ (i : Int) < (acc.length : Int)),(∀ w1,S w1 → (loadVar 115 ⟨sb,(i * 4),none⟩).run Tryz.prog w1 = .ok (.agg (pR (acc.getD i PT0)).toArray) w1)]) ⟨om,(fun w1 h => load_list (vs := pR (acc.getD i PT0)) Tryz.underlying115 rfl kr (pR_len _) (fun q9 v hq9 => (cell_cells (h.own (sb,_) (mR (mL hsm)))).trans (pR_cell hsc om hq9))),trivial⟩ ?_
       refine Le (Eff.alloc (z := (.agg #[.int .i64 0,.int .i64 0,.int .i64 0,.string ByteArray.empty])) rfl kr) ?_
       rintro qb ⟨hqb,nqb⟩
       refine Le (Eff.storeN (b := qb) (off := 0) (vs := (pR (acc.getD i PT0)).toArray) (n := 4) rfl kr kr kr rfl (all_pR _) 0 (cs := #[.int .i64 0,.int .i64 0,.int .i64 0,.string ByteArray.empty]) (e := 115) kr (Nat.le_refl 4)) ?_
       rintro ⟨⟩ -
       refine CfgL.setO (congrArg (fun (xq : Array Value) => (([(qb,.cells xq 115 (0,0))] ++ (Own.o 115 (acc.flatMap pR) own ++ [])) : LO)) (show _ = ((pR (acc.getD i PT0)).toArray) from (show spl (#[.int .i64 0,.int .i64 0,.int .i64 0,.string ByteArray.empty] : Array Value) 0 (pR (acc.getD i PT0)).toArray.toList = (pR (acc.getD i PT0)).toArray from spl_all rfl))) ?_
       refine CfgL.done rfl ?_
       refine Cg (Γ' := [(15,[],pT qb),(76,[],.int .i64 (i : Int)),(75,[],.int .i64 (acc.length : Int)),(74,[],.slice (some ⟨sb,0,none⟩) acc.length (Own.c own)),(13,[],.string (tx out)),(8,[],.int .u64 ((aMost l) : Int)),(0,[],.string a)]) ?_
       refine Rg [0,8,13,15,74,75,76,82] [dZ,(dS (.int .i64 ((acc.getD i PT0).kind : Int)))] (fun S => [(cE S qb 0 (.int .i64 ((acc.getD i PT0).kind : Int)))]) ⟨(oC 0 rfl rfl),trivial⟩ ?_
       refine Cfg.cond rfl (b := (((acc.getD i PT0).kind : Int) == (0 : Int))) kr (fun c7r => ?_) (fun c7r => ?_)
       ·have c7 := (beq_iff_eq.1 c7r)
        refine Rg [0,8,13,15,74,75,76,90] [dZ,(dS (.int .i64 ((acc.getD i PT0).pat : Int))),dZ,(dS (.int .i64 ((acc.getD i PT0).n : Int)))] (fun S => [(cE S qb 1 (.int .i64 ((acc.getD i PT0).pat : Int))),(cE S qb 2 (.int .i64 ((acc.getD i PT0).n : Int))),(i6 (((acc.getD i PT0).pat : Int) + ((acc.getD i PT0).n : Int)))]) ⟨(oC 0 rfl rfl),(oC 0 rfl rfl),om,trivial⟩ ?_
        refine Cfg.cond rfl (b := (decide ((((acc.getD i PT0).pat : Int) + ((acc.getD i PT0).n : Int)) > (a.size : Int)))) kr (fun c8r => ?_) (fun c8r => ?_)
        ·have c8 := (dT c8r)
         refine Rg [4,5] [] n0 trivial ?_
         refine Cfg.ret rfl (rs := [.tmp 4,.tmp 5]) rfl [.string ⟨#[]⟩,.int .i64 31] ⟨kr,by kernel_rfl,trivial⟩ (fun w1 hp => ?_)
         first
          | (rw [fin_far hac hB om hap om om om]; exact ⟨rfl,hp.ext⟩)
          | (rw [applyF_base hB om]; exact ⟨rfl,hp.ext⟩)
        ·have c8 := (dF c8r)
         refine Cfg.begL rfl ?_
         refine Lp 10 [dZ,dZ,(dS (.int .i64 ((acc.getD i PT0).pat : Int))),dZ,(dS (.int .i64 ((acc.getD i PT0).pat : Int))),dZ,(dS (.int .i64 ((acc.getD i PT0).n : Int)))] (some [0,8,13,15,74,75,76,99,100]) (fun S => [(cE S qb 1 (.int .i64 ((acc.getD i PT0).pat : Int))),(cE S qb 1 (.int .i64 ((acc.getD i PT0).pat : Int))),(cE S qb 2 (.int .i64 ((acc.getD i PT0).n : Int))),(i6 (((acc.getD i PT0).pat : Int) + ((acc.getD i PT0).n : Int))),(0 ≤ ((acc.getD i PT0).pat : Int)),(0 ≤ (((acc.getD i PT0).pat : Int) + ((acc.getD i PT0).n : Int))),(((acc.getD i PT0).pat) ≤ (((acc.getD i PT0).pat) + ((acc.getD i PT0).n)) ∧ (((acc.getD i PT0).pat) + ((acc.getD i PT0).n)) ≤ a.size)]) ⟨(oC 0 rfl rfl),(oC 0 rfl rfl),(oC 0 rfl rfl),om,om,om,om,trivial⟩ ?_
         refine Le (Eff.store1 (b := qb) (off := 3) (v := .string (a.extract (((acc.getD i PT0).pat)) ((((acc.getD i PT0).pat) + ((acc.getD i PT0).n))))) rfl kr kr rfl kr 0 (cs := (pR (acc.getD i PT0)).toArray) (e := 115) kr (by rw [List.size_toArray,pR_len]; decide)) ?_
         rintro ⟨⟩ -
         refine CfgL.done rfl ?_
         refine Cg (Γ' := [(15,[],pT qb),(76,[],.int .i64 (i : Int)),(75,[],.int .i64 (acc.length : Int)),(74,[],.slice (some ⟨sb,0,none⟩) acc.length (Own.c own)),(13,[],.string (tx out)),(8,[],.int .u64 ((aMost l) : Int)),(0,[],.string a)]) ?_
         have hto := tx_size out
         have hpz : (pieceF a (acc.getD i PT0)).size = ((a.extract (((acc.getD i PT0).pat)) ((((acc.getD i PT0).pat) + ((acc.getD i PT0).n))))).size := by unfold pieceF; rw [if_pos (show (acc.getD i PT0).kind = 0 by omega)]
         refine Rg [0,8,13,74,75,76] [dZ,dZ,(dS (.string (a.extract (((acc.getD i PT0).pat)) ((((acc.getD i PT0).pat) + ((acc.getD i PT0).n))))))] (fun S => [(cE S qb 3 (.string (a.extract (((acc.getD i PT0).pat)) ((((acc.getD i PT0).pat) + ((acc.getD i PT0).n)))))),((tx out).size + (a.extract (((acc.getD i PT0).pat)) ((((acc.getD i PT0).pat) + ((acc.getD i PT0).n)))).size ≤ 9223372036854775807)]) ⟨(oC 0 rfl rfl),om,trivial⟩ ?_
         have hts := tx_sz out (pieceF a (acc.getD i PT0))
         refine Cfg.setS 13 (congrArg Value.string (show ((tx out) ++ (a.extract (((acc.getD i PT0).pat)) ((((acc.getD i PT0).pat) + ((acc.getD i PT0).n))))) = (tx (out ++ (pieceF a (acc.getD i PT0)).data.toList)) from by rw [tx_ap]; unfold pieceF; rw [if_pos (show (acc.getD i PT0).kind = 0 by omega)])) ?_
         refine Rg [0,8,13,74,75,76,107] [] n0 trivial ?_
         refine Cfg.cond rfl (b := (decide (((tx (out ++ (pieceF a (acc.getD i PT0)).data.toList)).size : Int) > (32768 : Int)))) kr (fun c9r => ?_) (fun c9r => ?_)
         ·have c9 := (dT c9r)
          refine Rg [4,5] [] n0 trivial ?_
          refine Cfg.ret rfl (rs := [.tmp 4,.tmp 5]) rfl [.string ⟨#[]⟩,.int .i64 5] ⟨kr,by kernel_rfl,trivial⟩ (fun w1 hp => ?_)
          rw [fin_long hac hB om hap om om om]
          exact ⟨rfl,hp.ext⟩
         ·have c9 := (dF c9r)
          refine Rg [0,8,13,74,75,76] [] (fun _ => [(i6 ((i : Int) + 1))]) ⟨om,trivial⟩ ?_
          have hst := applyP_next a (show i < acc.length by omega) out om om
          refine Cfg.setS 74 (congrArg (fun (xq : Value) => (xq : Value)) (show .slice (some ⟨sb,0,none⟩) acc.length (Own.c own) = .slice (Own.a own) acc.length (Own.c own) from by rw [hsa])) ?_
          refine Cfg.again rfl (i + 1,out ++ (pieceF a (acc.getD i PT0)).data.toList) ⟨by omega,by rw [← hst]; exact hap,by rw [List.length_append,ba_len]; omega⟩ (by show acc.length - (i + 1) < acc.length - i; omega) (Conv.mk kr) (.cons _ slr)
       ·have c7 := (beq_eq_false_iff_ne.1 c7r)
        have hto := tx_size out
        have hpz : (pieceF a (acc.getD i PT0)).size = (acc.getD i PT0).text.size := by unfold pieceF; rw [if_neg (show ¬ (acc.getD i PT0).kind = 0 by omega)]
        refine Rg [0,8,13,74,75,76] [dZ,dZ,(dS (.string (acc.getD i PT0).text))] (fun S => [(cE S qb 3 (.string (acc.getD i PT0).text)),((tx out).size + (acc.getD i PT0).text.size ≤ 9223372036854775807)]) ⟨(oC 0 rfl rfl),om,trivial⟩ ?_
        have hts := tx_sz out (pieceF a (acc.getD i PT0))
        refine Cfg.setS 13 (congrArg Value.string (show ((tx out) ++ (acc.getD i PT0).text) = (tx (out ++ (pieceF a (acc.getD i PT0)).data.toList)) from by rw [tx_ap]; unfold pieceF; rw [if_neg (show ¬ (acc.getD i PT0).kind = 0 by omega)])) ?_
        refine Rg [0,8,13,74,75,76,107] [] n0 trivial ?_
        refine Cfg.cond rfl (b := (decide (((tx (out ++ (pieceF a (acc.getD i PT0)).data.toList)).size : Int) > (32768 : Int)))) kr (fun c10r => ?_) (fun c10r => ?_)
        ·have c10 := (dT c10r)
         refine Rg [4,5] [] n0 trivial ?_
         refine Cfg.ret rfl (rs := [.tmp 4,.tmp 5]) rfl [.string ⟨#[]⟩,.int .i64 5] ⟨kr,by kernel_rfl,trivial⟩ (fun w1 hp => ?_)
         rw [fin_long hac hB om hap om om om]
         exact ⟨rfl,hp.ext⟩
        ·have c10 := (dF c10r)
         refine Rg [0,8,13,74,75,76] [] (fun _ => [(i6 ((i : Int) + 1))]) ⟨om,trivial⟩ ?_
         have hst := applyP_next a (show i < acc.length by omega) out om om
         refine Cfg.setS 74 (congrArg (fun (xq : Value) => (xq : Value)) (show .slice (some ⟨sb,0,none⟩) acc.length (Own.c own) = .slice (Own.a own) acc.length (Own.c own) from by rw [hsa])) ?_
         refine Cfg.again rfl (i + 1,out ++ (pieceF a (acc.getD i PT0)).data.toList) ⟨by omega,by rw [← hst]; exact hap,by rw [List.length_append,ba_len]; omega⟩ (by show acc.length - (i + 1) < acc.length - i; omega) (Conv.mk kr) (.cons _ slr)
      ·have c6 := (dF c6r)
       have hto := tx_size out
       refine Rg [13,113] [] n0 trivial ?_
       refine Cfg.cond rfl (b := ((((tx out).size : Int) % 18446744073709551616) != ((aMost l) : Int))) kr (fun c11r => ?_) (fun c11r => ?_)
       ·have c11 := (bne_iff_ne.1 c11r)
        refine Rg [4,5] [] n0 trivial ?_
        refine Cfg.ret rfl (rs := [.tmp 4,.tmp 5]) rfl [.string ⟨#[]⟩,.int .i64 4] ⟨kr,by kernel_rfl,trivial⟩ (fun w1 hp => ?_)
        have hfd := fin_done hac hap om
        rw [applyF_form hB om hfd om]
        exact ⟨rfl,hp.ext⟩
       ·have c11 := (bne_eq_false_iff_eq.1 c11r)
        refine Rg [4,5] [] n0 trivial ?_
        refine Cfg.ret rfl (rs := [.tmp 4,.tmp 5]) rfl [.string (tx out),.int .i64 0] ⟨kr,by kernel_rfl,trivial⟩ (fun w1 hp => ?_)
        have hfd := fin_done hac hap om
        rw [applyF_ok hB om hfd om]
        exact ⟨rfl,hp.ext⟩
end Go.Proofs.YtbeegepcdglcaaaGreatDoor
namespace Go.Proofs.YtbeegepcdglcaaaGreatDoor
open K
set_option linter.unusedVariables false
def docR (z : IN) (is : List (List UInt8)) (ts : List ByteArray) : List UInt8 × Int := applyF (txO is ts (digF (byteF z).2).1) (textF (digF (byteF z).2).2 32768).1
def docZ (z : IN) : IN := (textF (digF (byteF z).2).2 32768).2
def docE (z : IN) (is : List (List UInt8)) (ts : List ByteArray) : ByteArray × IN :=
 if (byteF z).1 = 0 then (tx (textF (byteF z).2 32768).1,(textF (byteF z).2 32768).2)
 else (tx (docR z is ts).1,if (docR z is ts).2 ≠ 0 then failF (docZ z) (docR z is ts).2 else docZ z)
theorem docE_0 {z : IN} (is : List (List UInt8)) (ts : List ByteArray) (h : (byteF z).1 = 0) : docE z is ts = (tx (textF (byteF z).2 32768).1,(textF (byteF z).2 32768).2) := if_pos h
theorem docE_e {z : IN} {is : List (List UInt8)} {ts : List ByteArray} (h : ¬ (byteF z).1 = 0) (h2 : (docR z is ts).2 ≠ 0) : docE z is ts = (tx (docR z is ts).1,failF (docZ z) (docR z is ts).2) := by unfold docE; rw [if_neg h,if_pos h2]
theorem docE_1 {z : IN} {is : List (List UInt8)} {ts : List ByteArray} (h : ¬ (byteF z).1 = 0) (h2 : ¬ (docR z is ts).2 ≠ 0) : docE z is ts = (tx (docR z is ts).1,docZ z) := by unfold docE; rw [if_neg h,if_neg h2]
def dlF : Nat → IN → List (List UInt8) → List ByteArray → IN × List ByteArray
 | 0,z,_,ts => (z,ts)
 | k + 1,z,is,ts => if z.er ≠ 0 then (z,ts) else dlF k (docE (digF z).2 is ts).2 (is ++ [(digF z).1]) (ts ++ [(docE (digF z).2 is ts).1])
theorem dl_step {k n : Nat} {z : IN} {is : List (List UInt8)} {ts : List ByteArray} {R : IN × List ByteArray} (hk : k < n) (he : z.er = 0) (h : dlF (n - k) z is ts = R) : dlF (n - (k + 1)) (docE (digF z).2 is ts).2 (is ++ [(digF z).1]) (ts ++ [(docE (digF z).2 is ts).1]) = R := by
 rw [← h,show n - k = (n - (k + 1)) + 1 by omega]
 exact (if_neg (fun hn => hn he)).symm
theorem dl_fin {k n : Nat} {z : IN} {is : List (List UInt8)} {ts : List ByteArray} {R : IN × List ByteArray} (h : dlF (n - k) z is ts = R) (hx : k = n ∨ z.er ≠ 0) : R = (z,ts) := by
 rw [← h]
 rcases hx with rfl | hx
 ·rw [Nat.sub_self]; rfl
 ·cases n - k with
  | zero => rfl
  | succ m => exact if_pos hx
theorem next_er {z : IN} {n : Int} (h : (nextF z n).2.er = 0) : z.er = 0 ∧ (nextF z n).2.rest.length + n.toNat ≤ z.rest.length := by
 unfold nextF at h ⊢
 by_cases h1 : z.er ≠ 0
 ·rw [if_pos h1] at h; exact absurd h h1
 ·rw [if_neg h1] at h ⊢
  by_cases h2 : n < 0 ∨ n > (z.rest.length : Int)
  ·rw [if_pos h2] at h; exact absurd (show (3 : Int) = 0 from h) (by decide)
  ·rw [if_neg h2]
   refine ⟨Decidable.not_not.1 h1,?_⟩
   show (z.rest.drop n.toNat).length + n.toNat ≤ z.rest.length
   rw [List.length_drop]; omega
theorem text_er {z : IN} {m : Int} (h : (textF z m).2.er = 0) : z.er = 0 ∧ (textF z m).2.rest.length ≤ z.rest.length := by
 by_cases hb : (fourF z).1 > (if 0 > m then 0 else m).toNat
 ·rw [textF_fail hb] at h; exact absurd h (failF_ne _ (by decide))
 ·rw [textF_fine hb] at h ⊢
  obtain ⟨h1,h2⟩ := next_er h
  obtain ⟨h3,h4⟩ := next_er (z := z) (n := 4) h1
  have h5 : (fourF z).2.rest.length + (4 : Int).toNat ≤ z.rest.length := h4
  exact ⟨h3,by omega⟩
theorem docZ_er {z : IN} (h : (docZ z).er = 0) : z.er = 0 ∧ (docZ z).rest.length ≤ z.rest.length := by
 obtain ⟨h1,h2⟩ := text_er h
 obtain ⟨h3,h4⟩ := next_er (z := (byteF z).2) (n := 32) h1
 obtain ⟨h5,h6⟩ := next_er (z := z) (n := 1) h3
 have h7 : (docZ z).rest.length ≤ (digF (byteF z).2).2.rest.length := h2
 have h8 : (digF (byteF z).2).2.rest.length + (32 : Int).toNat ≤ (byteF z).2.rest.length := h4
 have h9 : (byteF z).2.rest.length + (1 : Int).toNat ≤ z.rest.length := h6
 exact ⟨h5,by omega⟩
theorem docE_er {z : IN} {is : List (List UInt8)} {ts : List ByteArray} (h : (docE z is ts).2.er = 0) : z.er = 0 ∧ (docE z is ts).2.rest.length ≤ z.rest.length := by
 by_cases h0 : (byteF z).1 = 0
 ·rw [docE_0 is ts h0] at h ⊢
  obtain ⟨h1,h2⟩ := text_er h
  obtain ⟨h5,h6⟩ := next_er (z := z) (n := 1) h1
  have h9 : (byteF z).2.rest.length + (1 : Int).toNat ≤ z.rest.length := h6
  exact ⟨h5,Nat.le_trans h2 om⟩
 ·by_cases h1 : (docR z is ts).2 ≠ 0
  ·rw [docE_e h0 h1] at h; exact absurd h (failF_ne _ h1)
  ·rw [docE_1 h0 h1] at h ⊢
   exact docZ_er h
theorem ent_er {z : IN} {is : List (List UInt8)} {ts : List ByteArray} (h : (docE (digF z).2 is ts).2.er = 0) : z.er = 0 ∧ (docE (digF z).2 is ts).2.rest.length + 32 ≤ z.rest.length := by
 obtain ⟨h1,h2⟩ := docE_er h
 obtain ⟨h3,h4⟩ := next_er (z := z) (n := 32) h1
 have h5 : (digF z).2.rest.length + (32 : Int).toNat ≤ z.rest.length := h4
 exact ⟨h3,by omega⟩
theorem docE_size (z : IN) (is : List (List UInt8)) (ts : List ByteArray) : (docE z is ts).1.size ≤ 32768 := by
 unfold docE
 split
 ·show (tx _).size ≤ _; rw [tx_size]; exact textF_len _ 32768
 ·show (tx _).size ≤ _; rw [tx_size]; exact applyF_len _ _
theorem dl_len : ∀ (k : Nat) (z : IN) (is : List (List UInt8)) (ts : List ByteArray),(dlF k z is ts).1.er = 0 → z.er = 0 ∧ (dlF k z is ts).1.rest.length + 32 * (dlF k z is ts).2.length ≤ z.rest.length + 32 * ts.length
 | 0,z,is,ts,h => ⟨h,Nat.le_refl _⟩
 | k + 1,z,is,ts,h => by
  by_cases h0 : z.er ≠ 0
  ·have e : dlF (k + 1) z is ts = (z,ts) := if_pos h0
   rw [e] at h; exact absurd h h0
  ·have e : dlF (k + 1) z is ts = dlF k (docE (digF z).2 is ts).2 (is ++ [(digF z).1]) (ts ++ [(docE (digF z).2 is ts).1]) := if_neg h0
   rw [e] at h ⊢
   obtain ⟨h1,h2⟩ := dl_len k _ _ _ h
   obtain ⟨h3,h4⟩ := ent_er h1
   rw [List.length_append,List.length_singleton] at h2
   exact ⟨h3,by omega⟩
theorem dl_size : ∀ (k : Nat) (z : IN) (is : List (List UInt8)) (ts : List ByteArray),(∀ t ∈ ts,t.size ≤ 32768) → ∀ t ∈ (dlF k z is ts).2,t.size ≤ 32768
 | 0,z,is,ts,h => h
 | k + 1,z,is,ts,h => by
  by_cases h0 : z.er ≠ 0
  ·have e : dlF (k + 1) z is ts = (z,ts) := if_pos h0
   rw [e]; exact h
  ·have e : dlF (k + 1) z is ts = dlF k (docE (digF z).2 is ts).2 (is ++ [(digF z).1]) (ts ++ [(docE (digF z).2 is ts).1]) := if_neg h0
   rw [e]
   refine dl_size k _ _ _ (fun t ht => ?_)
   rcases List.mem_append.1 ht with ht | ht
   ·exact h t ht
   ·rw [List.mem_singleton.1 ht]; exact docE_size _ _ _
def dR (l : List UInt8) : IN × List ByteArray := dlF (fourF (rdZ l)).1 (fourF (rdZ l)).2 [] []
def docO (s : List UInt8) : Int × List En :=
 if s.length < 32 then (3,[]) else if s.drop (s.length - 32) ≠ shaD (bodyOf s) then (10,[]) else if (nextF ⟨0,bodyOf s⟩ 4).1 ≠ [80,65,67,75] then (4,[]) else
  if endF (dR (bodyOf s)).1 ≠ 0 then (4,[]) else if fileF (planF (dR (bodyOf s)).2) ≠ s then (4,[]) else (0,planF (dR (bodyOf s)).2)
theorem docO_short {s : List UInt8} (h : s.length < 32) : docO s = (3,[]) := if_pos h
theorem docO_sum {s : List UInt8} (h : ¬ s.length < 32) (h1 : s.drop (s.length - 32) ≠ shaD (bodyOf s)) : docO s = (10,[]) := by unfold docO; rw [if_neg h,if_pos h1]
theorem docO_head {s : List UInt8} (h : ¬ s.length < 32) (h1 : ¬ s.drop (s.length - 32) ≠ shaD (bodyOf s)) (h2 : (nextF ⟨0,bodyOf s⟩ 4).1 ≠ [80,65,67,75]) : docO s = (4,[]) := by unfold docO; rw [if_neg h,if_neg h1,if_pos h2]
theorem docO_end {s : List UInt8} (h : ¬ s.length < 32) (h1 : ¬ s.drop (s.length - 32) ≠ shaD (bodyOf s)) (h2 : ¬ (nextF ⟨0,bodyOf s⟩ 4).1 ≠ [80,65,67,75]) (h3 : endF (dR (bodyOf s)).1 ≠ 0) : docO s = (4,[]) := by unfold docO; rw [if_neg h,if_neg h1,if_neg h2,if_pos h3]
theorem docO_lay {s : List UInt8} (h : ¬ s.length < 32) (h1 : ¬ s.drop (s.length - 32) ≠ shaD (bodyOf s)) (h2 : ¬ (nextF ⟨0,bodyOf s⟩ 4).1 ≠ [80,65,67,75]) (h3 : ¬ endF (dR (bodyOf s)).1 ≠ 0) (h4 : fileF (planF (dR (bodyOf s)).2) ≠ s) : docO s = (4,[]) := by unfold docO; rw [if_neg h,if_neg h1,if_neg h2,if_neg h3,if_pos h4]
theorem docO_ok {s : List UInt8} (h : ¬ s.length < 32) (h1 : ¬ s.drop (s.length - 32) ≠ shaD (bodyOf s)) (h2 : ¬ (nextF ⟨0,bodyOf s⟩ 4).1 ≠ [80,65,67,75]) (h3 : ¬ endF (dR (bodyOf s)).1 ≠ 0) (h4 : ¬ fileF (planF (dR (bodyOf s)).2) ≠ s) : docO s = (0,planF (dR (bodyOf s)).2) := by unfold docO; rw [if_neg h,if_neg h1,if_neg h2,if_neg h3,if_neg h4]
theorem dR_ok (l : List UInt8) (h : endF (dR l).1 = 0) : (∀ t ∈ (dR l).2,t.size ≤ 32768) ∧ 32 * (dR l).2.length ≤ l.length := by
 refine ⟨dl_size _ _ _ _ (fun t ht => by cases ht),?_⟩
 obtain ⟨h1,h2⟩ := dl_len _ _ _ _ (show (dlF (fourF (rdZ l)).1 (fourF (rdZ l)).2 [] []).1.er = 0 from endF_zero h)
 obtain ⟨h3,h4⟩ := next_er (z := rdZ l) (n := 4) h1
 obtain ⟨h5,h6⟩ := next_er (z := ⟨0,l⟩) (n := 4) h3
 have h7 : (dR l).1.rest.length + 32 * (dR l).2.length ≤ (fourF (rdZ l)).2.rest.length + 32 * ([] : List ByteArray).length := h2
 have h8 : (fourF (rdZ l)).2.rest.length + (4 : Int).toNat ≤ (rdZ l).rest.length := h4
 have h9 : (rdZ l).rest.length + (4 : Int).toNat ≤ l.length := h6
 rw [List.length_nil] at h7
 omega
theorem dl_ents : ∀ (es : List En) (r : List UInt8) (is : List (List UInt8)) (ts ts' : List ByteArray),(∀ e ∈ es,EnOk e) → rdP (es.map rawE) is ts = some ts' → dlF es.length ⟨0,flat partE es ++ r⟩ is ts = (⟨0,r⟩,ts')
 | [],r,is,ts,ts',_,h => by
  obtain rfl := Option.some.inj h
  rfl
 | x :: xs,r,is,ts,ts',ho,h => by
  have hx := ho x mH
  have hxs : ∀ e ∈ xs,EnOk e := fun e he => ho e (List.mem_cons_of_mem _ he)
  have htx := hx.t
  have hdx := hx.d
  have hf : flat partE (x :: xs) ++ r = partE x ++ (flat partE xs ++ r) := by simp [flat]
  have e1 : ∀ z : IN,z.er = 0 → dlF (x :: xs).length z is ts = dlF xs.length (docE (digF z).2 is ts).2 (is ++ [(digF z).1]) (ts ++ [(docE (digF z).2 is ts).1]) := fun z hz => if_neg (fun hn => hn hz)
  rw [hf,e1 _ rfl]
  rw [List.map_cons] at h
  by_cases hp : 0 < x.p
  ·have hr : rawE x = ⟨x.id,ByteArray.empty,x.b,x.d,1⟩ := if_pos hp
   have hpe : partE x = x.id ++ (be 1 1 ++ (x.b ++ text4 x.d)) := by unfold partE; rw [if_pos hp]
   rw [hpe,List.append_assoc,digF_app _ _ hx.id,List.append_assoc,List.append_assoc]
   simp only
   have hb1 := byteF_app 1 (x.b ++ (text4 x.d ++ (flat partE xs ++ r))) (by decide)
   have hb2 := digF_app x.b (text4 x.d ++ (flat partE xs ++ r)) hx.b
   have hb3 := textF_app x.d (flat partE xs ++ r) (most := 32768) om om
   rw [hr] at h
   cases hj : atF is x.b with
   | none => rw [rdP_n (x := ⟨x.id,ByteArray.empty,x.b,x.d,1⟩) (show 0 < 1 by decide) hj] at h; cases h
   | some j =>
    by_cases h2 : (applyF (ts.getD j ByteArray.empty) x.d.data.toList).2 = 0
    ·rw [rdP_d (x := ⟨x.id,ByteArray.empty,x.b,x.d,1⟩) (show 0 < 1 by decide) hj h2] at h
     have ht : txO is ts x.b = ts.getD j ByteArray.empty := by unfold txO; rw [hj]
     have hR : docR ⟨0,be 1 1 ++ (x.b ++ (text4 x.d ++ (flat partE xs ++ r)))⟩ is ts = applyF (ts.getD j ByteArray.empty) x.d.data.toList := by
      unfold docR; rw [hb1]; simp only; rw [hb2]; simp only; rw [hb3,ht]
     have hZ : docZ ⟨0,be 1 1 ++ (x.b ++ (text4 x.d ++ (flat partE xs ++ r)))⟩ = ⟨0,flat partE xs ++ r⟩ := by
      unfold docZ; rw [hb1]; simp only; rw [hb2]; simp only; rw [hb3]
     have hE := docE_1 (z := ⟨0,be 1 1 ++ (x.b ++ (text4 x.d ++ (flat partE xs ++ r)))⟩) (is := is) (ts := ts) (by rw [hb1]; exact Nat.one_ne_zero) (by rw [hR]; exact fun hn => hn h2)
     rw [hE,hR,hZ]
     exact dl_ents xs r _ _ ts' hxs h
    ·rw [rdP_e (x := ⟨x.id,ByteArray.empty,x.b,x.d,1⟩) (show 0 < 1 by decide) hj h2] at h; cases h
  ·have hr : rawE x = ⟨x.id,x.t,dzz,ByteArray.empty,0⟩ := if_neg hp
   have hpe : partE x = x.id ++ (be 0 1 ++ text4 x.t) := by unfold partE; rw [if_neg hp]
   rw [hpe,List.append_assoc,digF_app _ _ hx.id,List.append_assoc]
   simp only
   have hb1 := byteF_app 0 (text4 x.t ++ (flat partE xs ++ r)) (by decide)
   have hb3 := textF_app x.t (flat partE xs ++ r) (most := 32768) om om
   rw [hr,rdP_w (x := ⟨x.id,x.t,dzz,ByteArray.empty,0⟩) (show ¬ 0 < 0 by decide)] at h
   have hE := docE_0 (z := ⟨0,be 0 1 ++ (text4 x.t ++ (flat partE xs ++ r))⟩) is ts (by rw [hb1])
   rw [hE,hb1]
   simp only
   rw [hb3]
   simp only [tx_data]
   exact dl_ents xs r _ _ ts' hxs h
theorem dR_plan {l : List ByteArray} (hs : ∀ s ∈ l,s.size ≤ 32768) (hn : l.length ≤ 1000000) : dR (bodyF (planF l)) = (⟨0,[]⟩,txs (planF l)) ∧ (nextF ⟨0,bodyF (planF l)⟩ 4).1 = [80,65,67,75] := by
 have hpl := planF_len l
 have ho := planF_ok hs
 have h1 := read_plan hs hn
 rw [read_body ho om] at h1
 have h0 : nextF ⟨0,bodyF (planF l)⟩ 4 = ([80,65,67,75],⟨0,four (planF l).length ++ flat partE (planF l)⟩) := nextF_app [80,65,67,75] _ rfl
 have h2 := dl_ents (planF l) [] [] [] _ ho h1
 rw [List.append_nil] at h2
 refine ⟨?_,by rw [h0]⟩
 unfold dR rdZ
 rw [h0]
 simp only
 rw [fourF_app _ _ om]
 exact h2
theorem openF_eq {s : List UInt8} (h : ¬ s.length < 32) (h1 : ¬ s.drop (s.length - 32) ≠ shaD (bodyOf s)) : openF s = (4,[]) ∨ ∃ ts,readF (bodyOf s) = some ts ∧ fileF (planF ts) = s ∧ openF s = (0,planF ts) := by
 cases h2 : readF (bodyOf s) with
 | none => exact .inl (openF_read h h1 h2)
 | some ts =>
  by_cases h3 : fileF (planF ts) = s
  ·exact .inr ⟨ts,rfl,h3,openF_ok h h1 h2 h3⟩
  ·exact .inl (openF_lay h h1 h2 h3)
theorem docO_eq {s : List UInt8} (hs : s.length ≤ 3000) : docO s = openF s := by
 by_cases h : s.length < 32
 ·rw [docO_short h,openF_short h]
 ·by_cases h1 : s.drop (s.length - 32) ≠ shaD (bodyOf s)
  ·rw [docO_sum h h1,openF_sum h h1]
  ·have hbl : (bodyOf s).length = s.length - 32 := by unfold bodyOf; rw [List.length_take]; omega
   rcases openF_eq h h1 with ho | ⟨ts,hr,hf,ho⟩
   ·rw [ho]
    by_cases h2 : (nextF ⟨0,bodyOf s⟩ 4).1 ≠ [80,65,67,75]
    ·exact docO_head h h1 h2
    ·by_cases h3 : endF (dR (bodyOf s)).1 ≠ 0
     ·exact docO_end h h1 h2 h3
     ·by_cases h4 : fileF (planF (dR (bodyOf s)).2) ≠ s
      ·exact docO_lay h h1 h2 h3 h4
      ·obtain ⟨g1,g2⟩ := dR_ok (bodyOf s) om
       have h5 := open_file g1 om
       rw [Decidable.not_not.1 h4,ho] at h5
       exact absurd (show (4 : Int) = 0 from congrArg Prod.fst h5) (by decide)
   ·have hrt := rdT_ok (l := bodyOf s) om
    have hT : rdT (bodyOf s) = ts := by unfold rdT; rw [hr]; rfl
    rw [hT] at hrt
    have hpl := planF_len ts
    have hb : bodyF (planF ts) = bodyOf s := by
     have h9 : (shaD (bodyF (planF ts))).length = 32 := shaD_len _
     have h8 : bodyOf (fileF (planF ts)) = bodyF (planF ts) := by
      unfold bodyOf fileF
      rw [List.length_append,h9,Nat.add_sub_cancel,List.take_left']; rfl
     rw [← h8,hf]
    obtain ⟨d1,d2⟩ := dR_plan hrt.1 hrt.2
    rw [hb] at d1 d2
    have h6 := docO_ok h h1 (fun hn => hn d2) (by rw [d1]; exact fun hn => hn rfl) (by rw [d1]; simp only; rw [plan_txs]; exact fun hn => hn hf)
    rw [h6,d1,ho]
    simp only
    rw [plan_txs]
end Go.Proofs.YtbeegepcdglcaaaGreatDoor
