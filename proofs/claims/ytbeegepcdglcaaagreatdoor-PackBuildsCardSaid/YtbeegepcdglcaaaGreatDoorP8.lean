/- Texts on which the proof of this claim stands: Pk7, Pk8, Pk9, PkL, ShaA, Dlt5, PkO, PkQ, PkZ. -/
import Derived.Test.YtbeegepcdglcaaaGreatDoorP7
import Derived.Test.YtbeegepcdglcaaaGreatDoorP1
import Derived.Test.YtbeegepcdglcaaaGreatDoorP5
import Derived.Test.YtbeegepcdglcaaaGreatDoorP3
namespace Go.Proofs.YtbeegepcdglcaaaGreatDoor
open K
set_option linter.unusedVariables false
set_option linter.unusedSimpArgs false in
set_option maxRecDepth 100000 in
set_option maxHeartbeats 8000000 in
theorem rBuild (la : Option Addr) (ca : Nat) (ts : List ByteArray) (Rl : List (Nat × Obj)) (w : World) (hI : InS Rl la ts.length (fun j => .string (ts.getD j ByteArray.empty))) (hR : Has w Rl) (hn : ts.length ≤ 2000) (hsz : ∀ s ∈ ts,s.size ≤ 32768) :
  Calls Tryz.prog 8 #[.slice la ts.length ca] w fun e w' => ∃ ow : K.Own,OwnOk ow 66 (planF ts).length ((planF ts).flatMap enr) ∧ e = .returned (.tuple #[.string (tx (fileF (planF ts))),.slice (Own.a ow) (planF ts).length (Own.c ow)]) ∧ ∃ R1,HP w [] R1 (Own.o 49 ((planF ts).flatMap enr) ow) w' := by
 refine enter (vs := [.slice la ts.length ca]) [] Rl [] Tryz.func8 rfl kr (HP.ofHas hR) ?_
 refine Rg [0] [] n0 trivial ?_
 refine Cfg.begL rfl ?_
 refine Lp 1 [] (some [11]) n0 trivial ?_
 refine Le (Eff.callH (vs := [.slice la ts.length ca]) (fun ow : K.Own => .slice (Own.a ow) (srtL ts).length (Own.c ow)) [] (fun ow => Own.o 49 ((srtL ts).flatMap enr) ow) (fun ow => OwnOk ow 66 (srtL ts).length ((srtL ts).flatMap enr)) [] [] rfl rfl Tryz.func19 rfl rfl kr (fun w1 h _ _ => (rSorted la ca ts Rl w1 hI (h.hasR (fun e he => he)) om (fun s hs => Nat.le_trans (hsz s hs) (by decide))).mono fun _ _ ⟨ow,a1,a2,a3⟩ => ⟨ow,a1,a2,a3⟩)) ?_
 rintro ow hok
 refine Lp 1 [] (some [4]) n0 trivial ?_
 refine CfgL.done rfl ?_
 refine Cfg.begL rfl ?_
 refine Lp 3 [] (some [4,15]) n0 trivial ?_
 refine Le (Eff.callA (vs := [.int .u64 (((srtL ts).length : Int) % 18446744073709551616),.int .i64 4]) (.string (beS (srtL ts).length 4)) rfl Tryz.func20 rfl rfl kr (fun w1 _ => rNumMod (srtL ts).length (by have := srtL_len ts; omega) w1)) ?_
 rintro ⟨⟩ -
 refine Lp 2 [] (some [4,5]) (fun _ => [(4 + (beS (srtL ts).length 4).size ≤ 9223372036854775807)]) ⟨(by (try have := mk_len ye.t x.t); (try have := md_size ye.t x.t); (try have hi1 := hxl.id); (try have hi2 := hyel.id); (try have hs9 := shaD_len (bodyF (planF ts))); (try simp only [ByteArray.size_append,tx_size,text4_len,beS_size]); (try simp only [show (⟨#[0]⟩ : ByteArray).size = 1 from rfl,show (⟨#[1]⟩ : ByteArray).size = 1 from rfl,show (⟨#[80,65,67,75]⟩ : ByteArray).size = 4 from rfl]); omega),trivial⟩ ?_
 refine CfgL.done rfl ?_
 obtain ⟨L,hLd⟩ : ∃ L,L = srtL ts := ⟨_,rfl⟩
 have hLl : ∀ e ∈ L,EnL e := fun e he => by rw [hLd] at he; exact srtL_l ts e he
 have hLo : ∀ e ∈ L,EnOk e := fun e he => by rw [hLd,srtL_eq] at he; exact srt_ok hsz e he
 have hLp : ∀ e ∈ L,e.p = 0 := fun e he => by rw [hLd] at he; rw [(srtL_mk0 ts e he).1]; rfl
 have hLn := srtL_len ts
 rw [← hLd] at hok hLn
 refine Cg (Γ' := [(5,[],.string ((⟨#[80,65,67,75]⟩ : ByteArray) ++ (beS (srtL ts).length 4))),(4,[],.slice (Own.a ow) ((srtL ts).length) (Own.c ow))]) ?_
 refine Cfg.setG (congrArg (fun (xq : Nat) => ([(5,[],.string ((⟨#[80,65,67,75]⟩ : ByteArray) ++ (beS (srtL ts).length 4))),(4,[],.slice (Own.a ow) xq (Own.c ow))] : Env)) (show _ = L.length from by rw [hLd])) ?_
 refine Cg (Γ' := [(5,[],.string ((⟨#[80,65,67,75]⟩ : ByteArray) ++ (beS (srtL ts).length 4))),(4,[],.slice (Own.a ow) L.length (Own.c ow))]) ?_
 refine Cfg.setG (congrArg (fun (xq : ByteArray) => ([(5,[],.string xq),(4,[],.slice (Own.a ow) L.length (Own.c ow))] : Env)) (show _ = (tx (bodyP L 0)) from by rw [← hLd]; exact bodyP_zero L)) ?_
 refine Cfg.setO (congrArg (fun (xq : List Value) => (([] ++ (Own.o 49 xq ow ++ [])) : List (Nat × Obj))) (show _ = (L.flatMap enr) from by rw [hLd])) ?_
 refine Rg [4,5,18,19,20] [] n0 trivial ?_
 refine Cfg.loop rfl (ι := Nat) (fun (i : Nat) => [(20,[],.int .i64 (i : Int)),(19,[],.int .i64 (L.length : Int)),(18,[],.slice (Own.a ow) L.length (Own.c ow)),(5,[],.string (tx (bodyP L i))),(4,[],.slice (Own.a ow) L.length (Own.c ow))]) (fun (i : Nat) => ([] ++ (Own.o 49 ((pre L i).flatMap enr) ow ++ []))) (fun (i : Nat) => (i ≤ L.length) ∧ (OwnOk ow 66 L.length ((pre L i).flatMap enr))) (fun (i : Nat) => L.length - i) 0 ?_ (Conv.mk kr) (List.Sublist.refl _) ?_
 ·exact ⟨Nat.zero_le _,by exact hok⟩
 ·rintro i ⟨hi,hok2⟩
  refine Rg [4,5,18,19,20,21] [] n0 trivial ?_
  refine Cfg.cond rfl (b := (decide ((i : Int) < (L.length : Int)))) kr (fun c1r => ?_) (fun c1r => ?_)
  ·have c1 := (of_decide_eq_true c1r)
   have hpl := pre_len L (i := i) om
   have hch := chn_tl L (i := i) om
   obtain ⟨b2,bcs,hba,hbm,hbc⟩ := own_at (e := 49) hok2 om
   obtain ⟨x,hx⟩ : ∃ x,x = L.getD i ez := ⟨_,rfl⟩
   have hxm : x ∈ L := by rw [hx]; exact K.getD_mem om
   have hxl : EnL x := hLl _ hxm
   have hxs : x.t.size ≤ 32768 := (hLo _ hxm).t
   have hxp0 := hLp _ hxm
   have hxp : x = (pre L i).getD i ez := by rw [pre_at om]; exact hx
   have hpre := pre_l hLl i
   have hbl := bodyP_len hLo i
   refine Cg (Γ' := [(21,[],.bool (decide ((i : Int) < (L.length : Int)))),(20,[],.int .i64 (i : Int)),(19,[],.int .i64 (L.length : Int)),(18,[],.slice (Own.a ow) L.length (Own.c ow)),(5,[],.string (tx (bodyP L i))),(4,[],.slice (Own.a ow) L.length (Own.c ow))]) ?_
   refine Cfg.setG (congrArg (fun (xq : Value) => ([(21,[],.bool (decide ((i : Int) < (L.length : Int)))),(20,[],.int .i64 (i : Int)),(19,[],.int .i64 (L.length : Int)),(18,[],xq),(5,[],.string (tx (bodyP L i))),(4,[],.slice (Own.a ow) L.length (Own.c ow))] : Env)) (show _ = .slice (some ⟨b2,0,none⟩) L.length (Own.c ow) from by rw [hba])) ?_
   refine Cg (Γ' := [(21,[],.bool (decide ((i : Int) < (L.length : Int)))),(20,[],.int .i64 (i : Int)),(19,[],.int .i64 (L.length : Int)),(18,[],.slice (some ⟨b2,0,none⟩) L.length (Own.c ow)),(5,[],.string (tx (bodyP L i))),(4,[],.slice (Own.a ow) L.length (Own.c ow))]) ?_
   refine Cfg.setG (congrArg (fun (xq : Value) => ([(21,[],.bool (decide ((i : Int) < (L.length : Int)))),(20,[],.int .i64 (i : Int)),(19,[],.int .i64 (L.length : Int)),(18,[],.slice (some ⟨b2,0,none⟩) L.length (Own.c ow)),(5,[],.string (tx (bodyP L i))),(4,[],xq)] : Env)) (show _ = .slice (some ⟨b2,0,none⟩) L.length (Own.c ow) from by rw [hba])) ?_
   refine Cfg.begL rfl ?_
   refine Lp 3 [dZ,dZ,(0,false,some (.agg (enr x).toArray))] (some [4,5,18,19,20,22,24]) (fun S => [(0 ≤ (i : Int) ∧ (i : Int) < (L.length : Int)),(∀ w1,S w1 → (loadVar 49 ⟨b2,(i * 66),none⟩).run Tryz.prog w1 = .ok (.agg (enr x).toArray) w1)]) ⟨om,(fun w1 h => load_list (vs := enr x) Tryz.underlying49 rfl kr (enr_len hxl) (fun q9 v hq9 => (cell_cells (h.own _ (show _ ∈ (([] ++ (Own.o 49 ((pre L i).flatMap enr) ow ++ [])) : List (Nat × Obj)) from (List.mem_append_right _ (List.mem_append_left _ hbm))))).trans (er_cell hpre hbc (i := i) om (by rw [← hxp]; exact hq9)))),trivial⟩ ?_
   refine Le (Eff.alloc (z := (.agg (enr ez).toArray)) rfl kr) ?_
   rintro xb ⟨hxb,nxb⟩
   refine Lp 1 [] (some [4,5,6,7,18,19,20,24]) n0 trivial ?_
   refine Le (Eff.storeN (b := xb) (off := 0) (vs := (enr x).toArray) (n := 66) rfl kr kr kr (by rw [List.size_toArray,enr_len hxl]) (fun q hq => all_enr _ q hq) 0 (cs := (enr ez).toArray) (e := 49) kr (by rw [zero_er]; decide)) ?_
   rintro ⟨⟩ -
   refine CfgL.setO (congrArg (fun (xq : Array Value) => (([(xb,.cells xq 49 (0,0))] ++ (Own.o 49 ((pre L i).flatMap enr) ow ++ [])) : List (Nat × Obj))) (show _ = ((enr x).toArray) from spl_all (by rw [List.size_toArray,zero_er,enr_len hxl]))) ?_
   refine CfgL.done rfl ?_
   refine Cg (Γ' := [(6,[],.int .i64 (i : Int)),(7,[],.pointer (some ⟨xb,0,none⟩)),(20,[],.int .i64 (i : Int)),(19,[],.int .i64 (L.length : Int)),(18,[],.slice (some ⟨b2,0,none⟩) L.length (Own.c ow)),(5,[],.string (tx (bodyP L i))),(4,[],.slice (some ⟨b2,0,none⟩) L.length (Own.c ow))]) ?_
   refine Rg [4,5,6,7,8,18,19,20] [] n0 trivial ?_
   refine Rg [4,5,6,7,8,9,18,19,20] [] n0 trivial ?_
   refine Cg (Γ' := [(9,[],.int .i64 0),(8,[],.int .i64 (-1)),(6,[],.int .i64 (i : Int)),(7,[],.pointer (some ⟨xb,0,none⟩)),(20,[],.int .i64 (i : Int)),(19,[],.int .i64 (L.length : Int)),(18,[],.slice (some ⟨b2,0,none⟩) L.length (Own.c ow)),(5,[],.string (tx (bodyP L i))),(4,[],.slice (some ⟨b2,0,none⟩) L.length (Own.c ow))]) ?_
   refine Cfg.setG (congrArg (fun (xq : Int) => ([(9,[],.int .i64 0),(8,[],.int .i64 xq),(6,[],.int .i64 (i : Int)),(7,[],.pointer (some ⟨xb,0,none⟩)),(20,[],.int .i64 (i : Int)),(19,[],.int .i64 (L.length : Int)),(18,[],.slice (some ⟨b2,0,none⟩) L.length (Own.c ow)),(5,[],.string (tx (bodyP L i))),(4,[],.slice (some ⟨b2,0,none⟩) L.length (Own.c ow))] : Env)) (show _ = (atZ (atK (chn (L.take i)) x 0)) from by rw [atK_zero]; rfl)) ?_
   refine Cfg.loop rfl (ι := Nat) (fun (k : Nat) => [(9,[],.int .i64 (k : Int)),(8,[],.int .i64 (atZ (atK (chn (L.take i)) x k))),(6,[],.int .i64 (i : Int)),(7,[],.pointer (some ⟨xb,0,none⟩)),(20,[],.int .i64 (i : Int)),(19,[],.int .i64 (L.length : Int)),(18,[],.slice (some ⟨b2,0,none⟩) L.length (Own.c ow)),(5,[],.string (tx (bodyP L i))),(4,[],.slice (some ⟨b2,0,none⟩) L.length (Own.c ow))]) (fun (k : Nat) => ([(xb,.cells ((enr x).toArray) 49 (0,0))] ++ (Own.o 49 ((pre L i).flatMap enr) ow ++ []))) (fun (k : Nat) => (k ≤ i)) (fun (k : Nat) => i - k) 0 ?_ (Conv.mk kr) (List.Sublist.refl _) ?_
   ·exact Nat.zero_le _
   ·rintro k hk
    refine Rg [4,5,6,7,8,9,18,19,20,27] [] n0 trivial ?_
    refine Cfg.cond rfl (b := (decide ((k : Int) < (i : Int)))) kr (fun c2r => ?_) (fun c2r => ?_)
    ·have c2 := (of_decide_eq_true c2r)
     obtain ⟨y,hyd⟩ : ∃ y,y = (chn (L.take i)).getD k ez := ⟨_,rfl⟩
     have hyp : y = (pre L i).getD k ez := by rw [pre_lt om om]; exact hyd
     have hyl : EnL y := by rw [hyp]; exact hpre _ (K.getD_mem om)
     have hzz := @atZ_le (chn (L.take i)) x k
     refine Cfg.regD rfl kr [4,5,6,7,8,9,18,19,20,54] [dZ,(0,false,some (.string x.t)),dZ,dZ,dZ,dZ,dZ,dZ,dZ,(0,false,some (.string y.t)),dZ,dZ,dZ,dZ,dZ,dZ,dZ,dZ,(0,false,some (.string y.t)),dZ,dZ,(0,false,some (.string x.t))] (Γ' := [(54,[],.bool (((decide ((x.t.size : Int) > (0 : Int))) && (decide ((y.t.size : Int) > (0 : Int)))) && ((sbyte y.t (0 : Int)) == (sbyte x.t (0 : Int))))),(9,[],.int .i64 (k : Int)),(8,[],.int .i64 (atZ (atK (chn (L.take i)) x k))),(6,[],.int .i64 (i : Int)),(7,[],.pointer (some ⟨xb,0,none⟩)),(20,[],.int .i64 (i : Int)),(19,[],.int .i64 (L.length : Int)),(18,[],.slice (some ⟨b2,0,none⟩) L.length (Own.c ow)),(5,[],.string (tx (bodyP L i))),(4,[],.slice (some ⟨b2,0,none⟩) L.length (Own.c ow))]) (nd := (fun S => [(∀ w1,S w1 → w1.cell? ⟨xb,32,none⟩ = some (.string x.t)),((.bool (decide ((x.t.size : Int) > (0 : Int))) : Value) = .bool true → (0 ≤ (k : Int) ∧ (k : Int) < (L.length : Int))),((.bool (decide ((x.t.size : Int) > (0 : Int))) : Value) = .bool true → (∀ w1,S w1 → w1.cell? ⟨b2,((k * 66) + 32),none⟩ = some (.string y.t))),((.bool ((decide ((x.t.size : Int) > (0 : Int))) && (decide ((y.t.size : Int) > (0 : Int)))) : Value) = .bool true → (0 ≤ (k : Int) ∧ (k : Int) < (L.length : Int))),((.bool ((decide ((x.t.size : Int) > (0 : Int))) && (decide ((y.t.size : Int) > (0 : Int)))) : Value) = .bool true → (∀ w1,S w1 → w1.cell? ⟨b2,((k * 66) + 32),none⟩ = some (.string y.t))),((.bool ((decide ((x.t.size : Int) > (0 : Int))) && (decide ((y.t.size : Int) > (0 : Int)))) : Value) = .bool true → (0 ≤ (0 : Int) ∧ (0 : Int) < (y.t.size : Int))),((.bool ((decide ((x.t.size : Int) > (0 : Int))) && (decide ((y.t.size : Int) > (0 : Int)))) : Value) = .bool true → (∀ w1,S w1 → w1.cell? ⟨xb,32,none⟩ = some (.string x.t))),((.bool ((decide ((x.t.size : Int) > (0 : Int))) && (decide ((y.t.size : Int) > (0 : Int)))) : Value) = .bool true → (0 ≤ (0 : Int) ∧ (0 : Int) < (x.t.size : Int)))])) kr kr (fun _ => kr) ⟨(fun w1 h => h.ocell 0 rfl (by rw [List.getElem?_toArray]; exact (enr_t hxl))),(fun g0 => have q0 : ((x.t.size : Int) > (0 : Int)) := (of_decide_eq_true (boolV g0)); om),(fun g0 => have q0 : ((x.t.size : Int) > (0 : Int)) := (of_decide_eq_true (boolV g0)); (fun w1 h => (cell_cells (h.own _ (show _ ∈ (([(xb,Obj.cells ((enr x).toArray) 49 (0,0))] ++ (Own.o 49 ((pre L i).flatMap enr) ow ++ [])) : List (Nat × Obj)) from (List.mem_append_right _ (List.mem_append_left _ hbm))))).trans (er_cell hpre hbc (i := k) om (by rw [← hyp]; exact (enr_t hyl))))),(fun g0 => have q0 : (((x.t.size : Int) > (0 : Int)) ∧ ((y.t.size : Int) > (0 : Int))) := ⟨(of_decide_eq_true (andT1 (boolV g0))),(of_decide_eq_true (andT2 (boolV g0)))⟩; om),(fun g0 => have q0 : (((x.t.size : Int) > (0 : Int)) ∧ ((y.t.size : Int) > (0 : Int))) := ⟨(of_decide_eq_true (andT1 (boolV g0))),(of_decide_eq_true (andT2 (boolV g0)))⟩; (fun w1 h => (cell_cells (h.own _ (show _ ∈ (([(xb,Obj.cells ((enr x).toArray) 49 (0,0))] ++ (Own.o 49 ((pre L i).flatMap enr) ow ++ [])) : List (Nat × Obj)) from (List.mem_append_right _ (List.mem_append_left _ hbm))))).trans (er_cell hpre hbc (i := k) om (by rw [← hyp]; exact (enr_t hyl))))),(fun g0 => have q0 : (((x.t.size : Int) > (0 : Int)) ∧ ((y.t.size : Int) > (0 : Int))) := ⟨(of_decide_eq_true (andT1 (boolV g0))),(of_decide_eq_true (andT2 (boolV g0)))⟩; om),(fun g0 => have q0 : (((x.t.size : Int) > (0 : Int)) ∧ ((y.t.size : Int) > (0 : Int))) := ⟨(of_decide_eq_true (andT1 (boolV g0))),(of_decide_eq_true (andT2 (boolV g0)))⟩; (fun w1 h => h.ocell 0 rfl (by rw [List.getElem?_toArray]; exact (enr_t hxl)))),(fun g0 => have q0 : (((x.t.size : Int) > (0 : Int)) ∧ ((y.t.size : Int) > (0 : Int))) := ⟨(of_decide_eq_true (andT1 (boolV g0))),(of_decide_eq_true (andT2 (boolV g0)))⟩; om),trivial⟩ ?_
     refine Cfg.cond rfl (b := (((decide ((x.t.size : Int) > (0 : Int))) && (decide ((y.t.size : Int) > (0 : Int)))) && ((sbyte y.t (0 : Int)) == (sbyte x.t (0 : Int))))) kr (fun c3r => ?_) (fun c3r => ?_)
     ·have c3 : ((((x.t.size : Int) > (0 : Int)) ∧ ((y.t.size : Int) > (0 : Int))) ∧ ((sbyte y.t (0 : Int)) = (sbyte x.t (0 : Int)))) := ⟨⟨(of_decide_eq_true (andT1 (andT1 c3r))),(of_decide_eq_true (andT2 (andT1 c3r)))⟩,(beq_iff_eq.1 (andT2 c3r))⟩
      refine Rg [4,5,6,7,8,9,18,19,20] [] n0 trivial ?_
      refine Rg [4,5,6,7,8,9,18,19,20] [] (fun _ => [((-9223372036854775808 : Int) ≤ ((k : Int) + 1) ∧ ((k : Int) + 1) ≤ 9223372036854775807)]) ⟨om,trivial⟩ ?_
      have hat : atK (chn (L.take i)) x (k + 1) = some k := by
       rw [atK_succ om,← hyd]
       have c9 := c3
       simp only [Bool.and_eq_true,decide_eq_true_eq,beq_iff_eq,sb_fb,gt_iff_lt] at c9
       exact if_pos om
      refine Cg (Γ' := [(9,[],.int .i64 ((k : Int) + 1)),(8,[],.int .i64 (k : Int)),(6,[],.int .i64 (i : Int)),(7,[],.pointer (some ⟨xb,0,none⟩)),(20,[],.int .i64 (i : Int)),(19,[],.int .i64 (L.length : Int)),(18,[],.slice (some ⟨b2,0,none⟩) L.length (Own.c ow)),(5,[],.string (tx (bodyP L i))),(4,[],.slice (some ⟨b2,0,none⟩) L.length (Own.c ow))]) ?_
      refine Cfg.setG (congrArg (fun (xq : Int) => ([(9,[],.int .i64 ((k : Int) + 1)),(8,[],.int .i64 xq),(6,[],.int .i64 (i : Int)),(7,[],.pointer (some ⟨xb,0,none⟩)),(20,[],.int .i64 (i : Int)),(19,[],.int .i64 (L.length : Int)),(18,[],.slice (some ⟨b2,0,none⟩) L.length (Own.c ow)),(5,[],.string (tx (bodyP L i))),(4,[],.slice (some ⟨b2,0,none⟩) L.length (Own.c ow))] : Env)) (show _ = (atZ (atK (chn (L.take i)) x (k + 1))) from by rw [hat]; rfl)) ?_
      refine Cfg.again rfl (k + 1) (show k + 1 ≤ i by omega) om (Conv.mk kr) (.cons_cons _ (List.Sublist.refl _))
     ·have c3 : (((¬ ((x.t.size : Int) > (0 : Int))) ∨ (¬ ((y.t.size : Int) > (0 : Int)))) ∨ ((sbyte y.t (0 : Int)) ≠ (sbyte x.t (0 : Int)))) := ((andF c3r).elim (fun h => Or.inl ((andF h).elim (fun h => Or.inl (of_decide_eq_false h)) (fun h => Or.inr (of_decide_eq_false h)))) (fun h => Or.inr (beq_eq_false_iff_ne.1 h)))
      refine Rg [4,5,6,7,8,9,18,19,20] [] (fun _ => [((-9223372036854775808 : Int) ≤ ((k : Int) + 1) ∧ ((k : Int) + 1) ≤ 9223372036854775807)]) ⟨om,trivial⟩ ?_
      have hat : atK (chn (L.take i)) x (k + 1) = atK (chn (L.take i)) x k := by
       rw [atK_succ om,← hyd]
       have c9 := c3
       simp only [Bool.and_eq_true,decide_eq_true_eq,beq_iff_eq,sb_fb,gt_iff_lt] at c9
       exact if_neg om
      refine Cg (Γ' := [(9,[],.int .i64 ((k : Int) + 1)),(8,[],.int .i64 (atZ (atK (chn (L.take i)) x k))),(6,[],.int .i64 (i : Int)),(7,[],.pointer (some ⟨xb,0,none⟩)),(20,[],.int .i64 (i : Int)),(19,[],.int .i64 (L.length : Int)),(18,[],.slice (some ⟨b2,0,none⟩) L.length (Own.c ow)),(5,[],.string (tx (bodyP L i))),(4,[],.slice (some ⟨b2,0,none⟩) L.length (Own.c ow))]) ?_
      refine Cfg.setG (congrArg (fun (xq : Int) => ([(9,[],.int .i64 ((k : Int) + 1)),(8,[],.int .i64 xq),(6,[],.int .i64 (i : Int)),(7,[],.pointer (some ⟨xb,0,none⟩)),(20,[],.int .i64 (i : Int)),(19,[],.int .i64 (L.length : Int)),(18,[],.slice (some ⟨b2,0,none⟩) L.length (Own.c ow)),(5,[],.string (tx (bodyP L i))),(4,[],.slice (some ⟨b2,0,none⟩) L.length (Own.c ow))] : Env)) (show _ = (atZ (atK (chn (L.take i)) x (k + 1))) from by rw [hat])) ?_
      refine Cfg.again rfl (k + 1) (show k + 1 ≤ i by omega) om (Conv.mk kr) (.cons_cons _ (List.Sublist.refl _))
    ·have c2 := (of_decide_eq_false c2r)
     have hki : k = i := by omega
     refine Cg (Γ' := [(27,[],.bool (decide ((k : Int) < (i : Int)))),(9,[],.int .i64 (k : Int)),(8,[],.int .i64 (atZ (atK (chn (L.take i)) x k))),(6,[],.int .i64 (i : Int)),(7,[],.pointer (some ⟨xb,0,none⟩)),(20,[],.int .i64 (i : Int)),(19,[],.int .i64 (L.length : Int)),(18,[],.slice (some ⟨b2,0,none⟩) L.length (Own.c ow)),(5,[],.string (tx (bodyP L i))),(4,[],.slice (some ⟨b2,0,none⟩) L.length (Own.c ow))]) ?_
     refine Cfg.setG (congrArg (fun (xq : Int) => ([(27,[],.bool (decide ((k : Int) < (i : Int)))),(9,[],.int .i64 (k : Int)),(8,[],.int .i64 xq),(6,[],.int .i64 (i : Int)),(7,[],.pointer (some ⟨xb,0,none⟩)),(20,[],.int .i64 (i : Int)),(19,[],.int .i64 (L.length : Int)),(18,[],.slice (some ⟨b2,0,none⟩) L.length (Own.c ow)),(5,[],.string (tx (bodyP L i))),(4,[],.slice (some ⟨b2,0,none⟩) L.length (Own.c ow))] : Env)) (show _ = (atZ (atK (chn (L.take i)) x i)) from by rw [hki])) ?_
     refine Cfg.begL rfl ?_
     refine Lp 3 [dZ,dZ,(0,false,some (.agg (bv x.id)))] (some [4,5,6,7,8,18,19,20,56,58]) (fun S => [(∀ w1,S w1 → (loadVar 36 ⟨xb,0,none⟩).run Tryz.prog w1 = .ok (.agg (bv x.id)) w1)]) ⟨(fun w1 h => load_list (vs := dgc x.id) Tryz.underlying36 rfl kr (dgc_len hxl.id) (fun q9 v hq9 => h.ocell 0 rfl (by rw [List.getElem?_toArray]; exact enr_id hq9))),trivial⟩ ?_
     refine Le (Eff.callA (vs := [.agg (bv x.id)]) (.string (tx x.id)) rfl Tryz.func11 rfl rfl kr (fun w1 _ => rDigest x.id w1 hxl.id)) ?_
     rintro ⟨⟩ -
     refine Lp 2 [] (some [4,5,6,7,8,18,19,20]) (fun _ => [((tx (bodyP L i)).size + (tx x.id).size ≤ 9223372036854775807)]) ⟨(by (try have := mk_len ye.t x.t); (try have := md_size ye.t x.t); (try have hi1 := hxl.id); (try have hi2 := hyel.id); (try have hs9 := shaD_len (bodyF (planF ts))); (try simp only [ByteArray.size_append,tx_size,text4_len,beS_size]); (try simp only [show (⟨#[0]⟩ : ByteArray).size = 1 from rfl,show (⟨#[1]⟩ : ByteArray).size = 1 from rfl,show (⟨#[80,65,67,75]⟩ : ByteArray).size = 4 from rfl]); omega),trivial⟩ ?_
     refine CfgL.done rfl ?_
     by_cases hlf : (atK (chn (L.take i)) x i).isSome = true
     ·
      have hae := atK_end (acc := (chn (L.take i))) (x := x) (k := i) om
      obtain ⟨j,hj⟩ := Option.isSome_iff_exists.1 hlf
      rw [hj] at hae
      have hx0 : ¬ x.t.size = 0 := fun h => by rw [if_pos h] at hae; cases hae
      rw [if_neg hx0] at hae
      have hae := hae.symm
      have hjl := lst_lt hae
      rw [hch] at hjl
      obtain ⟨ye,hye⟩ : ∃ y,y = (chn (L.take i)).getD j ez := ⟨_,rfl⟩
      have hyep : ye = (pre L i).getD j ez := by rw [pre_lt om hjl]; exact hye
      have hyel : EnL ye := by rw [hyep]; exact hpre _ (K.getD_mem om)
      have hyes : ye.t.size ≤ 32768 := by
       have h1 : ye ∈ (chn (L.take i)) := by rw [hye]; exact K.getD_mem om
       exact (chn_ok (L.take i) (fun e he => hLo e (List.mem_of_mem_take he)) _ h1).t
      refine Cg (Γ' := [(5,[],.string ((tx (bodyP L i)) ++ (tx x.id))),(8,[],.int .i64 (atZ (atK (chn (L.take i)) x i))),(6,[],.int .i64 (i : Int)),(7,[],.pointer (some ⟨xb,0,none⟩)),(20,[],.int .i64 (i : Int)),(19,[],.int .i64 (L.length : Int)),(18,[],.slice (some ⟨b2,0,none⟩) L.length (Own.c ow)),(4,[],.slice (some ⟨b2,0,none⟩) L.length (Own.c ow))]) ?_
      refine Cfg.setG (congrArg (fun (xq : Int) => ([(5,[],.string ((tx (bodyP L i)) ++ (tx x.id))),(8,[],.int .i64 xq),(6,[],.int .i64 (i : Int)),(7,[],.pointer (some ⟨xb,0,none⟩)),(20,[],.int .i64 (i : Int)),(19,[],.int .i64 (L.length : Int)),(18,[],.slice (some ⟨b2,0,none⟩) L.length (Own.c ow)),(4,[],.slice (some ⟨b2,0,none⟩) L.length (Own.c ow))] : Env)) (show _ = (j : Int) from by rw [hj]; rfl)) ?_
      refine Rg [4,5,6,7,8,18,19,20,70] [dZ,dZ,dZ,dZ,dZ,dZ,dZ,(0,false,some (.int .i64 (ye.p : Int)))] (fun S => [((.bool (decide ((j : Int) ≥ (0 : Int))) : Value) = .bool true → (0 ≤ (j : Int) ∧ (j : Int) < (L.length : Int))),((.bool (decide ((j : Int) ≥ (0 : Int))) : Value) = .bool true → (∀ w1,S w1 → w1.cell? ⟨b2,((j * 66) + 33),none⟩ = some (.int .i64 (ye.p : Int))))]) ⟨(fun g0 => have q0 : ((j : Int) ≥ (0 : Int)) := (of_decide_eq_true (boolV g0)); om),(fun g0 => have q0 : ((j : Int) ≥ (0 : Int)) := (of_decide_eq_true (boolV g0)); (fun w1 h => (cell_cells (h.own _ (show _ ∈ (([(xb,Obj.cells ((enr x).toArray) 49 (0,0))] ++ (Own.o 49 ((pre L i).flatMap enr) ow ++ [])) : List (Nat × Obj)) from (List.mem_append_right _ (List.mem_append_left _ hbm))))).trans (er_cell hpre hbc (i := j) om (by rw [← hyep]; exact (enr_p hyel))))),trivial⟩ ?_
      refine Cfg.cond rfl (b := ((decide ((j : Int) ≥ (0 : Int))) && (decide ((ye.p : Int) < (4 : Int))))) kr (fun c4r => ?_) (fun c4r => ?_)
      ·have c4 : (((j : Int) ≥ (0 : Int)) ∧ ((ye.p : Int) < (4 : Int))) := ⟨(of_decide_eq_true (andT1 c4r)),(of_decide_eq_true (andT2 c4r))⟩
       refine Cfg.begA rfl kr ([(xb,.cells ((enr x).toArray) 49 (0,0))] ++ (Own.o 49 ((pre L i).flatMap enr) ow ++ [])) ?_
       refine Ap [0,1,2,3,4,5,6] [dZ,dZ,dZ,dZ,(0,false,some (.string ye.t)),dZ,(0,false,some (.string x.t))] (some [4,5,6,7,8,18,19,20,75,77]) #[true,true,true,true,true,true,true,false,false] (.cons_cons _ (List.Sublist.refl _)) 2 (fun S => [(0 ≤ (j : Int) ∧ (j : Int) < (L.length : Int)),(∀ w1,S w1 → w1.cell? ⟨b2,((j * 66) + 32),none⟩ = some (.string ye.t)),(∀ w1,S w1 → w1.cell? ⟨xb,32,none⟩ = some (.string x.t))]) ⟨om,(fun w1 h => (cell_cells (h.own _ (show _ ∈ (([(xb,Obj.cells ((enr x).toArray) 49 (0,0))] ++ (Own.o 49 ((pre L i).flatMap enr) ow ++ [])) : List (Nat × Obj)) from (List.mem_append_right _ (List.mem_append_left _ hbm))))).trans (er_cell hpre hbc (i := j) om (by rw [← hyep]; exact (enr_t hyel)))),(fun w1 h => h.ocell 0 rfl (by rw [List.getElem?_toArray]; exact (enr_t hxl))),trivial⟩ ?_
       refine Ae 7 rfl 1  (Eff.callA (vs := [.string ye.t,.string x.t]) (.string (tx (mk ye.t x.t))) rfl Tryz.func21 rfl rfl kr (fun w1 _ => rMake ye.t x.t w1 om om)) (fun _ _ => (.cons_cons _ (List.Sublist.refl _))) ?_
       rintro ⟨⟩ -
       refine Ap [8] [] (some [4,5,6,7,8,10,18,19,20]) #[true,true,true,true,true,true,true,true,true] (.cons_cons _ (List.Sublist.refl _)) 0 n0 trivial ?_
       refine CfgA.done kr ?_
       refine Rg [4,5,6,7,8,10,18,19,20,85] [dZ,(0,false,some (.string x.t))] (fun S => [(∀ w1,S w1 → w1.cell? ⟨xb,32,none⟩ = some (.string x.t)),((-9223372036854775808 : Int) ≤ ((x.t.size : Int) - ((tx (mk ye.t x.t)).size : Int)) ∧ ((x.t.size : Int) - ((tx (mk ye.t x.t)).size : Int)) ≤ 9223372036854775807)]) ⟨(fun w1 h => h.ocell 0 rfl (by rw [List.getElem?_toArray]; exact (enr_t hxl))),(by (try have := mk_len ye.t x.t); (try have := md_size ye.t x.t); (try have hi1 := hxl.id); (try have hi2 := hyel.id); (try have hs9 := shaD_len (bodyF (planF ts))); (try simp only [ByteArray.size_append,tx_size,text4_len,beS_size]); (try simp only [show (⟨#[0]⟩ : ByteArray).size = 1 from rfl,show (⟨#[1]⟩ : ByteArray).size = 1 from rfl,show (⟨#[80,65,67,75]⟩ : ByteArray).size = 4 from rfl]); omega),trivial⟩ ?_
       refine Cfg.cond rfl (b := (decide (((x.t.size : Int) - ((tx (mk ye.t x.t)).size : Int)) ≥ (32 : Int)))) kr (fun c5r => ?_) (fun c5r => ?_)
       ·have c5 := (of_decide_eq_true c5r)
        rw [tx_size] at c5
        obtain ⟨z,hz⟩ : ∃ z,z = (⟨x.id,x.t,ye.id,tx (mk ye.t x.t),ye.p + 1⟩ : En) := ⟨_,rfl⟩
        have hzl : EnL z := by rw [hz]; exact ⟨hxl.id,hyel.id⟩
        have hmk : mkE (chn (L.take i)) x = z := by rw [hz,mkE_some hx0 hae (by rw [← hye]; omega) (by rw [← hye]; omega),← hye]
        have hb1 := hbm
        have hc1 := hbc
        refine Cfg.begL rfl ?_
        refine Lp 10 [dZ,dZ,dZ,dZ,dZ,dZ,(0,false,some (.int .i64 (ye.p : Int)))] (some [4,5,6,8,10,18,19,20,93,95]) (fun S => [(0 ≤ (j : Int) ∧ (j : Int) < (L.length : Int)),(∀ w1,S w1 → w1.cell? ⟨b2,((j * 66) + 33),none⟩ = some (.int .i64 (ye.p : Int))),((-9223372036854775808 : Int) ≤ ((ye.p : Int) + 1) ∧ ((ye.p : Int) + 1) ≤ 9223372036854775807),(0 ≤ (i : Int) ∧ (i : Int) < (L.length : Int))]) ⟨om,(fun w1 h => (cell_cells (h.own _ (show _ ∈ (([(xb,Obj.cells ((enr x).toArray) 49 (0,0))] ++ (Own.o 49 ((pre L i).flatMap enr) ow ++ [])) : List (Nat × Obj)) from (List.mem_append_right _ (List.mem_append_left _ hbm))))).trans (er_cell hpre hbc (i := j) om (by rw [← hyep]; exact (enr_p hyel)))),om,om,trivial⟩ ?_
        refine Le (Eff.storeOwn1 (b := b2) (off := i * 66 + 33) (v := .int .i64 ((ye.p : Int) + 1)) rfl (ow := ow) (e := 49) (xs := ((pre L i).flatMap enr)) hba kr kr rfl kr [(xb,.cells ((enr x).toArray) 49 (0,0))] [] rfl (by rw [enrl_len hpre,hpl]; omega)) ?_
        rintro ⟨⟩ -
        refine CfgL.done rfl ?_
        refine Cg (Γ' := [(10,[],.string (tx (mk ye.t x.t))),(5,[],.string ((tx (bodyP L i)) ++ (tx x.id))),(8,[],.int .i64 (j : Int)),(6,[],.int .i64 (i : Int)),(20,[],.int .i64 (i : Int)),(19,[],.int .i64 (L.length : Int)),(18,[],.slice (some ⟨b2,0,none⟩) L.length (Own.c ow)),(4,[],.slice (some ⟨b2,0,none⟩) L.length (Own.c ow))]) ?_
        obtain ⟨Q1,hQ1⟩ : ∃ Q,Q = (pre L i).set i ({ x with p := ye.p + 1 } : En) := ⟨_,rfl⟩
        have hq1 : ∀ e ∈ Q1,EnL e := by rw [hQ1]; exact set_l hpre ⟨hxl.id,hxl.b⟩
        have hq1n : Q1.length = L.length := by rw [hQ1,List.length_set]; exact hpl
        have hq1j : ye = Q1.getD j ez := by rw [hQ1,set_ne om]; exact hyep
        have hq1i : Q1.getD i ez = ({ x with p := ye.p + 1 } : En) := by rw [hQ1,set_at om]
        refine Cfg.setO (congrArg (fun (xq : List Value) => (([(xb,.cells ((enr x).toArray) 49 (0,0))] ++ (Own.o 49 xq ow ++ [])) : List (Nat × Obj))) (show _ = (Q1.flatMap enr) from by rw [hQ1]; exact er_set hpre om (by rw [← hxp]; exact enr_setp x hxl ye.p) (by show 33 + 1 ≤ 66; decide))) ?_
        have hok3 : OwnOk ow 66 L.length (Q1.flatMap enr) := okLen hok2 (by rw [enrl_len hq1,enrl_len hpre,hq1n,hpl])
        obtain ⟨b3,bcs3,hba3,hbm3,hbc3⟩ := own_at (e := 49) hok3 om
        have hb32 : b3 = b2 := by rw [hba] at hba3; simpa using hba3.symm
        rw [hb32] at hbm3
        refine Cfg.begL rfl ?_
        refine Lp 9 [dZ,dZ,dZ,dZ,dZ,dZ,(0,false,some (.agg (bv ye.id)))] (some [4,5,8,10,18,19,20,102,104]) (fun S => [(0 ≤ (j : Int) ∧ (j : Int) < (L.length : Int)),(∀ w1,S w1 → (loadVar 36 ⟨b2,(j * 66),none⟩).run Tryz.prog w1 = .ok (.agg (bv ye.id)) w1),(0 ≤ (i : Int) ∧ (i : Int) < (L.length : Int))]) ⟨om,(fun w1 h => load_list (vs := dgc ye.id) Tryz.underlying36 rfl kr (dgc_len hyel.id) (fun q9 v hq9 => by exact (cell_cells (h.own _ (show _ ∈ (([(xb,Obj.cells ((enr x).toArray) 49 (0,0))] ++ (Own.o 49 (Q1.flatMap enr) ow ++ [])) : List (Nat × Obj)) from (List.mem_append_right _ (List.mem_append_left _ hbm3))))).trans (er_cell hq1 hbc3 (i := j) om (by rw [← hq1j]; exact app_l hq9)))),om,trivial⟩ ?_
        refine Le (Eff.storeOwn (b := b2) (off := i * 66 + 34) (vs := (bv ye.id)) (n := 32) rfl (ow := ow) (e := 49) (xs := (Q1.flatMap enr)) hba kr kr kr ((bv_size _).trans hyel.id) (all_bv _) [(xb,.cells ((enr x).toArray) 49 (0,0))] [] rfl (by rw [enrl_len hq1,hq1n]; omega)) ?_
        rintro ⟨⟩ -
        refine CfgL.done rfl ?_
        refine Cg (Γ' := [(10,[],.string (tx (mk ye.t x.t))),(5,[],.string ((tx (bodyP L i)) ++ (tx x.id))),(8,[],.int .i64 (j : Int)),(20,[],.int .i64 (i : Int)),(19,[],.int .i64 (L.length : Int)),(18,[],.slice (some ⟨b2,0,none⟩) L.length (Own.c ow)),(4,[],.slice (some ⟨b2,0,none⟩) L.length (Own.c ow))]) ?_
        have hps : (Q1.set i ({ x with p := ye.p + 1,b := ye.id } : En)).flatMap enr = (pre L (i + 1)).flatMap enr := by
         rw [pre_step (y := z) om (by rw [← hx]; exact hmk),hQ1,List.set_set]
         exact set_enr (by rw [hz]; rfl) om
        have hpre2 := pre_l hLl (i + 1)
        have hpl2 := pre_len L (i := i + 1) om
        refine Cfg.setO (congrArg (fun (xq : List Value) => (([(xb,.cells ((enr x).toArray) 49 (0,0))] ++ (Own.o 49 xq ow ++ [])) : List (Nat × Obj))) (show _ = ((pre L (i + 1)).flatMap enr) from by rw [← hps]; exact er_set hq1 om (by rw [hq1i]; exact enr_setb ({ x with p := ye.p + 1 } : En) ⟨hxl.id,hxl.b⟩ hyel.id) (by rw [show (bv ye.id).toList = dgc ye.id from rfl,dgc_len hyel.id]; decide))) ?_
        have hok4 : OwnOk ow 66 L.length ((pre L (i + 1)).flatMap enr) := okLen hok2 (by rw [enrl_len hpre2,enrl_len hpre,hpl2,hpl])
        obtain ⟨b4,bcs4,hba4,hbm4,hbc4⟩ := own_at (e := 49) hok4 om
        have hb42 : b4 = b2 := by rw [hba] at hba4; simpa using hba4.symm
        rw [hb42] at hbm4
        have hq4j : ye = (pre L (i + 1)).getD j ez := by rw [pre_step (y := z) om (by rw [← hx]; exact hmk),set_ne om]; exact hyep
        refine Cfg.begL rfl ?_
        refine Lp 7 [dZ,dZ,dZ,dZ,dZ,dZ,(0,false,some (.agg (bv ye.id)))] (some [4,5,10,18,19,20,106,111]) (fun S => [(((tx (bodyP L i)) ++ (tx x.id)).size + 1 ≤ 9223372036854775807),(0 ≤ (j : Int) ∧ (j : Int) < (L.length : Int)),(∀ w1,S w1 → (loadVar 36 ⟨b2,(j * 66),none⟩).run Tryz.prog w1 = .ok (.agg (bv ye.id)) w1)]) ⟨(by (try have := mk_len ye.t x.t); (try have := md_size ye.t x.t); (try have hi1 := hxl.id); (try have hi2 := hyel.id); (try have hs9 := shaD_len (bodyF (planF ts))); (try simp only [ByteArray.size_append,tx_size,text4_len,beS_size]); (try simp only [show (⟨#[0]⟩ : ByteArray).size = 1 from rfl,show (⟨#[1]⟩ : ByteArray).size = 1 from rfl,show (⟨#[80,65,67,75]⟩ : ByteArray).size = 4 from rfl]); omega),om,(fun w1 h => load_list (vs := dgc ye.id) Tryz.underlying36 rfl kr (dgc_len hyel.id) (fun q9 v hq9 => by exact (cell_cells (h.own _ (show _ ∈ (([(xb,Obj.cells ((enr x).toArray) 49 (0,0))] ++ (Own.o 49 ((pre L (i + 1)).flatMap enr) ow ++ [])) : List (Nat × Obj)) from (List.mem_append_right _ (List.mem_append_left _ hbm4))))).trans (er_cell hpre2 hbc4 (i := j) om (by rw [← hq4j]; exact app_l hq9)))),trivial⟩ ?_
        refine Le (Eff.callA (vs := [.agg (bv ye.id)]) (.string (tx ye.id)) rfl Tryz.func11 rfl rfl kr (fun w1 _ => rDigest ye.id w1 hyel.id)) ?_
        rintro ⟨⟩ -
        refine Lp 2 [] (some [4,5,18,19,20,113,114]) (fun _ => [((((tx (bodyP L i)) ++ (tx x.id)) ++ (⟨#[1]⟩ : ByteArray)).size + (tx ye.id).size ≤ 9223372036854775807)]) ⟨(by (try have := mk_len ye.t x.t); (try have := md_size ye.t x.t); (try have hi1 := hxl.id); (try have hi2 := hyel.id); (try have hs9 := shaD_len (bodyF (planF ts))); (try simp only [ByteArray.size_append,tx_size,text4_len,beS_size]); (try simp only [show (⟨#[0]⟩ : ByteArray).size = 1 from rfl,show (⟨#[1]⟩ : ByteArray).size = 1 from rfl,show (⟨#[80,65,67,75]⟩ : ByteArray).size = 4 from rfl]); omega),trivial⟩ ?_
        refine Le (Eff.callA (vs := [.string (tx (mk ye.t x.t))]) (.string (tx (text4 (tx (mk ye.t x.t))))) rfl Tryz.func22 rfl rfl kr (fun w1 _ => rText (tx (mk ye.t x.t)) w1 (by have := mk_len ye.t x.t; have := md_size ye.t x.t; rw [tx_size]; omega))) ?_
        rintro ⟨⟩ -
        refine Lp 2 [] (some [4,5,18,19,20]) (fun _ => [(((((tx (bodyP L i)) ++ (tx x.id)) ++ (⟨#[1]⟩ : ByteArray)) ++ (tx ye.id)).size + (tx (text4 (tx (mk ye.t x.t)))).size ≤ 9223372036854775807)]) ⟨(by (try have := mk_len ye.t x.t); (try have := md_size ye.t x.t); (try have hi1 := hxl.id); (try have hi2 := hyel.id); (try have hs9 := shaD_len (bodyF (planF ts))); (try simp only [ByteArray.size_append,tx_size,text4_len,beS_size]); (try simp only [show (⟨#[0]⟩ : ByteArray).size = 1 from rfl,show (⟨#[1]⟩ : ByteArray).size = 1 from rfl,show (⟨#[80,65,67,75]⟩ : ByteArray).size = 4 from rfl]); omega),trivial⟩ ?_
        refine CfgL.done rfl ?_
        refine Rg [4,5,18,19,20] [] (fun _ => [((-9223372036854775808 : Int) ≤ ((i : Int) + 1) ∧ ((i : Int) + 1) ≤ 9223372036854775807)]) ⟨om,trivial⟩ ?_
        refine Cg (Γ' := [(20,[],.int .i64 ((i : Int) + 1)),(5,[],.string (((((tx (bodyP L i)) ++ (tx x.id)) ++ (⟨#[1]⟩ : ByteArray)) ++ (tx ye.id)) ++ (tx (text4 (tx (mk ye.t x.t)))))),(19,[],.int .i64 (L.length : Int)),(18,[],.slice (some ⟨b2,0,none⟩) L.length (Own.c ow)),(4,[],.slice (some ⟨b2,0,none⟩) L.length (Own.c ow))]) ?_
        refine Cfg.setG (congrArg (fun (xq : Value) => ([(20,[],.int .i64 ((i : Int) + 1)),(5,[],.string (((((tx (bodyP L i)) ++ (tx x.id)) ++ (⟨#[1]⟩ : ByteArray)) ++ (tx ye.id)) ++ (tx (text4 (tx (mk ye.t x.t)))))),(19,[],.int .i64 (L.length : Int)),(18,[],xq),(4,[],.slice (some ⟨b2,0,none⟩) L.length (Own.c ow))] : Env)) (show _ = .slice (Own.a ow) L.length (Own.c ow) from by rw [hba])) ?_
        refine Cg (Γ' := [(20,[],.int .i64 ((i : Int) + 1)),(5,[],.string (((((tx (bodyP L i)) ++ (tx x.id)) ++ (⟨#[1]⟩ : ByteArray)) ++ (tx ye.id)) ++ (tx (text4 (tx (mk ye.t x.t)))))),(19,[],.int .i64 (L.length : Int)),(18,[],.slice (Own.a ow) L.length (Own.c ow)),(4,[],.slice (some ⟨b2,0,none⟩) L.length (Own.c ow))]) ?_
        refine Cfg.setG (congrArg (fun (xq : Value) => ([(20,[],.int .i64 ((i : Int) + 1)),(5,[],.string (((((tx (bodyP L i)) ++ (tx x.id)) ++ (⟨#[1]⟩ : ByteArray)) ++ (tx ye.id)) ++ (tx (text4 (tx (mk ye.t x.t)))))),(19,[],.int .i64 (L.length : Int)),(18,[],.slice (Own.a ow) L.length (Own.c ow)),(4,[],xq)] : Env)) (show _ = .slice (Own.a ow) L.length (Own.c ow) from by rw [hba])) ?_
        refine Cg (Γ' := [(20,[],.int .i64 ((i : Int) + 1)),(5,[],.string (((((tx (bodyP L i)) ++ (tx x.id)) ++ (⟨#[1]⟩ : ByteArray)) ++ (tx ye.id)) ++ (tx (text4 (tx (mk ye.t x.t)))))),(19,[],.int .i64 (L.length : Int)),(18,[],.slice (Own.a ow) L.length (Own.c ow)),(4,[],.slice (Own.a ow) L.length (Own.c ow))]) ?_
        refine Cfg.setG (congrArg (fun (xq : ByteArray) => ([(20,[],.int .i64 ((i : Int) + 1)),(5,[],.string xq),(19,[],.int .i64 (L.length : Int)),(18,[],.slice (Own.a ow) L.length (Own.c ow)),(4,[],.slice (Own.a ow) L.length (Own.c ow))] : Env)) (show _ = (tx (bodyP L (i + 1))) from by have h9 := bodyP_d om hx hmk (by rw [hz]; exact Nat.succ_pos _) (by rw [hz]); rw [hz] at h9; exact h9)) ?_
        refine Cfg.again rfl (i + 1) ⟨by omega,hok4⟩ (by show L.length - (i + 1) < L.length - i; omega) (Conv.mk kr) (.cons _ (List.Sublist.refl _))
       ·have c5 := (of_decide_eq_false c5r)
        rw [tx_size] at c5
        refine Cfg.begL rfl ?_
        refine Lp 4 [dZ,dZ,dZ,(0,false,some (.string x.t))] (some [4,5,18,19,20,118,120]) (fun S => [(((tx (bodyP L i)) ++ (tx x.id)).size + 1 ≤ 9223372036854775807),(∀ w1,S w1 → w1.cell? ⟨xb,32,none⟩ = some (.string x.t))]) ⟨(by (try have := mk_len ye.t x.t); (try have := md_size ye.t x.t); (try have hi1 := hxl.id); (try have hi2 := hyel.id); (try have hs9 := shaD_len (bodyF (planF ts))); (try simp only [ByteArray.size_append,tx_size,text4_len,beS_size]); (try simp only [show (⟨#[0]⟩ : ByteArray).size = 1 from rfl,show (⟨#[1]⟩ : ByteArray).size = 1 from rfl,show (⟨#[80,65,67,75]⟩ : ByteArray).size = 4 from rfl]); omega),(fun w1 h => h.ocell 0 rfl (by rw [List.getElem?_toArray]; exact (enr_t hxl))),trivial⟩ ?_
        refine Le (Eff.callA (vs := [.string x.t]) (.string (tx (text4 x.t))) rfl Tryz.func22 rfl rfl kr (fun w1 _ => rText x.t w1 om)) ?_
        rintro ⟨⟩ -
        refine Lp 2 [] (some [4,5,18,19,20]) (fun _ => [((((tx (bodyP L i)) ++ (tx x.id)) ++ (⟨#[0]⟩ : ByteArray)).size + (tx (text4 x.t)).size ≤ 9223372036854775807)]) ⟨(by (try have := mk_len ye.t x.t); (try have := md_size ye.t x.t); (try have hi1 := hxl.id); (try have hi2 := hyel.id); (try have hs9 := shaD_len (bodyF (planF ts))); (try simp only [ByteArray.size_append,tx_size,text4_len,beS_size]); (try simp only [show (⟨#[0]⟩ : ByteArray).size = 1 from rfl,show (⟨#[1]⟩ : ByteArray).size = 1 from rfl,show (⟨#[80,65,67,75]⟩ : ByteArray).size = 4 from rfl]); omega),trivial⟩ ?_
        refine CfgL.done rfl ?_
        refine Rg [4,5,18,19,20] [] (fun _ => [((-9223372036854775808 : Int) ≤ ((i : Int) + 1) ∧ ((i : Int) + 1) ≤ 9223372036854775807)]) ⟨om,trivial⟩ ?_
        have hmk : mkE (chn (L.take i)) x = x := mkE_far hx0 hae (by rw [← hye]; omega)
        have hps := pre_same (L := L) (i := i) om (by rw [← hx]; exact hmk)
        refine Cfg.setO (congrArg (fun (xq : List Value) => (([(xb,.cells ((enr x).toArray) 49 (0,0))] ++ (Own.o 49 xq ow ++ [])) : List (Nat × Obj))) (show _ = ((pre L (i + 1)).flatMap enr) from by rw [hps])) ?_
        refine Cg (Γ' := [(20,[],.int .i64 ((i : Int) + 1)),(5,[],.string ((((tx (bodyP L i)) ++ (tx x.id)) ++ (⟨#[0]⟩ : ByteArray)) ++ (tx (text4 x.t)))),(19,[],.int .i64 (L.length : Int)),(18,[],.slice (some ⟨b2,0,none⟩) L.length (Own.c ow)),(4,[],.slice (some ⟨b2,0,none⟩) L.length (Own.c ow))]) ?_
        refine Cfg.setG (congrArg (fun (xq : Value) => ([(20,[],.int .i64 ((i : Int) + 1)),(5,[],.string ((((tx (bodyP L i)) ++ (tx x.id)) ++ (⟨#[0]⟩ : ByteArray)) ++ (tx (text4 x.t)))),(19,[],.int .i64 (L.length : Int)),(18,[],xq),(4,[],.slice (some ⟨b2,0,none⟩) L.length (Own.c ow))] : Env)) (show _ = .slice (Own.a ow) L.length (Own.c ow) from by rw [hba])) ?_
        refine Cg (Γ' := [(20,[],.int .i64 ((i : Int) + 1)),(5,[],.string ((((tx (bodyP L i)) ++ (tx x.id)) ++ (⟨#[0]⟩ : ByteArray)) ++ (tx (text4 x.t)))),(19,[],.int .i64 (L.length : Int)),(18,[],.slice (Own.a ow) L.length (Own.c ow)),(4,[],.slice (some ⟨b2,0,none⟩) L.length (Own.c ow))]) ?_
        refine Cfg.setG (congrArg (fun (xq : Value) => ([(20,[],.int .i64 ((i : Int) + 1)),(5,[],.string ((((tx (bodyP L i)) ++ (tx x.id)) ++ (⟨#[0]⟩ : ByteArray)) ++ (tx (text4 x.t)))),(19,[],.int .i64 (L.length : Int)),(18,[],.slice (Own.a ow) L.length (Own.c ow)),(4,[],xq)] : Env)) (show _ = .slice (Own.a ow) L.length (Own.c ow) from by rw [hba])) ?_
        refine Cg (Γ' := [(20,[],.int .i64 ((i : Int) + 1)),(5,[],.string ((((tx (bodyP L i)) ++ (tx x.id)) ++ (⟨#[0]⟩ : ByteArray)) ++ (tx (text4 x.t)))),(19,[],.int .i64 (L.length : Int)),(18,[],.slice (Own.a ow) L.length (Own.c ow)),(4,[],.slice (Own.a ow) L.length (Own.c ow))]) ?_
        refine Cfg.setG (congrArg (fun (xq : ByteArray) => ([(20,[],.int .i64 ((i : Int) + 1)),(5,[],.string xq),(19,[],.int .i64 (L.length : Int)),(18,[],.slice (Own.a ow) L.length (Own.c ow)),(4,[],.slice (Own.a ow) L.length (Own.c ow))] : Env)) (show _ = (tx (bodyP L (i + 1))) from by exact bodyP_w om hx hmk hxp0)) ?_
        refine Cfg.again rfl (i + 1) ⟨by omega,by rw [hps]; exact hok2⟩ (by show L.length - (i + 1) < L.length - i; omega) (Conv.mk kr) (.cons _ (List.Sublist.refl _))
      ·have c4 : ((¬ ((j : Int) ≥ (0 : Int))) ∨ (¬ ((ye.p : Int) < (4 : Int)))) := ((andF c4r).elim (fun h => Or.inl (of_decide_eq_false h)) (fun h => Or.inr (of_decide_eq_false h)))
       refine Cfg.begL rfl ?_
       refine Lp 4 [dZ,dZ,dZ,(0,false,some (.string x.t))] (some [4,5,18,19,20,118,120]) (fun S => [(((tx (bodyP L i)) ++ (tx x.id)).size + 1 ≤ 9223372036854775807),(∀ w1,S w1 → w1.cell? ⟨xb,32,none⟩ = some (.string x.t))]) ⟨(by (try have := mk_len ye.t x.t); (try have := md_size ye.t x.t); (try have hi1 := hxl.id); (try have hi2 := hyel.id); (try have hs9 := shaD_len (bodyF (planF ts))); (try simp only [ByteArray.size_append,tx_size,text4_len,beS_size]); (try simp only [show (⟨#[0]⟩ : ByteArray).size = 1 from rfl,show (⟨#[1]⟩ : ByteArray).size = 1 from rfl,show (⟨#[80,65,67,75]⟩ : ByteArray).size = 4 from rfl]); omega),(fun w1 h => h.ocell 0 rfl (by rw [List.getElem?_toArray]; exact (enr_t hxl))),trivial⟩ ?_
       refine Le (Eff.callA (vs := [.string x.t]) (.string (tx (text4 x.t))) rfl Tryz.func22 rfl rfl kr (fun w1 _ => rText x.t w1 om)) ?_
       rintro ⟨⟩ -
       refine Lp 2 [] (some [4,5,18,19,20]) (fun _ => [((((tx (bodyP L i)) ++ (tx x.id)) ++ (⟨#[0]⟩ : ByteArray)).size + (tx (text4 x.t)).size ≤ 9223372036854775807)]) ⟨(by (try have := mk_len ye.t x.t); (try have := md_size ye.t x.t); (try have hi1 := hxl.id); (try have hi2 := hyel.id); (try have hs9 := shaD_len (bodyF (planF ts))); (try simp only [ByteArray.size_append,tx_size,text4_len,beS_size]); (try simp only [show (⟨#[0]⟩ : ByteArray).size = 1 from rfl,show (⟨#[1]⟩ : ByteArray).size = 1 from rfl,show (⟨#[80,65,67,75]⟩ : ByteArray).size = 4 from rfl]); omega),trivial⟩ ?_
       refine CfgL.done rfl ?_
       refine Rg [4,5,18,19,20] [] (fun _ => [((-9223372036854775808 : Int) ≤ ((i : Int) + 1) ∧ ((i : Int) + 1) ≤ 9223372036854775807)]) ⟨om,trivial⟩ ?_
       have hmk : mkE (chn (L.take i)) x = x := mkE_far hx0 hae (by rw [← hye]; omega)
       have hps := pre_same (L := L) (i := i) om (by rw [← hx]; exact hmk)
       refine Cfg.setO (congrArg (fun (xq : List Value) => (([(xb,.cells ((enr x).toArray) 49 (0,0))] ++ (Own.o 49 xq ow ++ [])) : List (Nat × Obj))) (show _ = ((pre L (i + 1)).flatMap enr) from by rw [hps])) ?_
       refine Cg (Γ' := [(20,[],.int .i64 ((i : Int) + 1)),(5,[],.string ((((tx (bodyP L i)) ++ (tx x.id)) ++ (⟨#[0]⟩ : ByteArray)) ++ (tx (text4 x.t)))),(19,[],.int .i64 (L.length : Int)),(18,[],.slice (some ⟨b2,0,none⟩) L.length (Own.c ow)),(4,[],.slice (some ⟨b2,0,none⟩) L.length (Own.c ow))]) ?_
       refine Cfg.setG (congrArg (fun (xq : Value) => ([(20,[],.int .i64 ((i : Int) + 1)),(5,[],.string ((((tx (bodyP L i)) ++ (tx x.id)) ++ (⟨#[0]⟩ : ByteArray)) ++ (tx (text4 x.t)))),(19,[],.int .i64 (L.length : Int)),(18,[],xq),(4,[],.slice (some ⟨b2,0,none⟩) L.length (Own.c ow))] : Env)) (show _ = .slice (Own.a ow) L.length (Own.c ow) from by rw [hba])) ?_
       refine Cg (Γ' := [(20,[],.int .i64 ((i : Int) + 1)),(5,[],.string ((((tx (bodyP L i)) ++ (tx x.id)) ++ (⟨#[0]⟩ : ByteArray)) ++ (tx (text4 x.t)))),(19,[],.int .i64 (L.length : Int)),(18,[],.slice (Own.a ow) L.length (Own.c ow)),(4,[],.slice (some ⟨b2,0,none⟩) L.length (Own.c ow))]) ?_
       refine Cfg.setG (congrArg (fun (xq : Value) => ([(20,[],.int .i64 ((i : Int) + 1)),(5,[],.string ((((tx (bodyP L i)) ++ (tx x.id)) ++ (⟨#[0]⟩ : ByteArray)) ++ (tx (text4 x.t)))),(19,[],.int .i64 (L.length : Int)),(18,[],.slice (Own.a ow) L.length (Own.c ow)),(4,[],xq)] : Env)) (show _ = .slice (Own.a ow) L.length (Own.c ow) from by rw [hba])) ?_
       refine Cg (Γ' := [(20,[],.int .i64 ((i : Int) + 1)),(5,[],.string ((((tx (bodyP L i)) ++ (tx x.id)) ++ (⟨#[0]⟩ : ByteArray)) ++ (tx (text4 x.t)))),(19,[],.int .i64 (L.length : Int)),(18,[],.slice (Own.a ow) L.length (Own.c ow)),(4,[],.slice (Own.a ow) L.length (Own.c ow))]) ?_
       refine Cfg.setG (congrArg (fun (xq : ByteArray) => ([(20,[],.int .i64 ((i : Int) + 1)),(5,[],.string xq),(19,[],.int .i64 (L.length : Int)),(18,[],.slice (Own.a ow) L.length (Own.c ow)),(4,[],.slice (Own.a ow) L.length (Own.c ow))] : Env)) (show _ = (tx (bodyP L (i + 1))) from by exact bodyP_w om hx hmk hxp0)) ?_
       refine Cfg.again rfl (i + 1) ⟨by omega,by rw [hps]; exact hok2⟩ (by show L.length - (i + 1) < L.length - i; omega) (Conv.mk kr) (.cons _ (List.Sublist.refl _))
     ·
      have hae := atK_end (acc := (chn (L.take i))) (x := x) (k := i) om
      have hjn : atK (chn (L.take i)) x i = none := by simpa using hlf
      rw [hjn] at hae
      refine Cg (Γ' := [(5,[],.string ((tx (bodyP L i)) ++ (tx x.id))),(8,[],.int .i64 (atZ (atK (chn (L.take i)) x i))),(6,[],.int .i64 (i : Int)),(7,[],.pointer (some ⟨xb,0,none⟩)),(20,[],.int .i64 (i : Int)),(19,[],.int .i64 (L.length : Int)),(18,[],.slice (some ⟨b2,0,none⟩) L.length (Own.c ow)),(4,[],.slice (some ⟨b2,0,none⟩) L.length (Own.c ow))]) ?_
      refine Cfg.setG (congrArg (fun (xq : Int) => ([(5,[],.string ((tx (bodyP L i)) ++ (tx x.id))),(8,[],.int .i64 xq),(6,[],.int .i64 (i : Int)),(7,[],.pointer (some ⟨xb,0,none⟩)),(20,[],.int .i64 (i : Int)),(19,[],.int .i64 (L.length : Int)),(18,[],.slice (some ⟨b2,0,none⟩) L.length (Own.c ow)),(4,[],.slice (some ⟨b2,0,none⟩) L.length (Own.c ow))] : Env)) (show _ = (-1) from by rw [hjn]; rfl)) ?_
      refine Rg [4,5,6,7,8,18,19,20,70] [dZ,dZ,dZ,(2,false,none),(2,false,none),(2,false,none),(2,false,none),(2,false,none),(2,false,none)] (fun _ => [((.bool false : Value) ≠ .bool true),((.bool false : Value) ≠ .bool true),((.bool false : Value) ≠ .bool true),((.bool false : Value) ≠ .bool true),((.bool false : Value) ≠ .bool true),((.bool false : Value) ≠ .bool true)]) ⟨(by simp),(by simp),(by simp),(by simp),(by simp),(by simp),trivial⟩ ?_
      refine Cfg.condF rfl (b := false) kr rfl ?_
      refine Cfg.begL rfl ?_
      refine Lp 4 [dZ,dZ,dZ,(0,false,some (.string x.t))] (some [4,5,18,19,20,118,120]) (fun S => [(((tx (bodyP L i)) ++ (tx x.id)).size + 1 ≤ 9223372036854775807),(∀ w1,S w1 → w1.cell? ⟨xb,32,none⟩ = some (.string x.t))]) ⟨(by (try have := mk_len ye.t x.t); (try have := md_size ye.t x.t); (try have hi1 := hxl.id); (try have hi2 := hyel.id); (try have hs9 := shaD_len (bodyF (planF ts))); (try simp only [ByteArray.size_append,tx_size,text4_len,beS_size]); (try simp only [show (⟨#[0]⟩ : ByteArray).size = 1 from rfl,show (⟨#[1]⟩ : ByteArray).size = 1 from rfl,show (⟨#[80,65,67,75]⟩ : ByteArray).size = 4 from rfl]); omega),(fun w1 h => h.ocell 0 rfl (by rw [List.getElem?_toArray]; exact (enr_t hxl))),trivial⟩ ?_
      refine Le (Eff.callA (vs := [.string x.t]) (.string (tx (text4 x.t))) rfl Tryz.func22 rfl rfl kr (fun w1 _ => rText x.t w1 om)) ?_
      rintro ⟨⟩ -
      refine Lp 2 [] (some [4,5,18,19,20]) (fun _ => [((((tx (bodyP L i)) ++ (tx x.id)) ++ (⟨#[0]⟩ : ByteArray)).size + (tx (text4 x.t)).size ≤ 9223372036854775807)]) ⟨(by (try have := mk_len ye.t x.t); (try have := md_size ye.t x.t); (try have hi1 := hxl.id); (try have hi2 := hyel.id); (try have hs9 := shaD_len (bodyF (planF ts))); (try simp only [ByteArray.size_append,tx_size,text4_len,beS_size]); (try simp only [show (⟨#[0]⟩ : ByteArray).size = 1 from rfl,show (⟨#[1]⟩ : ByteArray).size = 1 from rfl,show (⟨#[80,65,67,75]⟩ : ByteArray).size = 4 from rfl]); omega),trivial⟩ ?_
      refine CfgL.done rfl ?_
      refine Rg [4,5,18,19,20] [] (fun _ => [((-9223372036854775808 : Int) ≤ ((i : Int) + 1) ∧ ((i : Int) + 1) ≤ 9223372036854775807)]) ⟨om,trivial⟩ ?_
      have hmk : mkE (chn (L.take i)) x = x := by
       by_cases h0 : x.t.size = 0
       ·exact mkE_zero h0
       ·rw [if_neg h0] at hae; exact mkE_none h0 hae.symm
      have hps := pre_same (L := L) (i := i) om (by rw [← hx]; exact hmk)
      refine Cfg.setO (congrArg (fun (xq : List Value) => (([(xb,.cells ((enr x).toArray) 49 (0,0))] ++ (Own.o 49 xq ow ++ [])) : List (Nat × Obj))) (show _ = ((pre L (i + 1)).flatMap enr) from by rw [hps])) ?_
      refine Cg (Γ' := [(20,[],.int .i64 ((i : Int) + 1)),(5,[],.string ((((tx (bodyP L i)) ++ (tx x.id)) ++ (⟨#[0]⟩ : ByteArray)) ++ (tx (text4 x.t)))),(19,[],.int .i64 (L.length : Int)),(18,[],.slice (some ⟨b2,0,none⟩) L.length (Own.c ow)),(4,[],.slice (some ⟨b2,0,none⟩) L.length (Own.c ow))]) ?_
      refine Cfg.setG (congrArg (fun (xq : Value) => ([(20,[],.int .i64 ((i : Int) + 1)),(5,[],.string ((((tx (bodyP L i)) ++ (tx x.id)) ++ (⟨#[0]⟩ : ByteArray)) ++ (tx (text4 x.t)))),(19,[],.int .i64 (L.length : Int)),(18,[],xq),(4,[],.slice (some ⟨b2,0,none⟩) L.length (Own.c ow))] : Env)) (show _ = .slice (Own.a ow) L.length (Own.c ow) from by rw [hba])) ?_
      refine Cg (Γ' := [(20,[],.int .i64 ((i : Int) + 1)),(5,[],.string ((((tx (bodyP L i)) ++ (tx x.id)) ++ (⟨#[0]⟩ : ByteArray)) ++ (tx (text4 x.t)))),(19,[],.int .i64 (L.length : Int)),(18,[],.slice (Own.a ow) L.length (Own.c ow)),(4,[],.slice (some ⟨b2,0,none⟩) L.length (Own.c ow))]) ?_
      refine Cfg.setG (congrArg (fun (xq : Value) => ([(20,[],.int .i64 ((i : Int) + 1)),(5,[],.string ((((tx (bodyP L i)) ++ (tx x.id)) ++ (⟨#[0]⟩ : ByteArray)) ++ (tx (text4 x.t)))),(19,[],.int .i64 (L.length : Int)),(18,[],.slice (Own.a ow) L.length (Own.c ow)),(4,[],xq)] : Env)) (show _ = .slice (Own.a ow) L.length (Own.c ow) from by rw [hba])) ?_
      refine Cg (Γ' := [(20,[],.int .i64 ((i : Int) + 1)),(5,[],.string ((((tx (bodyP L i)) ++ (tx x.id)) ++ (⟨#[0]⟩ : ByteArray)) ++ (tx (text4 x.t)))),(19,[],.int .i64 (L.length : Int)),(18,[],.slice (Own.a ow) L.length (Own.c ow)),(4,[],.slice (Own.a ow) L.length (Own.c ow))]) ?_
      refine Cfg.setG (congrArg (fun (xq : ByteArray) => ([(20,[],.int .i64 ((i : Int) + 1)),(5,[],.string xq),(19,[],.int .i64 (L.length : Int)),(18,[],.slice (Own.a ow) L.length (Own.c ow)),(4,[],.slice (Own.a ow) L.length (Own.c ow))] : Env)) (show _ = (tx (bodyP L (i + 1))) from by exact bodyP_w om hx hmk hxp0)) ?_
      refine Cfg.again rfl (i + 1) ⟨by omega,by rw [hps]; exact hok2⟩ (by show L.length - (i + 1) < L.length - i; omega) (Conv.mk kr) (.cons _ (List.Sublist.refl _))
  ·have c1 := (of_decide_eq_false c1r)
   have hie : i = L.length := by omega
   refine Cg (Γ' := [(21,[],.bool (decide ((i : Int) < (L.length : Int)))),(20,[],.int .i64 (i : Int)),(19,[],.int .i64 (L.length : Int)),(18,[],.slice (Own.a ow) L.length (Own.c ow)),(5,[],.string (tx (bodyP L i))),(4,[],.slice (Own.a ow) L.length (Own.c ow))]) ?_
   refine Cfg.setG (congrArg (fun (xq : ByteArray) => ([(21,[],.bool (decide ((i : Int) < (L.length : Int)))),(20,[],.int .i64 (i : Int)),(19,[],.int .i64 (L.length : Int)),(18,[],.slice (Own.a ow) L.length (Own.c ow)),(5,[],.string xq),(4,[],.slice (Own.a ow) L.length (Own.c ow))] : Env)) (show _ = (tx (bodyF (planF ts))) from by rw [hie,bodyP_end,hLd,srtL_eq]; rfl)) ?_
   have hLp2 : L.length = (planF ts).length := by unfold planF; rw [chn_len,hLd,srtL_eq]
   have hbl := (body_len (planF_ok hsz)).2
   have hpn := planF_len ts
   have hts := tx_size (bodyF (planF ts))
   refine Cfg.begL rfl ?_
   refine Lp 2 [] (some [4,124,125]) n0 trivial ?_
   refine Le (Eff.callA (vs := [.string (tx (bodyF (planF ts)))]) (.agg (bv (shaD (bodyF (planF ts))))) rfl Tryz.func12 rfl rfl kr (fun w1 _ => (rSum (tx (bodyF (planF ts))) w1 om))) ?_
   rintro ⟨⟩ -
   refine Le (Eff.callA (vs := [.agg (bv (shaD (bodyF (planF ts))))]) (.string (tx (shaD (bodyF (planF ts))))) rfl Tryz.func11 rfl rfl kr (fun w1 _ => rDigest (shaD (bodyF (planF ts))) w1 (shaD_len _))) ?_
   rintro ⟨⟩ -
   refine Lp 4 [] (some [2,3]) (fun _ => [((tx (bodyF (planF ts))).size + (tx (shaD (bodyF (planF ts)))).size ≤ 9223372036854775807)]) ⟨(by (try have := mk_len ye.t x.t); (try have := md_size ye.t x.t); (try have hi1 := hxl.id); (try have hi2 := hyel.id); (try have hs9 := shaD_len (bodyF (planF ts))); (try simp only [ByteArray.size_append,tx_size,text4_len,beS_size]); (try simp only [show (⟨#[0]⟩ : ByteArray).size = 1 from rfl,show (⟨#[1]⟩ : ByteArray).size = 1 from rfl,show (⟨#[80,65,67,75]⟩ : ByteArray).size = 4 from rfl]); omega),trivial⟩ ?_
   refine CfgL.done rfl ?_
   refine Cfg.ret rfl (rs := [.tmp 2,.tmp 3]) rfl [.string ((tx (bodyF (planF ts))) ++ (tx (shaD (bodyF (planF ts))))),.slice (Own.a ow) L.length (Own.c ow)] ⟨kr,by kernel_rfl,trivial⟩ (fun w1 hp => ?_)
   have hpe : (pre L i) = planF ts := by rw [hie,pre_end,hLd,srtL_eq]; rfl
   have h9 : HP w [] Rl ([] ++ (Own.o 49 ((pre L i).flatMap enr) ow ++ [])) w1 := hp
   rw [hpe,List.append_nil,List.nil_append] at h9
   rw [hpe,hLp2] at hok2
   exact ⟨ow,hok2,by rw [← hLp2,tx_app]; rfl,_,h9⟩
end Go.Proofs.YtbeegepcdglcaaaGreatDoor
namespace Go.Proofs.YtbeegepcdglcaaaGreatDoor
open K
set_option linter.unusedVariables false
theorem atF_nodup : ∀ (l : List (List UInt8)),l.Nodup → ∀ i (h : i < l.length),atF l l[i] = some i := fun l => by
 refine snoc_ind (p := fun l : List (List UInt8) => l.Nodup → ∀ i (h : i < l.length),atF l l[i] = some i) (fun _ i h => absurd h (Nat.not_lt_zero i)) (fun l d ih => ?_) l
 intro hn i h
 have hn' := List.nodup_append.1 hn
 rw [atF_snoc]
 by_cases hi : i < l.length
 ·rw [List.getElem_append_left hi,if_neg (fun e => hn'.2.2 _ (List.getElem_mem hi) _ (List.mem_singleton.2 rfl) e)]
  exact ih hn'.1 i hi
 ·have he : i = l.length := by rw [List.length_append,List.length_singleton] at h; omega
  subst he
  rw [List.getElem_append_right (Nat.le_refl _)]
  simp
theorem atF_ids {es : List En} (hn : (ids es).Nodup) {i : Nat} (h : i < es.length) : atF (ids es) (es.getD i ez).id = some i := by
 have h1 := atF_nodup (ids es) hn i (by unfold ids; rw [List.length_map]; exact h)
 rw [getD_of _ h]
 unfold ids at h1 ⊢
 rw [List.getElem_map] at h1
 exact h1
set_option maxRecDepth 100000 in
set_option maxHeartbeats 8000000 in
theorem same21 (m : PkM) (es : List En) (la : Option Addr) (ca : Nat) (ow : K.Own) (w : World) (hm : PkOk m es) (hl : ∀ e ∈ es,EnL e) (hnd : (ids es).Nodup) (hI : 0 < es.length → ∃ (b : Nat) (cs : Array Value),la = some ⟨b,0,none⟩ ∧ (b,Obj.cells cs 49 (0,0)) ∈ Own.o 49 (es.flatMap enr) ow ∧ ∀ j,j < (es.flatMap enr).length → cs[0 + j]? = some ((es.flatMap enr).getD j undef)) (hA : Has w ((pkM (some m) es ++ (Own.o 49 (es.flatMap enr) ow ++ [])) : List (Nat × Obj))) (hd : (((pkM (some m) es ++ (Own.o 49 (es.flatMap enr) ow ++ [])) : List (Nat × Obj)).map Prod.fst).Nodup) (hn : es.length ≤ 1000000) :
  Calls Tryz.prog 10 #[.pointer (some ⟨m.pb,0,none⟩),.slice la es.length ca] w fun e w' => e = .returned (.bool true) ∧ ∃ R1,HP w (((pkM (some m) es ++ (Own.o 49 (es.flatMap enr) ow ++ [])) : List (Nat × Obj)).map Prod.fst) R1 ((pkM (some m) es ++ (Own.o 49 (es.flatMap enr) ow ++ [])) : List (Nat × Obj)) w' := by
 refine enterM (vs := [.pointer (some ⟨m.pb,0,none⟩),.slice la es.length ca]) (((pkM (some m) es ++ (Own.o 49 (es.flatMap enr) ow ++ [])) : List (Nat × Obj)).map Prod.fst) [] ([] ++ (pkM (some m) es ++ (Own.o 49 (es.flatMap enr) ow ++ []))) Tryz.func10 rfl kr (HP.ofL hA hd (R := []) (fun e he => by cases he) (fun e he => by cases he)) ?_
 refine Cfg.begL rfl ?_
 refine Le (Eff.box (v := .pointer (some ⟨m.pb,0,none⟩)) rfl kr) ?_
 rintro qb ⟨hqb,nqb⟩
 refine Le (Eff.box (v := .slice la es.length ca) rfl kr) ?_
 rintro lb ⟨hlb,nlb⟩
 refine Le (Eff.alloc (z := (.bool false)) rfl kr) ?_
 rintro rb ⟨hrb,nrb⟩
 refine CfgL.done rfl ?_
 refine Cg (Γ' := [(4,[],.pointer (some ⟨rb,0,none⟩)),(3,[],.pointer (some ⟨lb,0,none⟩)),(2,[],.pointer (some ⟨qb,0,none⟩))]) ?_
 refine Cfg.begL rfl ?_
 refine Le (Eff.alloc (z := (.int .i64 0)) rfl kr) ?_
 rintro kb ⟨hkb,nkb⟩
 refine Le (Eff.store1 (b := kb) (off := 0) (v := .int .i64 0) rfl kr kr rfl kr 0 (cs := #[.int .i64 0]) (e := 3) kr (by simp)) ?_
 rintro ⟨⟩ -
 refine CfgL.done rfl ?_
 refine Cfg.begL rfl ?_
 refine Lp 1 [(0,false,some (.pointer (some ⟨m.pb,0,none⟩)))] none (fun S => [(∀ w1,S w1 → w1.cell? ⟨qb,0,none⟩ = some (.pointer (some ⟨m.pb,0,none⟩)))]) ⟨(fun w1 h => h.ocell 3 rfl rfl),trivial⟩ ?_
 refine Le (Eff.callN (vs := [.pointer (some ⟨m.pb,0,none⟩)]) (fun tb => .func (.func 61) #[] #[.pointer (some ⟨tb,0,none⟩)]) (fun tb => tb) (fun _ => .cells #[.pointer (some ⟨m.pb,0,none⟩)] 29 (0,0)) (fun _ => True) rfl Tryz.func25 rfl rfl kr (fun w1 h => pkTexts (some ⟨m.pb,0,none⟩) w1)) ?_
 rintro tb -
 refine CfgL.done rfl ?_
 refine Cg (Γ' := [(11,[],.func (.func 61) #[] #[.pointer (some ⟨tb,0,none⟩)]),(5,[],.pointer (some ⟨kb,0,none⟩)),(4,[],.pointer (some ⟨rb,0,none⟩)),(3,[],.pointer (some ⟨lb,0,none⟩)),(2,[],.pointer (some ⟨qb,0,none⟩))]) ?_
 refine Cfg.rangeJ2 rfl (caps := #[.pointer (some ⟨tb,0,none⟩)]) kr Tryz.func61 kr rfl kr kr (pkIt tb m es hm hl hn) (σ := Nat) (fun (k : Nat) => ([(tb,.cells #[.pointer (some ⟨m.pb,0,none⟩)] 29 (0,0)),(kb,.cells #[.int .i64 (k : Int)] 3 (0,0)),(rb,.cells #[.bool false] 4 (0,0)),(lb,.cells #[.slice la es.length ca] 26 (0,0)),(qb,.cells #[.pointer (some ⟨m.pb,0,none⟩)] 29 (0,0))] ++ (pkM (some m) es ++ (Own.o 49 (es.flatMap enr) ow ++ [])))) (fun pre k => k = pre.length) 0 rfl [] (by rfl) (fun e he => by cases he) (fun w1 h => List.nodup_nil) (fun (k : Nat) => ([(tb,.cells #[.pointer (some ⟨m.pb,0,none⟩)] 29 (0,0)),(kb,.cells #[.int .i64 (k : Int)] 3 (0,0)),(rb,.cells #[.bool false] 4 (0,0)),(lb,.cells #[.slice la es.length ca] 26 (0,0)),(qb,.cells #[.pointer (some ⟨m.pb,0,none⟩)] 29 (0,0))] ++ (pkM (some m) es ++ (Own.o 49 (es.flatMap enr) ow ++ [])))) (fun _ => List.append_nil _) (fun _ => true) (fun pre k _ _ e he => by rcases List.mem_cons.1 he with rfl | he; exact List.mem_cons_self ..; exact List.mem_append_right _ (List.mem_append_left _ he)) (.ret) rfl ?_ ?_ ?_
 ·intro l ob1 ob2 w2 M2 pre k x rest hal hJx hit
  have hJx : k = pre.length := hJx
  have hkl : k < es.length := by have h9 := congrArg List.length hit; rw [List.length_append,List.length_cons] at h9; omega
  have hxe : x = es.getD k ez := by rw [hJx,hit,List.getD_eq_getElem?_getD,List.getElem?_append_right (Nat.le_refl _),Nat.sub_self]; rfl
  have hxl : EnL x := by rw [hxe]; exact hl _ (K.getD_mem hkl)
  have hat : atF (ids es) x.id = some k := by rw [hxe]; exact atF_ids hnd hkl
  refine ⟨Nat,fun _ => True,fun (db : Nat) => [(7,[],.string x.t),(6,[],.pointer (some ⟨db,0,none⟩)),(5,[],.pointer (some ⟨kb,0,none⟩)),(4,[],.pointer (some ⟨rb,0,none⟩)),(3,[],.pointer (some ⟨lb,0,none⟩)),(2,[],.pointer (some ⟨qb,0,none⟩))],fun (db : Nat) => ([(db,.cells (bv x.id) 36 (0,0)),(tb,.cells #[.pointer (some ⟨m.pb,0,none⟩)] 29 (0,0)),(kb,.cells #[.int .i64 (k : Int)] 3 (0,0)),(rb,.cells #[.bool false] 4 (0,0)),(lb,.cells #[.slice la es.length ca] 26 (0,0)),(qb,.cells #[.pointer (some ⟨m.pb,0,none⟩)] 29 (0,0))] ++ (pkM (some m) es ++ (Own.o 49 (es.flatMap enr) ow ++ []))),?_,?_⟩
  ·
   refine Cfg.begL rfl ?_
   refine Le (Eff.alloc (z := (.agg (bv (List.replicate 32 0)))) rfl kr) ?_
   rintro db ⟨hdb,ndb⟩
   refine Le (Eff.storeN (b := db) (off := 0) (vs := (bv x.id)) (n := 32) rfl kr kr kr ((bv_size _).trans hxl.id) (all_bv _) 0 (cs := (bv (List.replicate 32 0))) (e := 36) kr (by rw [zdg_size]; omega)) ?_
   rintro ⟨⟩ -
   refine CfgL.setO (congrArg (fun (xq : Array Value) => (([(db,.cells xq 36 (0,0)),(l,ob1),(tb,.cells #[.pointer (some ⟨m.pb,0,none⟩)] 29 (0,0)),(kb,.cells #[.int .i64 (k : Int)] 3 (0,0)),(rb,.cells #[.bool false] 4 (0,0)),(lb,.cells #[.slice la es.length ca] 26 (0,0)),(qb,.cells #[.pointer (some ⟨m.pb,0,none⟩)] 29 (0,0))] ++ (pkM (some m) es ++ (Own.o 49 (es.flatMap enr) ow ++ []))) : List (Nat × Obj))) (show _ = (bv x.id) from spl_all (((bv_size _).trans hxl.id).trans zdg_size.symm))) ?_
   refine CfgL.done rfl ?_
   refine Cg (Γ' := [(6,[],.pointer (some ⟨db,0,none⟩)),(13,[],.string x.t),(5,[],.pointer (some ⟨kb,0,none⟩)),(4,[],.pointer (some ⟨rb,0,none⟩)),(3,[],.pointer (some ⟨lb,0,none⟩)),(2,[],.pointer (some ⟨qb,0,none⟩))]) ?_
   refine Rg [2,3,4,5,6,7] [] n0 trivial ?_
   refine Cfg.permO (O' := ([(l,ob1),(db,.cells (bv x.id) 36 (0,0)),(tb,.cells #[.pointer (some ⟨m.pb,0,none⟩)] 29 (0,0)),(kb,.cells #[.int .i64 (k : Int)] 3 (0,0)),(rb,.cells #[.bool false] 4 (0,0)),(lb,.cells #[.slice la es.length ca] 26 (0,0)),(qb,.cells #[.pointer (some ⟨m.pb,0,none⟩)] 29 (0,0))] ++ (pkM (some m) es ++ (Own.o 49 (es.flatMap enr) ow ++ [])))) (swap_app _ _ _ _) ?_
   refine Cfg.mid rfl db trivial (Conv.mk kr) (List.Sublist.refl _)
  ·rintro db -
   obtain ⟨b2,bcs,rfl,hbm,hbc⟩ := hI om
   refine Cfg.begA rfl kr ([(l,ob2),(db,.cells (bv x.id) 36 (0,0)),(tb,.cells #[.pointer (some ⟨m.pb,0,none⟩)] 29 (0,0)),(kb,.cells #[.int .i64 (k : Int)] 3 (0,0)),(rb,.cells #[.bool false] 4 (0,0)),(lb,.cells #[.slice (some ⟨b2,0,none⟩) es.length ca] 26 (0,0)),(qb,.cells #[.pointer (some ⟨m.pb,0,none⟩)] 29 (0,0))] ++ (pkM (some m) es ++ (Own.o 49 (es.flatMap enr) ow ++ []))) ?_
   refine Ap [0,1,2,3,4,5,6,7,8,9,10,11,12,13,14,15,16,17,18,19,20,21,22] [(0,false,some (.int .i64 (k : Int))),(0,false,some (.slice (some ⟨b2,0,none⟩) es.length ca)),dZ,dZ,dZ,(0,false,some (.agg (bv x.id))),(0,false,some (.slice (some ⟨b2,0,none⟩) es.length ca)),(0,false,some (.int .i64 (k : Int))),dZ,dZ,(0,false,some (.agg (bv x.id))),(0,false,some (.bool (x.id == x.id))),dZ,dZ,dZ,(0,false,some (.slice (some ⟨b2,0,none⟩) es.length ca)),(0,false,some (.int .i64 (k : Int))),dZ,dZ,(0,false,some (.string x.t))] (some [2,3,4,5,6,7,36]) #[true,true,true,true,true,true,true,true,true,true,true,true,true,true,true,true,true,true,true,true,true,true,true,false,false,false,false,false,false,false,false,false,false] (.cons_cons _ (.cons_cons _ (.cons_cons _ (.cons_cons _ (.cons_cons _ (.cons_cons _ (.cons_cons _ (List.Sublist.refl _)))))))) 10 (fun S => [(∀ w1,S w1 → w1.cell? ⟨kb,0,none⟩ = some (.int .i64 (k : Int))),(∀ w1,S w1 → w1.cell? ⟨lb,0,none⟩ = some (.slice (some ⟨b2,0,none⟩) es.length ca)),((.bool (decide ((k : Int) ≥ (es.length : Int))) : Value) = .bool false → (∀ w1,S w1 → (loadVar 36 ⟨db,0,none⟩).run Tryz.prog w1 = .ok (.agg (bv x.id)) w1)),((.bool (decide ((k : Int) ≥ (es.length : Int))) : Value) = .bool false → (∀ w1,S w1 → w1.cell? ⟨lb,0,none⟩ = some (.slice (some ⟨b2,0,none⟩) es.length ca))),((.bool (decide ((k : Int) ≥ (es.length : Int))) : Value) = .bool false → (∀ w1,S w1 → w1.cell? ⟨kb,0,none⟩ = some (.int .i64 (k : Int)))),((.bool (decide ((k : Int) ≥ (es.length : Int))) : Value) = .bool false → (0 ≤ (k : Int) ∧ (k : Int) < (es.length : Int))),((.bool (decide ((k : Int) ≥ (es.length : Int))) : Value) = .bool false → (∀ w1,S w1 → (loadVar 36 ⟨b2,(k * 66),none⟩).run Tryz.prog w1 = .ok (.agg (bv x.id)) w1)),((.bool (decide ((k : Int) ≥ (es.length : Int))) : Value) = .bool false → (∀ w1,S w1 → (Op.equal 36 (.agg (bv x.id)) (.agg (bv x.id))).run Tryz.prog w1 = .ok (x.id == x.id) w1)),((.bool ((decide ((k : Int) ≥ (es.length : Int))) || (!(x.id == x.id))) : Value) = .bool false → (∀ w1,S w1 → w1.cell? ⟨lb,0,none⟩ = some (.slice (some ⟨b2,0,none⟩) es.length ca))),((.bool ((decide ((k : Int) ≥ (es.length : Int))) || (!(x.id == x.id))) : Value) = .bool false → (∀ w1,S w1 → w1.cell? ⟨kb,0,none⟩ = some (.int .i64 (k : Int)))),((.bool ((decide ((k : Int) ≥ (es.length : Int))) || (!(x.id == x.id))) : Value) = .bool false → (0 ≤ (k : Int) ∧ (k : Int) < (es.length : Int))),((.bool ((decide ((k : Int) ≥ (es.length : Int))) || (!(x.id == x.id))) : Value) = .bool false → (∀ w1,S w1 → w1.cell? ⟨b2,((k * 66) + 32),none⟩ = some (.string x.t)))]) ⟨(fun w1 h => h.ocell 3 rfl rfl),(fun w1 h => h.ocell 5 rfl rfl),(fun g0 => have q0 : (¬ ((k : Int) ≥ (es.length : Int))) := (of_decide_eq_false (boolV g0)); (fun w1 h => h.oload 1 rfl Tryz.underlying36 rfl (n := 32) kr ((bv_size _).trans hxl.id))),(fun g0 => have q0 : (¬ ((k : Int) ≥ (es.length : Int))) := (of_decide_eq_false (boolV g0)); (fun w1 h => h.ocell 5 rfl rfl)),(fun g0 => have q0 : (¬ ((k : Int) ≥ (es.length : Int))) := (of_decide_eq_false (boolV g0)); (fun w1 h => h.ocell 3 rfl rfl)),(fun g0 => have q0 : (¬ ((k : Int) ≥ (es.length : Int))) := (of_decide_eq_false (boolV g0)); om),(fun g0 => have q0 : (¬ ((k : Int) ≥ (es.length : Int))) := (of_decide_eq_false (boolV g0)); (fun w1 h => load_list (vs := dgc x.id) Tryz.underlying36 rfl kr (dgc_len hxl.id) (fun q9 v hq9 => by exact (cell_cells (h.own _ (show _ ∈ (([(l,ob2),(db,Obj.cells (bv x.id) 36 (0,0)),(tb,Obj.cells #[.pointer (some ⟨m.pb,0,none⟩)] 29 (0,0)),(kb,Obj.cells #[.int .i64 (k : Int)] 3 (0,0)),(rb,Obj.cells #[.bool false] 4 (0,0)),(lb,Obj.cells #[.slice (some ⟨b2,0,none⟩) es.length ca] 26 (0,0)),(qb,Obj.cells #[.pointer (some ⟨m.pb,0,none⟩)] 29 (0,0))] ++ (pkM (some m) es ++ (Own.o 49 (es.flatMap enr) ow ++ []))) : List (Nat × Obj)) from (List.mem_append_right _ (List.mem_append_right _ (List.mem_append_left _ hbm)))))).trans (er_cell hl hbc (i := k) om (by rw [← hxe]; exact app_l hq9))))),(fun g0 => have q0 : (¬ ((k : Int) ≥ (es.length : Int))) := (of_decide_eq_false (boolV g0)); (fun w1 _ => equal_bv Tryz.underlying36 Tryz.underlying5 kr hxl.id hxl.id)),(fun g0 => have q0 : ((¬ ((k : Int) ≥ (es.length : Int))) ∧ ((x.id == x.id) = true)) := ⟨(of_decide_eq_false (orF1 (boolV g0))),(notF (orF2 (boolV g0)))⟩; (fun w1 h => h.ocell 5 rfl rfl)),(fun g0 => have q0 : ((¬ ((k : Int) ≥ (es.length : Int))) ∧ ((x.id == x.id) = true)) := ⟨(of_decide_eq_false (orF1 (boolV g0))),(notF (orF2 (boolV g0)))⟩; (fun w1 h => h.ocell 3 rfl rfl)),(fun g0 => have q0 : ((¬ ((k : Int) ≥ (es.length : Int))) ∧ ((x.id == x.id) = true)) := ⟨(of_decide_eq_false (orF1 (boolV g0))),(notF (orF2 (boolV g0)))⟩; om),(fun g0 => have q0 : ((¬ ((k : Int) ≥ (es.length : Int))) ∧ ((x.id == x.id) = true)) := ⟨(of_decide_eq_false (orF1 (boolV g0))),(notF (orF2 (boolV g0)))⟩; (fun w1 h => (cell_cells (h.own _ (show _ ∈ (([(l,ob2),(db,Obj.cells (bv x.id) 36 (0,0)),(tb,Obj.cells #[.pointer (some ⟨m.pb,0,none⟩)] 29 (0,0)),(kb,Obj.cells #[.int .i64 (k : Int)] 3 (0,0)),(rb,Obj.cells #[.bool false] 4 (0,0)),(lb,Obj.cells #[.slice (some ⟨b2,0,none⟩) es.length ca] 26 (0,0)),(qb,Obj.cells #[.pointer (some ⟨m.pb,0,none⟩)] 29 (0,0))] ++ (pkM (some m) es ++ (Own.o 49 (es.flatMap enr) ow ++ []))) : List (Nat × Obj)) from (List.mem_append_right _ (List.mem_append_right _ (List.mem_append_left _ hbm)))))).trans (er_cell hl hbc (i := k) om (by rw [← hxe]; exact (enr_t hxl))))),trivial⟩ ?_
   refine CfgA.known 36 (b := (((decide ((k : Int) ≥ (es.length : Int))) || (!(x.id == x.id))) || (!(x.t.toList == x.t.toList)))) kr false (by rw [decide_eq_false om,beq_self_eq_true,beq_self_eq_true]; rfl) ?_
   refine Ap [23,24,26,27,28,29,30] [(1,false,some (.pointer (some ⟨m.pb,0,none⟩))),(1,false,some (.agg (bv x.id))),(1,false,some (.slice (some ⟨b2,0,none⟩) es.length ca)),(1,false,some (.int .i64 (k : Int))),(1,false,none),(1,false,none),(1,false,some (.int .i64 (x.p : Int)))] (some [2,4,5,6,7,36,37,38,44]) #[true,true,true,true,true,true,true,true,true,true,true,true,true,true,true,true,true,true,true,true,true,true,true,true,true,false,true,true,true,true,true,false,false] (.cons_cons _ (.cons_cons _ (.cons_cons _ (.cons_cons _ (.cons_cons _ (.cons_cons _ (.cons_cons _ (List.Sublist.refl _)))))))) 3 (fun S => [((.bool false : Value) = .bool false),(∀ w1,S w1 → w1.cell? ⟨qb,0,none⟩ = some (.pointer (some ⟨m.pb,0,none⟩))),((.bool false : Value) = .bool false),(∀ w1,S w1 → (loadVar 36 ⟨db,0,none⟩).run Tryz.prog w1 = .ok (.agg (bv x.id)) w1),((.bool false : Value) = .bool false),(∀ w1,S w1 → w1.cell? ⟨lb,0,none⟩ = some (.slice (some ⟨b2,0,none⟩) es.length ca)),((.bool false : Value) = .bool false),(∀ w1,S w1 → w1.cell? ⟨kb,0,none⟩ = some (.int .i64 (k : Int))),((.bool false : Value) = .bool false),(0 ≤ (k : Int) ∧ (k : Int) < (es.length : Int)),((.bool false : Value) = .bool false),((.bool false : Value) = .bool false),(∀ w1,S w1 → w1.cell? ⟨b2,((k * 66) + 33),none⟩ = some (.int .i64 (x.p : Int)))]) ⟨rfl,(fun w1 h => h.ocell 6 rfl rfl),rfl,(fun w1 h => h.oload 1 rfl Tryz.underlying36 rfl (n := 32) kr ((bv_size _).trans hxl.id)),rfl,(fun w1 h => h.ocell 5 rfl rfl),rfl,(fun w1 h => h.ocell 3 rfl rfl),rfl,om,rfl,rfl,(fun w1 h => (cell_cells (h.own _ (show _ ∈ (([(l,ob2),(db,Obj.cells (bv x.id) 36 (0,0)),(tb,Obj.cells #[.pointer (some ⟨m.pb,0,none⟩)] 29 (0,0)),(kb,Obj.cells #[.int .i64 (k : Int)] 3 (0,0)),(rb,Obj.cells #[.bool false] 4 (0,0)),(lb,Obj.cells #[.slice (some ⟨b2,0,none⟩) es.length ca] 26 (0,0)),(qb,Obj.cells #[.pointer (some ⟨m.pb,0,none⟩)] 29 (0,0))] ++ (pkM (some m) es ++ (Own.o 49 (es.flatMap enr) ow ++ []))) : List (Nat × Obj)) from (List.mem_append_right _ (List.mem_append_right _ (List.mem_append_left _ hbm)))))).trans (er_cell hl hbc (i := k) om (by rw [← hxe]; exact (enr_p hxl)))),trivial⟩ ?_
   refine Ae 25 rfl 2  (Eff.callA (vs := [.pointer (some ⟨m.pb,0,none⟩),.agg (bv x.id)]) (.int .i64 ((es.getD k ez).p : Int)) rfl Tryz.func26 rfl rfl kr (fun w1 h => pkDepth m es (pkM (some m) es) x.id k w1 hm hl (fun e he => he) (fun e he => h.own e (show _ ∈ (([(l,ob2),(db,Obj.cells (bv x.id) 36 (0,0)),(tb,Obj.cells #[.pointer (some ⟨m.pb,0,none⟩)] 29 (0,0)),(kb,Obj.cells #[.int .i64 (k : Int)] 3 (0,0)),(rb,Obj.cells #[.bool false] 4 (0,0)),(lb,Obj.cells #[.slice (some ⟨b2,0,none⟩) es.length ca] 26 (0,0)),(qb,Obj.cells #[.pointer (some ⟨m.pb,0,none⟩)] 29 (0,0))] ++ (pkM (some m) es ++ (Own.o 49 (es.flatMap enr) ow ++ []))) : List (Nat × Obj)) from (List.mem_append_right _ (List.mem_append_left _ he)))) hn hxl.id hat)) (fun _ _ => (.cons_cons _ (.cons_cons _ (.cons_cons _ (.cons_cons _ (.cons_cons _ (.cons_cons _ (.cons_cons _ (List.Sublist.refl _))))))))) ?_
   rintro ⟨⟩ -
   refine Ap [31,32] [(1,false,none)] (some [2,4,5,6,7,46]) #[true,true,true,true,true,true,true,true,true,true,true,true,true,true,true,true,true,true,true,true,true,true,true,true,true,true,true,true,true,true,true,true,true] (.cons_cons _ (.cons_cons _ (.cons_cons _ (.cons_cons _ (.cons_cons _ (.cons_cons _ (.cons_cons _ (List.Sublist.refl _)))))))) 0 (fun _ => [((.bool false : Value) = .bool false)]) ⟨rfl,trivial⟩ ?_
   refine CfgA.done kr ?_
   refine Cfg.condF rfl (b := (((es.getD k ez).p : Int) != (x.p : Int))) kr (by rw [← hxe]; exact bne_self_eq_false _) ?_
   refine Cfg.begL rfl ?_
   refine Lp 2 [(0,false,some (.pointer (some ⟨m.pb,0,none⟩))),(0,false,some (.agg (bv x.id)))] (some [4,5,7,48,49]) (fun S => [(∀ w1,S w1 → w1.cell? ⟨qb,0,none⟩ = some (.pointer (some ⟨m.pb,0,none⟩))),(∀ w1,S w1 → (loadVar 36 ⟨db,0,none⟩).run Tryz.prog w1 = .ok (.agg (bv x.id)) w1)]) ⟨(fun w1 h => h.ocell 6 rfl rfl),(fun w1 h => h.oload 1 rfl Tryz.underlying36 rfl (n := 32) kr ((bv_size _).trans hxl.id)),trivial⟩ ?_
   refine Le (Eff.callA (vs := [.pointer (some ⟨m.pb,0,none⟩),.agg (bv x.id)]) (.tuple #[.string (es.getD k ez).t,.bool true]) rfl Tryz.func27 rfl rfl kr (fun w1 h => pkGet m es (pkM (some m) es) x.id k w1 hm hl (fun e he => he) (fun e he => h.own e (show _ ∈ (([(l,ob2),(db,Obj.cells (bv x.id) 36 (0,0)),(tb,Obj.cells #[.pointer (some ⟨m.pb,0,none⟩)] 29 (0,0)),(kb,Obj.cells #[.int .i64 (k : Int)] 3 (0,0)),(rb,Obj.cells #[.bool false] 4 (0,0)),(lb,Obj.cells #[.slice (some ⟨b2,0,none⟩) es.length ca] 26 (0,0)),(qb,Obj.cells #[.pointer (some ⟨m.pb,0,none⟩)] 29 (0,0))] ++ (pkM (some m) es ++ (Own.o 49 (es.flatMap enr) ow ++ []))) : List (Nat × Obj)) from (List.mem_append_right _ (List.mem_append_left _ he)))) hn hxl.id hat)) ?_
   rintro ⟨⟩ -
   refine Lp 5 [] (some [4,5,7,8,9]) n0 trivial ?_
   refine CfgL.done rfl ?_
   refine Rg [4,5,59] [dZ,dZ,dZ,(1,false,none),(1,false,none),(1,false,none)] (fun _ => [((.bool false : Value) = .bool false),((.bool false : Value) = .bool false),((.bool false : Value) = .bool false)]) ⟨rfl,rfl,rfl,trivial⟩ ?_
   refine Cfg.condF rfl (b := (!((es.getD k ez).t.toList == x.t.toList))) kr (by rw [← hxe,beq_self_eq_true]; rfl) ?_
   refine Cfg.begL rfl ?_
   refine CfgL.pure 2 [(0,false,some (.int .i64 (k : Int)))] (some [5,61]) (Γ' := [(61,[],.int .i64 ((k : Int) + 1)),(5,[],.pointer (some ⟨kb,0,none⟩))]) (nd := (fun S => [(∀ w1,S w1 → w1.cell? ⟨kb,0,none⟩ = some (.int .i64 (k : Int))),((-9223372036854775808 : Int) ≤ ((k : Int) + 1) ∧ ((k : Int) + 1) ≤ 9223372036854775807)])) kr (fun _ => kr) ⟨(fun w1 h => h.ocell 3 rfl rfl),om,trivial⟩ ?_
   refine Le (Eff.store1 (b := kb) (off := 0) (v := .int .i64 ((k : Int) + 1)) rfl kr kr rfl kr 3 (cs := #[.int .i64 (k : Int)]) (e := 3) kr (by simp)) ?_
   rintro ⟨⟩ -
   refine CfgL.done rfl ?_
   refine Cg (Γ' := []) ?_
   refine Cfg.finR rfl (fun w1 hp => ?_)
   exact ⟨k + 1,by rw [List.length_append,← hJx]; rfl,rfl,hp.sub (.cons_cons _ (.cons _ (.cons_cons _ (.cons_cons _ (.cons_cons _ (.cons_cons _ (.cons_cons _ (List.Sublist.refl _))))))))⟩
 ·intro dr1 k hal hJy
  have hJy : k = es.length := hJy
  refine Cfg.begA rfl kr ([(dr1,.deferred (some [])),(tb,.cells #[.pointer (some ⟨m.pb,0,none⟩)] 29 (0,0)),(kb,.cells #[.int .i64 (k : Int)] 3 (0,0)),(lb,.cells #[.slice la es.length ca] 26 (0,0)),(qb,.cells #[.pointer (some ⟨m.pb,0,none⟩)] 29 (0,0))] ++ (pkM (some m) es ++ (Own.o 49 (es.flatMap enr) ow ++ []))) ?_
  refine Ap [0,1,2,3,4] [(0,false,some (.int .i64 (k : Int))),(0,false,some (.slice la es.length ca))] (some [2,3,4,66]) #[true,true,true,true,true,false,false,false,false,false,false,false] (.cons_cons _ (.cons_cons _ (.cons_cons _ (.cons _ (.cons_cons _ (.cons_cons _ (List.Sublist.refl _))))))) 7 (fun S => [(∀ w1,S w1 → w1.cell? ⟨kb,0,none⟩ = some (.int .i64 (k : Int))),(∀ w1,S w1 → w1.cell? ⟨lb,0,none⟩ = some (.slice la es.length ca))]) ⟨(fun w1 h => h.ocell 2 rfl rfl),(fun w1 h => h.ocell 3 rfl rfl),trivial⟩ ?_
  refine CfgA.known 66 (b := ((k : Int) == (es.length : Int))) kr true (by rw [hJy]; exact beq_self_eq_true _) ?_
  refine Ap [5,7,8] [(1,false,some (.pointer (some ⟨m.pb,0,none⟩))),(1,false,some (.slice la es.length ca)),(1,false,none)] (some [4,66,67,70]) #[true,true,true,true,true,true,false,true,true,false,false,false] (.cons_cons _ (.cons_cons _ (.cons_cons _ (.cons _ (.cons_cons _ (.cons_cons _ (List.Sublist.refl _))))))) 4 (fun S => [((.bool true : Value) = .bool true),(∀ w1,S w1 → w1.cell? ⟨qb,0,none⟩ = some (.pointer (some ⟨m.pb,0,none⟩))),((.bool true : Value) = .bool true),(∀ w1,S w1 → w1.cell? ⟨lb,0,none⟩ = some (.slice la es.length ca)),((.bool true : Value) = .bool true)]) ⟨rfl,(fun w1 h => h.ocell 4 rfl rfl),rfl,(fun w1 h => h.ocell 3 rfl rfl),rfl,trivial⟩ ?_
  refine Ae 6 rfl 3  (Eff.callA (vs := [.pointer (some ⟨m.pb,0,none⟩)]) (.int .i64 (es.length : Int)) rfl Tryz.func14 rfl rfl kr (fun w1 h => pkLen m es (pkM (some m) es) w1 hm hl (fun e he => he) (fun e he => h.own e (show _ ∈ (([(dr1,.deferred (some [])),(tb,Obj.cells #[.pointer (some ⟨m.pb,0,none⟩)] 29 (0,0)),(kb,Obj.cells #[.int .i64 (k : Int)] 3 (0,0)),(rb,Obj.cells #[.bool false] 4 (0,0)),(lb,Obj.cells #[.slice la es.length ca] 26 (0,0)),(qb,Obj.cells #[.pointer (some ⟨m.pb,0,none⟩)] 29 (0,0))] ++ (pkM (some m) es ++ (Own.o 49 (es.flatMap enr) ow ++ []))) : List (Nat × Obj)) from (List.mem_append_right _ (List.mem_append_left _ he)))) hn)) (fun _ _ => (.cons_cons _ (.cons_cons _ (.cons_cons _ (.cons _ (.cons_cons _ (.cons_cons _ (List.Sublist.refl _)))))))) ?_
  rintro ⟨⟩ -
  refine Ap [9,10] [(1,false,none)] (some [4,72]) #[true,true,true,true,true,true,true,true,true,true,true,false] (.cons_cons _ (.cons_cons _ (.cons_cons _ (.cons _ (.cons_cons _ (.cons_cons _ (List.Sublist.refl _))))))) 1 (fun _ => [((.bool true : Value) = .bool true)]) ⟨rfl,trivial⟩ ?_
  refine Ae 11 rfl 0  (Eff.store1 (b := rb) (off := 0) (v := .bool ((es.length : Int) == (es.length : Int))) rfl kr kr rfl kr 3 (cs := #[.bool false]) (e := 4) kr (by simp)) (fun _ _ => (.cons_cons _ (.cons_cons _ (.cons_cons _ (.cons _ (.cons_cons _ (.cons_cons _ (List.Sublist.refl _)))))))) ?_
  rintro ⟨⟩ -
  refine CfgA.done kr ?_
  refine Cg (Γ' := [(4,[],.pointer (some ⟨rb,0,none⟩))]) ?_
  refine Cfg.retM (O' := ([(tb,.cells #[.pointer (some ⟨m.pb,0,none⟩)] 29 (0,0)),(kb,.cells #[.int .i64 (k : Int)] 3 (0,0)),(rb,.cells ((#[.bool false] : Array Value).setIfInBounds 0 (.bool ((es.length : Int) == (es.length : Int)))) 4 (0,0)),(lb,.cells #[.slice la es.length ca] 26 (0,0)),(qb,.cells #[.pointer (some ⟨m.pb,0,none⟩)] 29 (0,0))] ++ (pkM (some m) es ++ (Own.o 49 (es.flatMap enr) ow ++ [])))) rfl (rs := [.cell 4 4]) rfl [.bool ((es.length : Int) == (es.length : Int))] (List.Sublist.refl _) ⟨⟨_,by kernel_rfl,fun w1 h => h.ovar 2 (off := 0) rfl kr rfl⟩,trivial⟩ (fun w1 hp => ?_)
  exact ⟨congrArg (fun b => Ending.returned (.bool b)) (beq_self_eq_true _),_,hp.sub (List.sublist_append_right _ _)⟩
 ·intro dr1 k pre x rest hit hal hpa hJy
  cases hpa
end Go.Proofs.YtbeegepcdglcaaaGreatDoor
namespace Go.Proofs.YtbeegepcdglcaaaGreatDoor
open K
set_option linter.unusedVariables false
theorem K.Eff.addW {C : Cx} {R O : List (Nat × Obj)} {Γ : Env} {op : Oper} {ty ty2 : TypeId} {x y : Operand} {k : IntKind} {a b : Int} (ho : op.op = .binOp .add ty x y ty2) (hx : opd Γ [] x = some (.int k a)) (hy : opd Γ [] y = some (.int k b)) :
  Eff C R O Γ op Unit (fun _ => .int k (k.wrap (a + b))) (fun _ => O) (fun _ => True) :=
 Eff.of_run fun c w hs hp => ⟨(),w,trivial,by
  simp only [execOp,ho]
  refine run_v ?_
  rw [opd_ok hs (holds_nil _) hx,opd_ok hs (holds_nil _) hy]
  simp [eqGuard,binOp,Op.intArith],hp⟩
def sumB (l : List ByteArray) : Nat := (l.map ByteArray.size).sum
theorem sumB_take {l : List ByteArray} {i : Nat} (h : i < l.length) : sumB (l.take (i + 1)) = sumB (l.take i) + (l.getD i ByteArray.empty).size := by
 unfold sumB
 rw [List.take_succ_eq_append_getElem h,List.map_append,List.sum_append,getD_of _ h]; simp
theorem sumB_le {m : Nat} : ∀ {l : List ByteArray},(∀ s ∈ l,s.size ≤ m) → sumB l ≤ l.length * m
 | [],_ => Nat.zero_le _
 | s :: l,h => by
  have h1 := h s (List.mem_cons_self ..)
  have h2 := sumB_le (l := l) fun t ht => h t (List.mem_cons_of_mem _ ht)
  unfold sumB at *
  rw [List.map_cons,List.sum_cons,List.length_cons,Nat.succ_mul]; omega
theorem sumB_mem : ∀ {l : List ByteArray},∀ s ∈ l,s.size ≤ sumB l
 | s0 :: l,s,h => by
  unfold sumB
  rw [List.map_cons,List.sum_cons]
  rcases List.mem_cons.1 h with rfl | h
  ·omega
  ·have := sumB_mem (l := l) s h
   unfold sumB at this; omega
def lightT (l : List ByteArray) : Bool := decide (l.length ≤ 20) && decide (sumB l ≤ 6000)
theorem light_eq {l : List ByteArray} {s : Int} (h : l.length ≤ 20 → s = (sumB l : Int)) : ((decide ((l.length : Int) ≤ 20)) && (decide (s ≤ 6000))) = lightT l := by
 unfold lightT
 by_cases h1 : l.length ≤ 20
 ·rw [decide_eq_true h1,decide_eq_true (show (l.length : Int) ≤ 20 by omega),Bool.true_and,Bool.true_and,h h1,decide_eq_decide]; omega
 ·rw [decide_eq_false h1,decide_eq_false (show ¬ (l.length : Int) ≤ 20 by omega)]; rfl
set_option maxRecDepth 100000 in
theorem light21 (la : Option Addr) (ca : Nat) (ts : List ByteArray) (Rl : List (Nat × Obj)) (w : World) (hI : InS Rl la ts.length (fun j => .string (ts.getD j ByteArray.empty))) (hR : Has w Rl) (hn : ts.length ≤ maxLen) (hsz : ∀ s ∈ ts,s.size ≤ 140737488355328) :
  Calls Tryz.prog 6 #[.slice la ts.length ca] w fun e w' => e = .returned (.bool (lightT ts)) ∧ Ext [] w w' := by
 unfold maxLen at hn
 refine enter (vs := [.slice la ts.length ca]) [] Rl [] Tryz.func6 rfl kr (HP.ofHas hR) ?_
 refine Rg [0] [] n0 trivial ?_
 refine Rg [0,3] [] n0 trivial ?_
 refine Rg [0,3,6,7,8] [] n0 trivial ?_
 refine Cfg.loop rfl (ι := Nat × Int) (fun (xz : Nat × Int) => match xz with | (i,s) => [(8,[],.int .i64 (i : Int)),(7,[],.int .i64 (ts.length : Int)),(6,[],.slice la ts.length ca),(3,[],.int .i64 s),(0,[],.slice la ts.length ca)]) (fun (xz : Nat × Int) => match xz with | (i,s) => []) (fun (xz : Nat × Int) => match xz with | (i,s) => (i ≤ ts.length) ∧ (ts.length ≤ 20 → s = (sumB (ts.take i) : Int))) (fun (xz : Nat × Int) => match xz with | (i,s) => ts.length - i) (0,0) ?_ (Conv.mk kr) .slnil ?_
 ·exact ⟨Nat.zero_le _,fun _ => rfl⟩
 ·rintro ⟨i,s⟩ ⟨hi,hs⟩
  refine Rg [0,3,6,7,8,9] [] n0 trivial ?_
  refine Cfg.cond rfl (b := (decide ((i : Int) < (ts.length : Int)))) kr (fun c1r => ?_) (fun c1r => ?_)
  ·have c1 := (of_decide_eq_true c1r)
   obtain ⟨sa,offa,csa,tea,frea,rfl,hma,hca⟩ := hI om
   refine Cg (Γ' := [(9,[],.bool (decide ((i : Int) < (ts.length : Int)))),(8,[],.int .i64 (i : Int)),(7,[],.int .i64 (ts.length : Int)),(6,[],.slice (some ⟨sa,offa,none⟩) ts.length ca),(3,[],.int .i64 s),(0,[],.slice (some ⟨sa,offa,none⟩) ts.length ca)]) ?_
   obtain ⟨x,hx⟩ : ∃ x,x = ts.getD i ByteArray.empty := ⟨_,rfl⟩
   have hxs : x.size ≤ 140737488355328 := by rw [hx]; exact hsz _ (K.getD_mem om)
   refine Rg [0,3,5,6,7,8] [dZ,(0,false,some (.string x))] (fun S => [(0 ≤ (i : Int) ∧ (i : Int) < (ts.length : Int)),(∀ w1,S w1 → w1.cell? ⟨sa,(addO offa i),none⟩ = some (.string x))]) ⟨om,(fun w1 h => by rw [addO_eq,hx]; exact (cell_cells (h.ro _ hma)).trans (hca i om)),trivial⟩ ?_
   refine Cfg.begL rfl ?_
   refine Lp 3 [] (some [0,3,6,7,8,12,14]) n0 trivial ?_
   refine Le (Eff.addW (k := .i64) (a := s) (b := (x.size : Int)) rfl kr kr) ?_
   rintro ⟨⟩ -
   refine Lp 1 [] (some [0,3,6,7,8]) n0 trivial ?_
   refine CfgL.done rfl ?_
   refine Rg [0,3,6,7,8] [] (fun _ => [((-9223372036854775808 : Int) ≤ ((i : Int) + 1) ∧ ((i : Int) + 1) ≤ 9223372036854775807)]) ⟨om,trivial⟩ ?_
   refine Cfg.again rfl (i + 1,IntKind.i64.wrap (s + (x.size : Int))) ⟨by omega,fun h20 => by
 have h8 := hs h20
 have h9 := sumB_le (m := 140737488355328) (l := ts.take i) (fun t ht => hsz t (List.mem_of_mem_take ht))
 rw [List.length_take] at h9
 rw [sumB_take om,← hx,h8,wrap_in (k := .i64) ⟨by show (-9223372036854775808 : Int) ≤ _; omega,by show _ ≤ (9223372036854775807 : Int); omega⟩]
 omega⟩ (by show ts.length - (i + 1) < ts.length - i; omega) (Conv.mk kr) .slnil
  ·have c1 := (of_decide_eq_false c1r)
   refine Rg [2] [] n0 trivial ?_
   refine Cfg.ret rfl (rs := [.tmp 2]) rfl [.bool ((decide ((ts.length : Int) ≤ (20 : Int))) && (decide (s ≤ (6000 : Int))))] ⟨kr,trivial⟩ (fun w1 hp => ?_)
   have hie : ts.take i = ts := List.take_of_length_le om
   rw [hie] at hs
   exact ⟨congrArg (fun b => Ending.returned (.bool b)) (light_eq hs),hp.ext⟩
end Go.Proofs.YtbeegepcdglcaaaGreatDoor
namespace Go.Proofs.YtbeegepcdglcaaaGreatDoor
open K
set_option linter.unusedVariables false
def rawE (e : En) : En := if 0 < e.p then ⟨e.id,ByteArray.empty,e.b,e.d,1⟩ else ⟨e.id,e.t,dzz,ByteArray.empty,0⟩
theorem tx_data (s : ByteArray) : tx s.data.toList = s := by
 apply ByteArray.ext
 simp [tx]
theorem data_tx (l : List UInt8) : (tx l).data.toList = l := rfl
theorem takeE_app {e : En} (h : EnOk e) (r : List UInt8) : takeE ⟨0,partE e ++ r⟩ = (rawE e,⟨0,r⟩) := by
 unfold takeE partE rawE
 have ht := h.t
 have hd := h.d
 by_cases hp : 0 < e.p
 ·rw [if_pos hp,if_pos hp,List.append_assoc,digF_app _ _ h.id,List.append_assoc]
  simp only
  rw [byteF_app 1 _ (by decide),if_neg (show ¬ (1 : Nat) = 0 by decide),if_pos rfl,List.append_assoc]
  simp only
  rw [digF_app _ _ h.b]
  simp only
  rw [textF_app e.d r om om]
  simp only [tx_data]
 ·rw [if_neg hp,if_neg hp,List.append_assoc,digF_app _ _ h.id,List.append_assoc]
  simp only
  rw [byteF_app 0 _ (by decide),if_pos rfl]
  simp only
  rw [textF_app e.t r om om]
  simp only [tx_data]
theorem rowsF_ents : ∀ (es : List En) (r : List UInt8) (acc : List En),(∀ e ∈ es,EnOk e) → rowsF takeE es.length ⟨0,flat partE es ++ r⟩ acc = (acc ++ es.map rawE,⟨0,r⟩)
 | [],r,acc,_ => by simp [rowsF,flat]
 | x :: xs,r,acc,h => by
  have ht := takeE_app (h x (List.mem_cons_self ..)) (flat partE xs ++ r)
  have hf : flat partE (x :: xs) ++ r = partE x ++ (flat partE xs ++ r) := by simp [flat]
  rw [List.length_cons,hf,rowsF_succ (by rw [ht]; simp),ht,rowsF_ents xs r _ (fun p hp => h p (List.mem_cons_of_mem _ hp)),List.append_assoc]
  rfl
theorem read_body {es : List En} (h : ∀ e ∈ es,EnOk e) (hn : es.length ≤ 1000000) : readF (bodyF es) = rdP (es.map rawE) [] [] := by
 have h0 : nextF ⟨0,bodyF es⟩ 4 = ([80,65,67,75],⟨0,four es.length ++ flat partE es⟩) := nextF_app [80,65,67,75] _ rfl
 have hb := body_len h
 have h1 : rdRow (bodyF es) = (es.map rawE,⟨0,[]⟩) := by
  unfold rdRow rowsT rdZ
  rw [h0]
  simp only
  rw [boundF_app es.length (flat partE es) om om]
  simp only
  have h2 := rowsF_ents es [] [] h
  rw [List.append_nil] at h2
  rw [h2]; rfl
 unfold readF
 rw [h0,h1,if_pos rfl]
 exact if_pos rfl
theorem rdP_chn (L : List En) : (∀ e ∈ L,e.p = 0) → (∀ e ∈ L,EnOk e) → (ids L).Nodup → ∀ m,rdP ((chn L).map rawE ++ m) [] [] = rdP m (ids L) (txs L) := by
 refine snoc_ind (p := fun L => (∀ e ∈ L,e.p = 0) → (∀ e ∈ L,EnOk e) → (ids L).Nodup → ∀ m,rdP ((chn L).map rawE ++ m) [] [] = rdP m (ids L) (txs L)) (fun _ _ _ m => rfl) (fun L x ih => ?_) L
 intro hp ho hn m
 have hn' : (ids L ++ [x.id]).Nodup := by unfold ids at hn ⊢; rwa [List.map_append] at hn
 have hnL := (List.nodup_append.1 hn').1
 have hoL : ∀ e ∈ L,EnOk e := fun e he => ho e (List.mem_append_left _ he)
 have ih := ih (fun e he => hp e (List.mem_append_left _ he)) hoL hnL
 have hx := ho x (List.mem_append_right _ (List.mem_cons_self ..))
 have hxp := hp x (List.mem_append_right _ (List.mem_cons_self ..))
 have hi2 : ids (L ++ [x]) = ids L ++ [x.id] := by unfold ids; rw [List.map_append]; rfl
 have ht2 : txs (L ++ [x]) = txs L ++ [x.t] := by unfold txs; rw [List.map_append]; rfl
 rw [chn_snoc,List.map_append,List.append_assoc,ih,hi2,ht2]
 show rdP (rawE (mkE (chn L) x) :: m) _ _ = _
 rcases mkE_cases (chn L) x with h | ⟨j,h0,h1,h2,h3,h⟩
 ·have hr : rawE x = ⟨x.id,x.t,dzz,ByteArray.empty,0⟩ := if_neg om
  rw [h,hr,rdP_w (show ¬ 0 < 0 by decide)]
 ·have hj := lst_lt h1
  have hci := (chn_ids L).1
  have hct := (chn_ids L).2
  have hcn : (ids (chn L)).Nodup := by rw [hci]; exact hnL
  have hat := atF_ids hcn hj
  obtain ⟨y,hy⟩ : ∃ y,y = (chn L).getD j ez := ⟨_,rfl⟩
  rw [← hy] at hat h
  have hyo : EnOk y := by rw [hy]; exact chn_ok L hoL _ (K.getD_mem hj)
  have hr : rawE (mkE (chn L) x) = ⟨x.id,ByteArray.empty,y.id,tx (mk y.t x.t),1⟩ := by rw [h]; exact if_pos (Nat.succ_pos _)
  have hty : (txs L).getD j ByteArray.empty = y.t := by
   rw [← hct,hy,getD_of _ hj,getD_of _ (by unfold txs; rw [List.length_map]; exact hj)]
   unfold txs
   rw [List.getElem_map]
  have h9 : y.t.size ≤ 10000000 := by have := hyo.t; omega
  have ha := apply_mk (a := y.t) (t := x.t) h9 hx.t
  rw [hr,rdP_d (j := j) (by show 0 < 1; decide) (by rw [← hci]; exact hat) (by rw [hty,data_tx,ha])]
  simp only
  rw [hty,data_tx,ha,tx_data]
theorem read_plan {l : List ByteArray} (hs : ∀ s ∈ l,s.size ≤ 32768) (hn : l.length ≤ 1000000) : readF (bodyF (planF l)) = some (txs (planF l)) := by
 have hpl := planF_len l
 rw [read_body (planF_ok hs) om]
 have hp : ∀ e ∈ esrt (uq l),e.p = 0 := fun e he => by rw [uq_mk0 l e ((esrt_perm _).mem_iff.1 he)]; rfl
 have h1 := rdP_chn (esrt (uq l)) hp (srt_ok hs) (esrt_strict l).nodup []
 rw [List.append_nil] at h1
 unfold planF
 rw [h1,(chn_ids _).2]; rfl
theorem uq_txs (L : List En) : (∀ e ∈ L,e = mk0 e.t) → (ids L).Nodup → uq (txs L) = L := by
 refine snoc_ind (p := fun L => (∀ e ∈ L,e = mk0 e.t) → (ids L).Nodup → uq (txs L) = L) (fun _ _ => rfl) (fun L x ih => ?_) L
 intro h hn
 have hn' : (ids L ++ [x.id]).Nodup := by unfold ids at hn ⊢; rwa [List.map_append] at hn
 have hx := h x (List.mem_append_right _ (List.mem_cons_self ..))
 have e1 : uq (txs (L ++ [x])) = uqs (uq (txs L)) x.t := by unfold uq txs; rw [List.map_append,List.foldl_append]; rfl
 rw [e1,ih (fun e he => h e (List.mem_append_left _ he)) (List.nodup_append.1 hn').1]
 have hid : sdg x.t = x.id := (congrArg En.id hx).symm
 unfold uqs
 rw [if_neg (fun hm => (List.nodup_append.1 hn').2.2 _ hm _ (List.mem_singleton.2 rfl) hid),← hx]
theorem plan_txs (l : List ByteArray) : planF (txs (planF l)) = planF l := by
 have h1 : txs (planF l) = txs (esrt (uq l)) := (chn_ids _).2
 have h2 : uq (txs (esrt (uq l))) = esrt (uq l) := uq_txs _ (fun e he => uq_mk0 l e ((esrt_perm _).mem_iff.1 he)) (esrt_strict l).nodup
 have h3 : esrt (esrt (uq l)) = esrt (uq l) := by
  have h4 := esrt_strict (txs (esrt (uq l)))
  rw [h2] at h4
  exact strict_eq (esrt_perm _) h4 (esrt_strict l)
 show chn (esrt (uq (txs (planF l)))) = chn (esrt (uq l))
 rw [h1,h2,h3]
theorem open_file {l : List ByteArray} (hs : ∀ s ∈ l,s.size ≤ 32768) (hn : l.length ≤ 1000000) : openF (fileF (planF l)) = (0,planF l) := by
 have hl : (shaD (bodyF (planF l))).length = 32 := shaD_len _
 have h1 : (fileF (planF l)).length - 32 = (bodyF (planF l)).length := by unfold fileF; rw [List.length_append]; omega
 have h2 : bodyOf (fileF (planF l)) = bodyF (planF l) := by
  unfold bodyOf
  rw [h1]
  unfold fileF
  rw [List.take_left']; rfl
 have h3 : (fileF (planF l)).drop ((fileF (planF l)).length - 32) = shaD (bodyF (planF l)) := by
  rw [h1]
  unfold fileF
  rw [List.drop_left']; rfl
 have h4 : openF (fileF (planF l)) = (0,planF (txs (planF l))) := openF_ok (by unfold fileF; rw [List.length_append]; omega) (by rw [h2,h3]; exact fun h => h rfl) (by rw [h2]; exact read_plan hs hn) (by rw [plan_txs])
 rw [h4,plan_txs]
theorem planF_nodup (l : List ByteArray) : (ids (planF l)).Nodup := by
 unfold planF
 rw [(chn_ids _).1]; exact (esrt_strict l).nodup
theorem file_len {l : List ByteArray} (hs : ∀ s ∈ l,s.size ≤ 32768) : (fileF (planF l)).length ≤ 40 + 32837 * l.length := by
 have h1 := (body_len (planF_ok hs)).2
 have h2 := planF_len l
 have h3 : (shaD (bodyF (planF l))).length = 32 := shaD_len _
 unfold fileF
 rw [List.length_append]; omega
theorem file_nil : (fileF (planF [])).length = 40 := by
 have e0 : planF [] = [] := List.eq_nil_of_length_eq_zero (Nat.le_zero.1 (planF_len []))
 rw [e0]
 have h3 : (shaD (bodyF [])).length = 32 := shaD_len _
 unfold fileF
 rw [List.length_append,h3]; rfl
end Go.Proofs.YtbeegepcdglcaaaGreatDoor
namespace Go.Proofs.YtbeegepcdglcaaaGreatDoor
open K
set_option linter.unusedVariables false
def abcD : List UInt8 := [186,120,22,191,143,1,207,234,65,65,64,222,93,174,34,35,176,3,97,163,150,23,122,156,180,16,255,97,242,0,21,173]
set_option maxRecDepth 100000 in
theorem sdg_abc : sdg ⟨#[97,98,99]⟩ = abcD := by kernel_rfl
set_option maxRecDepth 100000 in
theorem shaAwake {t0 : TypeId} {fr0 : Nat × Nat} (w : World) (hR : Has w [(0,.cells (wv Kc) t0 fr0)]) :
  Calls Tryz.prog 38 #[] w fun e w' => e = .returned (.bool true) ∧ Ext [] w w' := by
 have hK : KT (wv Kc) := fun t h => kget h
 refine enter (vs := []) [] [(0,.cells (wv Kc) t0 fr0)] [] Tryz.func38 rfl kr (HP.ofHas hR) ?_
 refine Cfg.reg rfl [] [] (Γ' := []) (nd := (fun _ => [])) (fun _ => kr) trivial ?_
 refine Cfg.begL rfl ?_
 refine CfgL.eff (o := _) rfl kr kr (Eff.buildSlice (e := 9) (cells := #[.string ⟨#[97,98,99]⟩]) (parts := #[(0,.string ⟨#[97,98,99]⟩)]) rfl kr (fun _ => kr)) ?_
 rintro bs ⟨hbs,nbs⟩
 refine CfgL.eff (o := _) rfl kr kr (Eff.callA (vs := [.slice (some ⟨bs,0,none⟩) 1 1]) (.agg (bv abcD)) rfl Tryz.func23 rfl rfl kr (fun w1 h => sdg_abc ▸ sum1 hK ⟨#[97,98,99]⟩ bs 1 w1 (h.ro _ (List.mem_cons_self ..)) (h.own _ (List.mem_cons_self ..)))) ?_
 rintro ⟨⟩ -
 refine CfgL.eff (o := _) rfl kr kr (Eff.alloc (z := (.agg (bv (List.replicate 32 0)))) rfl kr) ?_
 rintro d ⟨hd,nd⟩
 refine CfgL.eff (o := _) rfl kr kr (Eff.storeN (b := d) (off := 0) (vs := (bv abcD)) (n := 32) rfl kr kr kr rfl (all_bv _) 0 (cs := (bv (List.replicate 32 0))) (e := 36) kr (Nat.le_refl 32)) ?_
 rintro ⟨⟩ -
 refine CfgL.setO (congrArg (fun (xq : Array Value) => ([(d,.cells xq 36 (0,0)),(bs,.cells #[.string ⟨#[97,98,99]⟩] 9 (0,0))] : List (Nat × Obj))) (show _ = (bv abcD) from spl_all rfl)) ?_
 refine CfgL.done rfl ?_
 refine Conv.cfg (Γ' := [(1,[],.pointer (some ⟨d,0,none⟩))]) (Conv.mk kr) ?_
 refine Cfg.begL rfl ?_
 refine CfgL.pure 19 [dZ,(0,false,some (.int .u8 186)),dZ,dZ,dZ,(0,false,some (.int .u8 120)),dZ,dZ,dZ,dZ,(0,false,some (.int .u8 22)),dZ,dZ,dZ,dZ,(0,false,some (.int .u8 191))] (some [1,22]) (Γ' := [(22,[],.bool (((((186 : Int) == (186 : Int)) && ((120 : Int) == (120 : Int))) && ((22 : Int) == (22 : Int))) && ((191 : Int) == (191 : Int)))),(1,[],.pointer (some ⟨d,0,none⟩))]) (nd := (fun S => [(0 ≤ (0 : Int) ∧ (0 : Int) < (32 : Int)),(∀ w1,S w1 → w1.cell? ⟨d,0,none⟩ = some (.int .u8 186)),((.bool ((186 : Int) == (186 : Int)) : Value) = .bool true → (0 ≤ (1 : Int) ∧ (1 : Int) < (32 : Int))),((.bool ((186 : Int) == (186 : Int)) : Value) = .bool true → (∀ w1,S w1 → w1.cell? ⟨d,1,none⟩ = some (.int .u8 120))),((.bool (((186 : Int) == (186 : Int)) && ((120 : Int) == (120 : Int))) : Value) = .bool true → (0 ≤ (2 : Int) ∧ (2 : Int) < (32 : Int))),((.bool (((186 : Int) == (186 : Int)) && ((120 : Int) == (120 : Int))) : Value) = .bool true → (∀ w1,S w1 → w1.cell? ⟨d,2,none⟩ = some (.int .u8 22))),((.bool ((((186 : Int) == (186 : Int)) && ((120 : Int) == (120 : Int))) && ((22 : Int) == (22 : Int))) : Value) = .bool true → (0 ≤ (3 : Int) ∧ (3 : Int) < (32 : Int))),((.bool ((((186 : Int) == (186 : Int)) && ((120 : Int) == (120 : Int))) && ((22 : Int) == (22 : Int))) : Value) = .bool true → (∀ w1,S w1 → w1.cell? ⟨d,3,none⟩ = some (.int .u8 191)))])) kr (fun _ => kr) ⟨om,(fun w1 h => h.ocell 0 rfl rfl),(fun g0 => have q0 : ((186 : Int) = (186 : Int)) := (beq_iff_eq.1 (boolV g0)); om),(fun g0 => have q0 : ((186 : Int) = (186 : Int)) := (beq_iff_eq.1 (boolV g0)); (fun w1 h => h.ocell 0 rfl rfl)),(fun g0 => have q0 : (((186 : Int) = (186 : Int)) ∧ ((120 : Int) = (120 : Int))) := ⟨(beq_iff_eq.1 (andT1 (boolV g0))),(beq_iff_eq.1 (andT2 (boolV g0)))⟩; om),(fun g0 => have q0 : (((186 : Int) = (186 : Int)) ∧ ((120 : Int) = (120 : Int))) := ⟨(beq_iff_eq.1 (andT1 (boolV g0))),(beq_iff_eq.1 (andT2 (boolV g0)))⟩; (fun w1 h => h.ocell 0 rfl rfl)),(fun g0 => have q0 : ((((186 : Int) = (186 : Int)) ∧ ((120 : Int) = (120 : Int))) ∧ ((22 : Int) = (22 : Int))) := ⟨⟨(beq_iff_eq.1 (andT1 (andT1 (boolV g0)))),(beq_iff_eq.1 (andT2 (andT1 (boolV g0))))⟩,(beq_iff_eq.1 (andT2 (boolV g0)))⟩; om),(fun g0 => have q0 : ((((186 : Int) = (186 : Int)) ∧ ((120 : Int) = (120 : Int))) ∧ ((22 : Int) = (22 : Int))) := ⟨⟨(beq_iff_eq.1 (andT1 (andT1 (boolV g0)))),(beq_iff_eq.1 (andT2 (andT1 (boolV g0))))⟩,(beq_iff_eq.1 (andT2 (boolV g0)))⟩; (fun w1 h => h.ocell 0 rfl rfl)),trivial⟩ ?_
 refine CfgL.known 22 (b := (((((186 : Int) == (186 : Int)) && ((120 : Int) == (120 : Int))) && ((22 : Int) == (22 : Int))) && ((191 : Int) == (191 : Int)))) kr true kr ?_
 refine CfgL.pure 1 [(1,false,some (.agg (bv abcD)))] (some [22,23]) (Γ' := [(23,[],.agg (bv abcD)),(22,[],.bool true)]) (nd := (fun S => [((.bool true : Value) = .bool true),(∀ w1,S w1 → (loadVar 36 ⟨d,0,none⟩).run Tryz.prog w1 = .ok (.agg (bv abcD)) w1)])) kr (fun _ => kr) ⟨rfl,(fun w1 h => h.oload 0 rfl Tryz.underlying36 rfl (n := 32) kr ((bv_size _).trans rfl)),trivial⟩ ?_
 refine CfgL.eff (o := _) rfl kr kr (Eff.callA (vs := [.agg (bv abcD)]) (.string (hexS abcD)) rfl Tryz.func63 rfl rfl kr (fun w1 h => shaHex abcD w1 rfl)) ?_
 rintro ⟨⟩ -
 refine CfgL.pure 4 [(1,false,none),(1,false,none)] (some [0]) (Γ' := [(0,[],.bool (((hexS abcD).size : Int) == (64 : Int)))]) (nd := (fun _ => [((.bool true : Value) = .bool true),((.bool true : Value) = .bool true)])) kr (fun _ => kr) ⟨rfl,rfl,trivial⟩ ?_
 refine CfgL.done rfl ?_
 refine Cfg.ret rfl (rs := [.tmp 0]) rfl [.bool (((hexS abcD).size : Int) == (64 : Int))] ⟨kr,trivial⟩ (fun w1 hp => ?_)
 exact ⟨congrArg (fun b => Ending.returned (.bool b)) kr,hp.ext⟩
set_option maxRecDepth 100000 in
theorem awake01 {t0 : TypeId} {fr0 : Nat × Nat} (w : World) (hR : Has w [(0,.cells (wv Kc) t0 fr0)]) :
  Calls Tryz.prog 15 #[] w fun e w' => e = .returned (.bool true) ∧ Ext [] w w' := by
 have hK : KT (wv Kc) := fun t h => kget h
 refine enter (vs := []) [] [(0,.cells (wv Kc) t0 fr0)] [] Tryz.func15 rfl kr (HP.ofHas hR) ?_
 refine Cfg.reg rfl [] [] (Γ' := []) (nd := (fun _ => [])) (fun _ => kr) trivial ?_
 refine Cfg.begL rfl ?_
 refine CfgL.eff (o := _) rfl kr kr (Eff.callA (vs := []) (.bool true) rfl Tryz.func38 rfl rfl kr (fun w1 h => shaAwake w1 (h.hasR (fun e he => he)))) ?_
 rintro ⟨⟩ -
 refine CfgL.pure 1 [] (some [0]) (Γ' := [(0,[],.bool true)]) (nd := (fun _ => [])) kr (fun _ => kr) trivial ?_
 refine CfgL.done rfl ?_
 refine Cfg.ret rfl (rs := [.tmp 0]) rfl [.bool true] ⟨kr,trivial⟩ (fun w1 hp => ?_)
 exact ⟨rfl,hp.ext⟩
end Go.Proofs.YtbeegepcdglcaaaGreatDoor
namespace Go.Proofs.YtbeegepcdglcaaaGreatDoor
open K
set_option linter.unusedVariables false
theorem dMakeApply (a t : ByteArray) (w : World) (ha : a.size ≤ 10000000) (ht : t.size ≤ 32768) : Calls Tryz.prog 60 #[.string a,.string (tx (mk a t))] w fun e w' => e = .returned (.tuple #[.string t,.int .i64 0]) ∧ Ext [] w w' := by
 have := dApply a (mk a t) w ha
 rw [apply_mk ha ht,tx_back] at this
 exact this
theorem ex20 : (tx (mk (⟨#[97,98,99]⟩ : ByteArray) (⟨#[97,98,99]⟩ : ByteArray))).size = 21 := by decide +kernel
set_option maxRecDepth 100000 in
theorem awake20 (w : World) :
  Calls Tryz.prog 39 #[] w fun e w' => e = .returned (.bool true) ∧ Ext [] w w' := by
 refine enter (vs := []) [] [] [] Tryz.func39 rfl kr (HP.start w) ?_
 refine Cfg.reg rfl [] [] (Γ' := []) (nd := (fun _ => [])) (fun _ => kr) trivial ?_
 refine Cfg.begL rfl ?_
 refine CfgL.eff (o := _) rfl kr kr (Eff.callA (vs := [.string ⟨#[97,98,99]⟩,.string ⟨#[97,98,99]⟩]) (.string (tx (mk (⟨#[97,98,99]⟩ : ByteArray) (⟨#[97,98,99]⟩ : ByteArray)))) rfl Tryz.func49 rfl rfl kr (fun w1 _ => dMake (⟨#[97,98,99]⟩ : ByteArray) (⟨#[97,98,99]⟩ : ByteArray) w1 (by decide) (by decide))) ?_
 rintro ⟨⟩ -
 refine CfgL.pure 1 [] (some [1]) (Γ' := [(1,[],.string (tx (mk (⟨#[97,98,99]⟩ : ByteArray) (⟨#[97,98,99]⟩ : ByteArray))))]) (nd := (fun _ => [])) kr (fun _ => kr) trivial ?_
 refine CfgL.done rfl ?_
 refine Cfg.begL rfl ?_
 refine CfgL.pure 1 [] none (Γ' := [(6,[],.string (tx (mk (⟨#[97,98,99]⟩ : ByteArray) (⟨#[97,98,99]⟩ : ByteArray)))),(1,[],.string (tx (mk (⟨#[97,98,99]⟩ : ByteArray) (⟨#[97,98,99]⟩ : ByteArray))))]) (nd := (fun _ => [])) kr (fun _ => kr) trivial ?_
 refine CfgL.eff (o := _) rfl kr kr (Eff.callA (vs := [.string ⟨#[97,98,99]⟩,.string (tx (mk (⟨#[97,98,99]⟩ : ByteArray) (⟨#[97,98,99]⟩ : ByteArray)))]) (.tuple #[.string ⟨#[97,98,99]⟩,.int .i64 0]) rfl Tryz.func60 rfl rfl kr (fun w1 _ => dMakeApply (⟨#[97,98,99]⟩ : ByteArray) (⟨#[97,98,99]⟩ : ByteArray) w1 (by decide) (by decide))) ?_
 rintro ⟨⟩ -
 refine CfgL.pure 5 [] (some [1,2,3]) (Γ' := [(3,[],.int .i64 0),(2,[],.string ⟨#[97,98,99]⟩),(1,[],.string (tx (mk (⟨#[97,98,99]⟩ : ByteArray) (⟨#[97,98,99]⟩ : ByteArray))))]) (nd := (fun _ => [])) kr (fun _ => kr) trivial ?_
 refine CfgL.done rfl ?_
 refine Cfg.reg rfl [0] [] (Γ' := [(0,[],.bool (((((tx (mk (⟨#[97,98,99]⟩ : ByteArray) (⟨#[97,98,99]⟩ : ByteArray))).size : Int) == (21 : Int)) && ((⟨#[97,98,99]⟩ : ByteArray).toList == (⟨#[97,98,99]⟩ : ByteArray).toList)) && ((0 : Int) == (0 : Int))))]) (nd := (fun _ => [])) (fun _ => kr) trivial ?_
 refine Cfg.ret rfl (rs := [.tmp 0]) rfl [.bool (((((tx (mk (⟨#[97,98,99]⟩ : ByteArray) (⟨#[97,98,99]⟩ : ByteArray))).size : Int) == (21 : Int)) && ((⟨#[97,98,99]⟩ : ByteArray).toList == (⟨#[97,98,99]⟩ : ByteArray).toList)) && ((0 : Int) == (0 : Int)))] ⟨kr,trivial⟩ (fun w1 hp => ?_)
 exact ⟨congrArg (fun b => Ending.returned (.bool b)) (by rw [ex20]; simp only [beq_self_eq_true,Bool.and_true]; rfl),hp.ext⟩
set_option maxRecDepth 100000 in
theorem awakeE20 (w : World) :
  Calls Tryz.prog 16 #[] w fun e w' => e = .returned (.bool true) ∧ Ext [] w w' := by
 refine enter (vs := []) [] [] [] Tryz.func16 rfl kr (HP.start w) ?_
 refine Cfg.reg rfl [] [] (Γ' := []) (nd := (fun _ => [])) (fun _ => kr) trivial ?_
 refine Cfg.begL rfl ?_
 refine CfgL.eff (o := _) rfl kr kr (Eff.callA (vs := []) (.bool true) rfl Tryz.func39 rfl rfl kr (fun w1 _ => awake20 w1)) ?_
 rintro ⟨⟩ -
 refine CfgL.pure 1 [] (some [0]) (Γ' := [(0,[],.bool true)]) (nd := (fun _ => [])) kr (fun _ => kr) trivial ?_
 refine CfgL.done rfl ?_
 refine Cfg.ret rfl (rs := [.tmp 0]) rfl [.bool true] ⟨kr,trivial⟩ (fun w1 hp => ?_)
 exact ⟨rfl,hp.ext⟩
end Go.Proofs.YtbeegepcdglcaaaGreatDoor
namespace Go.Proofs.YtbeegepcdglcaaaGreatDoor
open K
set_option linter.unusedVariables false
theorem in_nil {Rl : List (Nat × Obj)} {f : Nat → Value} : InS Rl none 0 f := fun h => absurd h (Nat.lt_irrefl 0)
theorem kt_wv : KT (wv Kc) := fun t h => kget h
theorem open_has {w' w : World} {l : List ByteArray} (hs : ∀ s ∈ l,s.size ≤ 32768) (hn : l.length ≤ 1000000) {o : Option PkM} {e : Ending} (a1 : ∀ m,o = some m → PkOk m (openF (fileF (planF l))).2) (a2 : o = none ↔ (openF (fileF (planF l))).1 ≠ 0) (a3 : e = .returned (.tuple #[pkV o,.int .i64 (openF (fileF (planF l))).1])) (a4 : ∃ R1,HP w [] R1 (pkM o (openF (fileF (planF l))).2) w') :
  ∃ m,PkOk m (planF l) ∧ e = .returned (.tuple #[.pointer (some ⟨m.pb,0,none⟩),.int .i64 0]) ∧ ∃ R1,HP w [] R1 (pkM (some m) (planF l)) w' := by
 rw [open_file hs hn] at a1 a2 a3 a4
 cases o with
 | none => exact absurd rfl (a2.1 rfl)
 | some m => exact ⟨m,a1 m rfl,a3,a4⟩
theorem openU {l : List ByteArray} {kt : Array Value} {tt0 : TypeId} {fr0 : Nat × Nat} (w : World) (hK : KT kt) (hR : Has w [(0,Obj.cells kt tt0 fr0)]) (hs : ∀ s ∈ l,s.size ≤ 32768) (hn : l.length ≤ 900) :
  Calls Tryz.prog 9 #[.string (tx (fileF (planF l)))] w fun e w' => ∃ m,PkOk m (planF l) ∧ e = .returned (.tuple #[.pointer (some ⟨m.pb,0,none⟩),.int .i64 0]) ∧ ∃ R1,HP w [] R1 (pkM (some m) (planF l)) w' := by
 have h9 := file_len hs
 exact (pkOpen (fileF (planF l)) w hK hR om).mono fun e w' ⟨o,a1,a2,a3,a4⟩ => open_has hs om a1 a2 a3 a4
theorem plan0 : (planF []).length = 0 := Nat.le_zero.1 (planF_len [])
set_option maxRecDepth 100000 in
set_option maxHeartbeats 8000000 in
theorem awake21 {t0 : TypeId} {fr0 : Nat × Nat} (w : World) (hR : Has w [(0,Obj.cells (wv Kc) t0 fr0)]) :
  Calls Tryz.prog 5 #[] w fun e w' => e = .returned (.bool true) ∧ Ext [] w w' := by
 refine enter (vs := []) [] [(0,.cells (wv Kc) t0 fr0)] [] Tryz.func5 rfl kr (HP.ofHas hR) ?_
 refine Rg [] [] n0 trivial ?_
 refine Cfg.begL rfl ?_
 refine Le (Eff.callA (vs := [.slice none 0 0]) (.string (tx (fileF (planF [])))) rfl Tryz.func7 rfl rfl kr (fun w1 h => pkBuild none 0 [] [] w1 kt_wv in_nil (fun e he => h.ro e (by rw [List.mem_singleton.1 he]; exact (List.mem_cons_self ..))) (by decide) (fun s hs => by cases hs))) ?_
 rintro ⟨⟩ -
 refine Lp 1 [] (some [1]) n0 trivial ?_
 refine CfgL.done rfl ?_
 refine Cfg.begL rfl ?_
 refine Lp 1 [] none n0 trivial ?_
 refine Le (Eff.callH (vs := [.string (tx (fileF (planF [])))]) (fun m : PkM => .tuple #[.pointer (some ⟨m.pb,0,none⟩),.int .i64 0]) [] (fun m => pkM (some m) (planF [])) (fun m => PkOk m (planF [])) [] [] rfl rfl Tryz.func9 rfl rfl kr (fun w1 h _ _ => (openU w1 kt_wv (fun e he => h.ro e (by rw [List.mem_singleton.1 he]; exact (List.mem_cons_self ..))) (fun s hs => by cases hs) (by decide)).mono fun _ _ ⟨m,a1,a2,a3⟩ => ⟨m,a1,a2,a3⟩)) ?_
 rintro m hm
 refine Lp 5 [] (some [1,2,3]) n0 trivial ?_
 refine CfgL.done rfl ?_
 refine Cfg.begL rfl ?_
 refine Lp 8 [] (some [2,17]) n0 trivial ?_
 refine CfgL.known 17 (b := ((((tx (fileF (planF []))).size : Int) == (40 : Int)) && true)) kr true (by rw [tx_size,file_nil]; rfl) ?_
 refine Lp 1 [(1,false,none)] (some [17,18]) (fun _ => [((.bool true : Value) = .bool true)]) ⟨rfl,trivial⟩ ?_
 refine Le (Eff.callA (vs := [.pointer (some ⟨m.pb,0,none⟩)]) (.int .i64 ((planF []).length : Int)) rfl Tryz.func14 rfl rfl kr (fun w1 h => pkLen m (planF []) (pkM (some m) (planF [])) w1 hm (fun e he => (planF_ok (fun s hs => by cases hs) e he).l) (fun e he => he) (fun e he => h.own e (show _ ∈ (([] ++ (pkM (some m) (planF []) ++ [])) : List (Nat × Obj)) from (List.mem_append_right _ (List.mem_append_left _ he)))) (by rw [plan0]; decide))) ?_
 rintro ⟨⟩ -
 refine Lp 3 [(1,false,none)] (some [22]) (fun _ => [((.bool true : Value) = .bool true)]) ⟨rfl,trivial⟩ ?_
 refine CfgL.known 22 (b := (((planF []).length : Int) == (0 : Int))) kr true (by rw [plan0]; rfl) ?_
 refine Le (Eff.callA (vs := []) (.bool true) rfl Tryz.func15 rfl rfl kr (fun w1 h => awake01 w1 (fun e he => h.ro e (by rw [List.mem_singleton.1 he]; exact (List.mem_cons_self ..))))) ?_
 rintro ⟨⟩ -
 refine CfgL.pure 2 [] (some [25]) (Γ' := [(25,[],.bool true)]) (nd := (fun _ => [])) kr (fun _ => kr) trivial ?_
 refine Le (Eff.callA (vs := []) (.bool true) rfl Tryz.func16 rfl rfl kr (fun w1 h => awakeE20 w1)) ?_
 rintro ⟨⟩ -
 refine Lp 2 [] (some [0]) n0 trivial ?_
 refine CfgL.done rfl ?_
 refine Cfg.ret rfl (rs := [.tmp 0]) rfl [.bool true] ⟨kr,trivial⟩ (fun w1 hp => ?_)
 exact ⟨rfl,hp.ext⟩
end Go.Proofs.YtbeegepcdglcaaaGreatDoor
namespace Go.Proofs.YtbeegepcdglcaaaGreatDoor
open K
set_option linter.unusedVariables false
theorem light_of {l : List ByteArray} (h : lightT l = true) : l.length ≤ 20 ∧ ∀ s ∈ l,s.size ≤ 32768 := by
 unfold lightT at h
 rw [Bool.and_eq_true,decide_eq_true_eq,decide_eq_true_eq] at h
 exact ⟨h.1,fun s hs => by have := sumB_mem s hs; omega⟩
set_option maxRecDepth 100000 in
set_option maxHeartbeats 8000000 in
theorem packBuildsWalk (la : Option Addr) (ca : Nat) (ts : List ByteArray) (Rl : List (Nat × Obj)) {t0 : TypeId} {fr0 : Nat × Nat} (w : World) (hI : InS Rl la ts.length (fun j => .string (ts.getD j ByteArray.empty))) (hR : Has w ((0,Obj.cells (wv Kc) t0 fr0) :: Rl)) (hn : ts.length ≤ maxLen) (hsz : ∀ s ∈ ts,s.size ≤ 140737488355328) :
  Calls Tryz.prog 3 #[.slice la ts.length ca] w fun e w' => e = .returned (.bool true) ∧ Ext [] w w' := by
 refine enter (vs := [.slice la ts.length ca]) [] ((0,Obj.cells (wv Kc) t0 fr0) :: Rl) [] Tryz.func3 rfl kr (HP.ofHas hR) ?_
 refine Rg [0] [] n0 trivial ?_
 refine Cfg.begL rfl ?_
 refine Le (Eff.callA (vs := []) (.bool true) rfl Tryz.func5 rfl rfl kr (fun w1 h => awake21 w1 (fun e he => h.ro e (by rw [List.mem_singleton.1 he]; exact (List.mem_cons_self ..))))) ?_
 rintro ⟨⟩ -
 refine Lp 1 [] (some [0,9]) n0 trivial ?_
 refine CfgL.done rfl ?_
 refine Cfg.condF rfl (b := false) kr rfl ?_
 refine Cfg.begL rfl ?_
 refine Lp 1 [] (some [0,10]) n0 trivial ?_
 refine Le (Eff.callA (vs := [.slice la ts.length ca]) (.bool (lightT ts)) rfl Tryz.func6 rfl rfl kr (fun w1 h => light21 la ca ts Rl w1 hI (h.hasR (fun e he => List.mem_cons_of_mem _ he)) hn hsz)) ?_
 rintro ⟨⟩ -
 refine Lp 1 [] (some [0,12]) n0 trivial ?_
 refine CfgL.done rfl ?_
 refine Cfg.cond rfl (b := (!(lightT ts))) kr (fun c2r => ?_) (fun c2r => ?_)
 ·have c2 : ((lightT ts) = false) := (notT c2r)
  refine Rg [2] [] n0 trivial ?_
  refine Cfg.ret rfl (rs := [.tmp 2]) rfl [.bool true] ⟨kr,trivial⟩ (fun w1 hp => ?_)
  exact ⟨rfl,hp.ext⟩
 ·have c2 : ((lightT ts) = true) := (notF c2r)
  obtain ⟨hl20,hs3⟩ := light_of (l := ts) (by simpa using c2)
  refine Cfg.begL rfl ?_
  refine Lp 1 [] (some [0,13]) n0 trivial ?_
  refine Le (Eff.callA (vs := [.slice la ts.length ca]) (.string (tx (fileF (planF ts)))) rfl Tryz.func7 rfl rfl kr (fun w1 h => pkBuild la ca ts Rl w1 kt_wv hI (h.hasR (fun e he => he)) om hs3)) ?_
  rintro ⟨⟩ -
  refine Lp 1 [] (some [0,3]) n0 trivial ?_
  refine CfgL.done rfl ?_
  refine Cfg.begL rfl ?_
  refine CfgL.pure 1 [] (some [3,16]) (Γ' := [(16,[],.slice la ts.length ca),(3,[],.string (tx (fileF (planF ts))))]) (nd := (fun _ => [])) kr (fun _ => kr) trivial ?_
  refine Le (Eff.callH (vs := [.slice la ts.length ca]) (fun ow : K.Own => .tuple #[.string (tx (fileF (planF ts))),.slice (Own.a ow) (planF ts).length (Own.c ow)]) [] (fun ow => Own.o 49 ((planF ts).flatMap enr) ow) (fun ow => OwnOk ow 66 (planF ts).length ((planF ts).flatMap enr)) [] [] rfl rfl Tryz.func8 rfl rfl kr (fun w1 h _ _ => (rBuild la ca ts Rl w1 hI (h.hasR (fun e he => List.mem_cons_of_mem _ he)) om hs3).mono fun _ _ ⟨ow,a1,a2,a3⟩ => ⟨ow,a1,a2,a3⟩)) ?_
  rintro ow hok
  refine Lp 5 [] (some [3,4,5]) n0 trivial ?_
  refine CfgL.done rfl ?_
  refine Cfg.begL rfl ?_
  refine Lp 1 [] none n0 trivial ?_
  refine Le (Eff.callH (vs := [.string (tx (fileF (planF ts)))]) (fun m : PkM => .tuple #[.pointer (some ⟨m.pb,0,none⟩),.int .i64 0]) [] (fun m => pkM (some m) (planF ts)) (fun m => PkOk m (planF ts)) [] ([] ++ (Own.o 49 ((planF ts).flatMap enr) ow ++ [])) rfl rfl Tryz.func9 rfl rfl kr (fun w1 h _ _ => (openU w1 kt_wv (fun e he => h.ro e (by rw [List.mem_singleton.1 he]; exact (List.mem_cons_self ..))) hs3 om).mono fun _ _ ⟨m,a1,a2,a3⟩ => ⟨m,a1,a2,a3⟩)) ?_
  rintro m hm
  refine Lp 5 [] (some [3,4,5,6,7]) n0 trivial ?_
  refine CfgL.done rfl ?_
  refine Cfg.begL rfl ?_
  refine Lp 8 [] (some [5,6,32]) n0 trivial ?_
  refine CfgL.known 32 (b := (((tx (fileF (planF ts))).toList == (tx (fileF (planF ts))).toList) && true)) kr true (by rw [beq_self_eq_true]; rfl) ?_
  refine Lp 2 [(1,false,none),(1,false,none)] (some [32,33,34]) (fun _ => [((.bool true : Value) = .bool true),((.bool true : Value) = .bool true)]) ⟨rfl,rfl,trivial⟩ ?_
  refine Le (Eff.callH (vs := [.pointer (some ⟨m.pb,0,none⟩),.slice (Own.a ow) ((planF ts).length) (Own.c ow)]) (fun _ : Unit => .bool true) (pkM (some m) (planF ts) ++ (Own.o 49 ((planF ts).flatMap enr) ow ++ [])) (fun _ => (pkM (some m) (planF ts) ++ (Own.o 49 ((planF ts).flatMap enr) ow ++ []))) (fun _ => True) [] [] (by simp only [List.nil_append,List.append_nil]) rfl Tryz.func10 rfl rfl kr (fun w1 h hA hd => (same21 m (planF ts) (Own.a ow) (Own.c ow) ow w1 hm (fun e he => (planF_ok hs3 e he).l) (planF_nodup ts) (fun h0 => own_at hok h0) hA hd (by have := planF_len ts; omega)).mono fun _ _ ⟨h1,h2⟩ => ⟨(),trivial,h1,h2⟩)) ?_
  rintro ⟨⟩ -
  refine Lp 2 [] (some [2]) n0 trivial ?_
  refine CfgL.done rfl ?_
  refine Cfg.ret rfl (rs := [.tmp 2]) rfl [.bool true] ⟨kr,trivial⟩ (fun w1 hp => ?_)
  exact ⟨rfl,hp.ext⟩
end Go.Proofs.YtbeegepcdglcaaaGreatDoor
namespace Go.Proofs.YtbeegepcdglcaaaGreatDoor
open K
set_option linter.unusedVariables false
open Go.ChangeShapes Go.WideShapes K
set_option maxRecDepth 100000 in
theorem str_openW {H : Type} {enc : TypeId × Value → H} {w : World} {base : Nat} {held : Bool} (cs : List Value) (fuel : Nat) (y : DataW H × List MemPlace) (_ : cs.length = 1) (h : DataW.trod enc Tryz.prog w base (fun _ => true) held fuel 9 cs = some y) (hw : (y.1.weights Tryz.prog 9).all (· ≤ reachBytes) = true) : ∃ s : ByteArray,s.size ≤ 140737488355328 ∧ cs = [Value.string s] := by
 obtain ⟨s,rfl,rfl,hs⟩ := DataW.trod_string Tryz.underlying9 h
 refine ⟨s,?_,rfl⟩
 have h2 := reachBytes_lt
 have h3 : s.data.toList.length ≤ reachBytes := by simpa [DataW.weights] using hw
 have h4 := ba_len s
 omega
set_option maxRecDepth 100000 in
theorem open_textsW {H : Type} {enc : TypeId × Value → H} {w : World} {base : Nat} {held : Bool} {r : Reach} {b0 : Nat} {v : Value} {d : DataW H} {p : List MemPlace} (hv : Value.okWide Tryz.prog w r b0 22 v) (h : DataW.Trod enc Tryz.prog w base (fun _ => true) held 22 v d p) (hw : (d.weights Tryz.prog 22).all (· ≤ reachBytes) = true) :
  ∃ (la : Option Addr) (cap : Nat) (ts : List ByteArray) (Rl : List (Nat × Obj)),v = .slice la ts.length cap ∧ ts.length ≤ cap ∧ cap ≤ maxLen ∧ (∀ s ∈ ts,s.size ≤ 140737488355328) ∧ Has w Rl ∧ InS Rl la ts.length (fun j => .string (ts.getD j ByteArray.empty)) := by
 obtain ⟨a0,n0,c0,rfl⟩ := okWide_slice Tryz.underlying22 hv
 obtain ⟨fuel,hf⟩ := h
 obtain ⟨la,cap,xs,Rl,h1,h2,h3,_,h5,h6,h7,_⟩ := trod_flatW (sz := 1) (fun s : ByteArray => [Value.string s]) (fun s => s.size ≤ 140737488355328) Tryz.underlying22 kr (by decide) str_openW hf hw
 refine ⟨la,cap,xs,Rl,?_,h2,h3,h5,h6,?_⟩
 ·have h9 : [Value.slice a0 n0 c0] = [.slice la xs.length cap] := h1
  exact (List.cons.inj h9).1
 ·rw [Nat.mul_one] at h7
  refine h7.more (fun _ hx => hx) fun j hj => ?_
  rw [← List.map_eq_flatMap,List.getD_eq_getElem?_getD,List.getElem?_map,List.getD_eq_getElem?_getD,List.getElem?_eq_getElem hj]
  rfl
end Go.Proofs.YtbeegepcdglcaaaGreatDoor
