/- Texts on which the proof of this claim stands: Jp6, Jp7, Jp8, Jp9, JpA, Hex, ShaA, JpW. -/
import Derived.Test.YtohjpggjgomgoaaGreatDoorP6
import Derived.Test.YtohjpggjgomgoaaGreatDoorP2
import Derived.Test.YtohjpggjgomgoaaGreatDoorRows
import Derived.Test.YtohjpggjgomgoaaGreatDoorP1
import Derived.Test.YtohjpggjgomgoaaGreatDoorP4
namespace Go.Proofs.YtohjpggjgomgoaaGreatDoor
open K
set_option linter.unusedVariables false
theorem mid_apart {w0 w : World} {M : List Nat} {R F A T : List (Nat × Obj)} (h : HP w0 M R (F ++ (A ++ T)) w) : ∀ e,(e ∈ F ∨ e ∈ T) → e.1 ∉ A.map (·.1) := fun e he hm => by
 obtain ⟨e2,h2,h3⟩ := List.mem_map.1 hm
 have hd := h.dist
 rw [List.map_append,List.map_append] at hd
 have h4 := List.nodup_append.1 hd
 rcases he with he | he
 ·exact h4.2.2 e.1 (List.mem_map.2 ⟨e,he,rfl⟩) e2.1 (List.mem_append_left _ (List.mem_map.2 ⟨e2,h2,rfl⟩)) h3.symm
 ·have h5 := List.nodup_append.1 h4.2.1
  exact h5.2.2 e2.1 (List.mem_map.2 ⟨e2,h2,rfl⟩) e.1 (List.mem_map.2 ⟨e,he,rfl⟩) h3
theorem jblk_w {D : DK} (h : DG D) (i : Nat) : W5 (jblk D i) := fun x hx => by
 obtain ⟨k,_,rfl⟩ := List.mem_map.1 hx
 exact readF_len h _
theorem jblk_rows (D : DK) (i : Nat) : rows (jblk D i) ++ (bv (readF D ((i + 1 : Nat) : Int))).toList = rows (jblk D (i + 1)) := by
 rw [jblk_next,rows_app,rows_one]
theorem flt_pos {D : DK} (h : fltF D 0 = 0) : 0 < D.last.length := by
 have := fltF_in h; omega
theorem inD_w {l : List Wr} (h : WW l) (D : DK) : WW (inD D l) := fun x hx => h x (List.mem_filter.1 hx).1
theorem inD_len (D : DK) (l : List Wr) : (inD D l).length ≤ l.length := List.length_filter_le _ _
theorem parL_96 {H : List UInt8} {bs : List (List UInt8)} : (parL H bs).length ≤ 96 := by
 unfold parL; split
 ·rename_i hg
  rw [rowP_len]
  unfold parG at hg
  simp only [Bool.and_eq_true,decide_eq_true_eq] at hg
  omega
 ·exact Nat.zero_le _
theorem op_flt {D : DK} (h : fltF D 0 ≠ 0) : openF D = (fltF D 0,0,D) := if_pos h
theorem op_no {D : DK} (h : fltF D 0 = 0) (h2 : openG D = false) : openF D = (0,0,D) := (if_neg (fun e => e h)).trans (if_pos h2)
theorem op_err {D : DK} (h : fltF D 0 = 0) (h2 : openG D = true) (h3 : (layF D (openL D)).1 ≠ 0) : openF D = ((layF D (openL D)).1,0,(layF D (openL D)).2) := (if_neg (fun e => e h)).trans ((if_neg (by rw [h2]; decide)).trans (if_pos h3))
theorem op_ok {D : DK} (h : fltF D 0 = 0) (h2 : openG D = true) (h3 : (layF D (openL D)).1 = 0) : openF D = (0,parN (readF D 0) (jrows D),(layF D (openL D)).2) := (if_neg (fun e => e h)).trans ((if_neg (by rw [h2]; decide)).trans (if_neg (fun e => e h3)))
theorem op_has {w0 w : World} {M : List Nat} {R L S T A : List (Nat × Obj)} {jb : Nat × Obj} (h : HP w0 M R (L ++ (S ++ (A ++ T))) w) (hj : jb ∈ L) : Has w (jb :: S) := fun e he => by
 rcases List.mem_cons.1 he with rfl | he
 ·exact h.own _ (List.mem_append_left _ hj)
 ·exact h.own _ (List.mem_append_right _ (List.mem_append_left _ he))
theorem op_apart {w0 w : World} {M : List Nat} {R L S T A : List (Nat × Obj)} {jb : Nat × Obj} (h : HP w0 M R (L ++ (S ++ (A ++ T))) w) (hj : jb ∈ L) : ∀ e ∈ jb :: S,e.1 ∉ A.map (·.1) := fun e he => by
 have h9 : HP w0 M R ((L ++ S) ++ (A ++ T)) w := by rw [List.append_assoc]; exact h
 refine mid_apart h9 e (.inl ?_)
 rcases List.mem_cons.1 he with rfl | he
 ·exact List.mem_append_left _ hj
 ·exact List.mem_append_right _ he
set_option maxRecDepth 100000 in
set_option maxHeartbeats 8000000 in
theorem jOpen (m : DM) (x : MX) (D : DK) (t0 : TypeId) (fr0 : Nat × Nat) (w : World) (hg : DG D) (hmo : MapOk x.1 x.2 (wv2 D.wait)) (hs : 0 ≤ D.steps ∧ D.steps ≤ 4611686018426000000) (hA : Has w (dO D m x)) (hd : ((dO D m x).map (·.1)).Nodup) (hR : Has w [(0,Obj.cells (wv Kc) t0 fr0)]) (hnr : ∀ e ∈ [(0,Obj.cells (wv Kc) t0 fr0)],e.1 ∉ (dO D m x).map (·.1)) :
  Calls Tryz.prog 15 #[.pointer (some ⟨m.d,0,none⟩)] w fun e w' => (∃ z : MX × Nat,(openF D).1 = 0 ∧ MapOk z.1.1 z.1.2 (wv2 (openF D).2.2.wait) ∧ e = .returned (.tuple #[.pointer (some ⟨z.2,0,none⟩),.int .i64 0]) ∧ ∃ R1,HP w ((dO D m x).map (·.1)) R1 ((z.2,Obj.cells #[.int .i64 (0 : Int),.pointer (some ⟨m.d,0,none⟩),.int .u64 ((openF D).2.1 : Int)] 121 (0,0)) :: dO (openF D).2.2 m z.1) w') ∨ (∃ y : MX,(openF D).1 ≠ 0 ∧ MapOk y.1 y.2 (wv2 (openF D).2.2.wait) ∧ e = .returned (.tuple #[.pointer none,.int .i64 (openF D).1]) ∧ ∃ R1,HP w ((dO D m x).map (·.1)) R1 (dO (openF D).2.2 m y) w') := by
 have hnl := hg.n
 obtain ⟨nB,hnB⟩ : ∃ n,n = min 97 D.last.length - 1 := ⟨_,rfl⟩
 obtain ⟨mn,hmn⟩ : ∃ q : Nat,q = min 97 D.last.length := ⟨_,rfl⟩
 have hmm : (if (D.last.length : Int) < (97 : Int) then (D.last.length : Int) else (97 : Int)) = (mn : Int) := by rw [hmn]; split <;> omega
 refine enter (vs := [.pointer (some ⟨m.d,0,none⟩)]) ((dO D m x).map (·.1)) [(0,Obj.cells (wv Kc) t0 fr0)] ([] ++ (dO D m x ++ [])) Tryz.func15 rfl kr (by rw [List.append_nil]; exact HP.ofL hA hd hR hnr) ?_
 refine Cfg.begL rfl ?_
 refine Le (Eff.box (v := .pointer (some ⟨m.d,0,none⟩)) rfl kr) ?_
 rintro kb ⟨hkb,nkb⟩
 refine Lp 2 [] (some [1]) n0 trivial ?_
 refine CfgL.done rfl ?_
 refine Cfg.begL rfl ?_
 refine Lp 1 [(0,false,some (.pointer (some ⟨m.d,0,none⟩)))] none (fun S => [(∀ w1,S w1 → w1.cell? ⟨kb,0,none⟩ = some (.pointer (some ⟨m.d,0,none⟩)))]) ⟨(fun w1 h => h.ocell 0 rfl rfl),trivial⟩ ?_
 refine Le (Eff.callA (vs := [.pointer (some ⟨m.d,0,none⟩),.int .i64 0]) (.tuple #[.agg (bv (readF D 0)),.int .i64 (fltF D 0)]) rfl Tryz.func50 rfl rfl kr (fun w1 h => dRead m x D 0 w1 hg hmo (mem_has h (List.Sublist.trans (List.sublist_append_left (dO D m x) _) (List.sublist_append_right [(kb,Obj.cells #[.pointer (some ⟨m.d,0,none⟩)] 46 (0,0))] _))))) ?_
 rintro ⟨⟩ -
 refine Lp 3 [] (some [1,18,19]) n0 trivial ?_
 refine Le (Eff.alloc (z := (.agg (bv (List.replicate 512 0)))) rfl kr) ?_
 rintro hb ⟨hhb,nhb⟩
 refine Le (Eff.storeN (b := hb) (off := 0) (vs := (bv (readF D 0))) (n := 512) rfl kr kr kr ((bv_size _).trans (readF_len hg _)) (all_bv _) 0 (cs := (bv (List.replicate 512 0))) (e := 25) kr (by rw [zsz512]; omega)) ?_
 rintro ⟨⟩ -
 refine CfgL.setO (congrArg (fun (xq : Array Value) => (([(hb,.cells xq 25 (0,0)),(kb,.cells #[.pointer (some ⟨m.d,0,none⟩)] 46 (0,0))] ++ (dO D m x ++ [])) : List (Nat × Obj))) (show _ = (bv (readF D 0)) from spl_all (((bv_size _).trans (readF_len hg _)).trans zsz512.symm))) ?_
 refine Lp 1 [] (some [1,4,5]) n0 trivial ?_
 refine CfgL.done rfl ?_
 refine Rg [1,4,5,21] [] n0 trivial ?_
 refine Cfg.cond rfl (b := ((fltF D 0) != (0 : Int))) kr (fun c1r => ?_) (fun c1r => ?_)
 ·have c1 := (bne_iff_ne.1 c1r)
  refine Rg [2,3] [] n0 trivial ?_
  refine Cfg.ret rfl (rs := [.tmp 2,.tmp 3]) rfl [.pointer none,.int .i64 (fltF D 0)] ⟨kr,by kernel_rfl,trivial⟩ (fun w1 hp => ?_)
  have hx : openF D = (fltF D 0,0,D) := op_flt c1
  rw [hx]
  have h9 : HP w ((dO D m x).map (·.1)) [(0,Obj.cells (wv Kc) t0 fr0)] (([] : List (Nat × Obj)) ++ (dO D m x ++ [])) w1 := hp.sub (.cons _ (.cons _ (List.Sublist.append (l₁ := dO D m x) (l₂ := dO D m x) (r₁ := []) (List.Sublist.refl _) (List.nil_sublist _))))
  rw [List.append_nil] at h9
  exact .inr ⟨x,c1,hmo,rfl,_,h9⟩
 ·have c1 := (bne_eq_false_iff_eq.1 c1r)
  have hf0 : fltF D 0 = 0 := c1
  have hlp := flt_pos hf0
  refine Rg [1,4,6] [] n0 trivial ?_
  refine Cfg.reg rfl [1,4,6,7] [] (Γ' := [(7,[],.int .i64 1),(6,[],.slice none 0 0),(4,[],.pointer (some ⟨hb,0,none⟩)),(1,[],.pointer (some ⟨kb,0,none⟩))]) (nd := (fun _ => [])) (fun _ => kr) trivial ?_
  refine Cg (Γ' := [(7,[],.int .i64 1),(6,[],.slice none 0 0),(4,[],.pointer (some ⟨hb,0,none⟩)),(1,[],.pointer (some ⟨kb,0,none⟩))]) ?_
  refine Cfg.setG (congrArg (fun (xq : Int) => ([(7,[],.int .i64 xq),(6,[],.slice none 0 0),(4,[],.pointer (some ⟨hb,0,none⟩)),(1,[],.pointer (some ⟨kb,0,none⟩))] : Env)) (show _ = (((0 + 1) : Nat) : Int) from rfl)) ?_
  refine Cfg.loop rfl (ι := Nat × K.Own) (fun (xz : Nat × K.Own) => match xz with | (i,ob) => [(7,[],.int .i64 (((i + 1) : Nat) : Int)),(6,[],.slice (Own.a ob) i (Own.c ob)),(4,[],.pointer (some ⟨hb,0,none⟩)),(1,[],.pointer (some ⟨kb,0,none⟩))]) (fun (xz : Nat × K.Own) => match xz with | (i,ob) => ([(hb,.cells (bv (readF D 0)) 25 (0,0)),(kb,.cells #[.pointer (some ⟨m.d,0,none⟩)] 46 (0,0))] ++ (dO D m x ++ (Own.o 25 (rows (jblk D i)) ob ++ [])))) (fun (xz : Nat × K.Own) => match xz with | (i,ob) => (i ≤ nB) ∧ (OwnOk ob 512 i (rows (jblk D i)))) (fun (xz : Nat × K.Own) => match xz with | (i,ob) => nB - i) (0,none) ?_ (Conv.mk kr) (List.Sublist.refl _) ?_
  ·exact ⟨Nat.zero_le _,OwnOk.none _⟩
  ·rintro ⟨i,ob⟩ ⟨hi,hob⟩
   refine Cfg.begL rfl ?_
   refine Lp 2 [dZ,(0,false,some (.pointer (some ⟨m.d,0,none⟩)))] none (fun S => [(∀ w1,S w1 → w1.cell? ⟨kb,0,none⟩ = some (.pointer (some ⟨m.d,0,none⟩)))]) ⟨(fun w1 h => h.ocell 1 rfl rfl),trivial⟩ ?_
   refine Le (Eff.callA (vs := [.pointer (some ⟨m.d,0,none⟩)]) (.int .i64 (D.last.length : Int)) rfl Tryz.func51 rfl rfl kr (fun w1 h => dSectors m x D w1 (mem_has h (List.Sublist.trans (List.sublist_append_left (dO D m x) _) (List.sublist_append_right [(hb,Obj.cells (bv (readF D 0)) 25 (0,0)),(kb,Obj.cells #[.pointer (some ⟨m.d,0,none⟩)] 46 (0,0))] _))))) ?_
   rintro ⟨⟩ -
   refine Le (Eff.minI2 (k := .i64) (a := (97 : Int)) (b := (D.last.length : Int)) (mn : Int) hmm rfl kr kr) ?_
   rintro ⟨⟩ -
   refine Lp 1 [] (some [1,4,6,7,27]) n0 trivial ?_
   refine CfgL.done rfl ?_
   refine Cfg.cond rfl (b := (decide ((((i + 1) : Nat) : Int) < (mn : Int)))) kr (fun c2r => ?_) (fun c2r => ?_)
   ·have c2 := (of_decide_eq_true c2r)
    refine Cfg.begL rfl ?_
    refine Lp 2 [(0,false,some (.pointer (some ⟨m.d,0,none⟩)))] (some [1,4,6,7,31,32]) (fun S => [(∀ w1,S w1 → w1.cell? ⟨kb,0,none⟩ = some (.pointer (some ⟨m.d,0,none⟩)))]) ⟨(fun w1 h => h.ocell 1 rfl rfl),trivial⟩ ?_
    refine Le (Eff.callA (vs := [.pointer (some ⟨m.d,0,none⟩),.int .i64 (((i + 1) : Nat) : Int)]) (.tuple #[.agg (bv (readF D ((i + 1 : Nat) : Int))),.int .i64 0]) rfl Tryz.func50 rfl rfl kr (fun w1 h => by have h9 := dRead m x D ((i + 1 : Nat) : Int) w1 hg hmo (mem_has h (List.Sublist.trans (List.sublist_append_left (dO D m x) _) (List.sublist_append_right [(hb,Obj.cells (bv (readF D 0)) 25 (0,0)),(kb,Obj.cells #[.pointer (some ⟨m.d,0,none⟩)] 46 (0,0))] _))); rw [flt_all hf0 om] at h9; exact h9)) ?_
    rintro ⟨⟩ -
    refine Lp 3 [] (some [1,4,6,7,34,35]) n0 trivial ?_
    refine Le (Eff.alloc (z := (.agg (bv (List.replicate 512 0)))) rfl kr) ?_
    rintro xb ⟨hxb,nxb⟩
    refine Le (Eff.storeN (b := xb) (off := 0) (vs := (bv (readF D ((i + 1 : Nat) : Int)))) (n := 512) rfl kr kr kr ((bv_size _).trans (readF_len hg _)) (all_bv _) 0 (cs := (bv (List.replicate 512 0))) (e := 25) kr (by rw [zsz512]; omega)) ?_
    rintro ⟨⟩ -
    refine CfgL.setO (congrArg (fun (xq : Array Value) => (([(xb,.cells xq 25 (0,0)),(hb,.cells (bv (readF D 0)) 25 (0,0)),(kb,.cells #[.pointer (some ⟨m.d,0,none⟩)] 46 (0,0))] ++ (dO D m x ++ (Own.o 25 (rows (jblk D i)) ob ++ []))) : List (Nat × Obj))) (show _ = (bv (readF D ((i + 1 : Nat) : Int))) from spl_all (((bv_size _).trans (readF_len hg _)).trans zsz512.symm))) ?_
    refine Lp 1 [] (some [1,4,6,7,8,9]) n0 trivial ?_
    refine CfgL.done rfl ?_
    refine Rg [1,4,6,7,8,9,37] [] n0 trivial ?_
    refine Cfg.condF rfl (b := false) kr rfl ?_
    refine Cfg.begL rfl ?_
    refine Lp 2 [dZ,(0,false,some (.agg (bv (readF D ((i + 1 : Nat) : Int)))))] (some [1,4,6,7,39,40]) (fun S => [(∀ w1,S w1 → (loadVar 25 ⟨xb,0,none⟩).run Tryz.prog w1 = .ok (.agg (bv (readF D ((i + 1 : Nat) : Int)))) w1)]) ⟨(fun w1 h => h.oload 0 rfl Tryz.underlying25 rfl (n := 512) kr ((bv_size _).trans (readF_len hg _))),trivial⟩ ?_
    refine Le (Eff.buildAgg (vs := (bv (readF D ((i + 1 : Nat) : Int)))) (n := 512) rfl kr Tryz.underlying34 kr (z := (.agg (bv (List.replicate 512 0)))) kr ((bv_size _).trans (readF_len hg _)) (by decide) (by decide)) ?_
    rintro sb4 ⟨hsb4,nsb4⟩
    refine Le (Eff.appendF rfl 512 512 Tryz.underlying34 kr (z := (.agg (bv (List.replicate 512 0)))) kr kr ob (xs := (rows (jblk D i))) hob kr (b2 := sb4) (off2 := 0) (m := 1) (c2 := 1) kr ((bv (readF D ((i + 1 : Nat) : Int))).toList) (by rw [Array.length_toList,bv_size,readF_len hg _]) (all_bv _) ([(sb4,.cells (bv (readF D ((i + 1 : Nat) : Int))) 25 (0,0)),(xb,.cells (bv (readF D ((i + 1 : Nat) : Int))) 25 (0,0)),(hb,.cells (bv (readF D 0)) 25 (0,0)),(kb,.cells #[.pointer (some ⟨m.d,0,none⟩)] 46 (0,0))] ++ dO D m x) [] (by rfl) (fun w1 h j v hj => by rw [Nat.zero_add]; exact h.ocell 0 rfl (by rw [← Array.getElem?_toList]; exact hj)) om om) ?_
    rintro o5 ko5
    refine CfgL.pure 1 [] (some [1,4,6,7]) (Γ' := [(6,[],.slice (Own.a o5) ((i + 1)) (Own.c o5)),(7,[],.int .i64 (((i + 1) : Nat) : Int)),(4,[],.pointer (some ⟨hb,0,none⟩)),(1,[],.pointer (some ⟨kb,0,none⟩))]) (nd := (fun _ => [])) kr (fun _ => kr) trivial ?_
    refine CfgL.done rfl ?_
    refine Rg [1,4,6,7] [] (fun _ => [((-9223372036854775808 : Int) ≤ ((((i + 1) : Nat) : Int) + 1) ∧ ((((i + 1) : Nat) : Int) + 1) ≤ 9223372036854775807)]) ⟨om,trivial⟩ ?_
    have hrv := jblk_rows D i
    refine Cfg.setO (congrArg (fun (xq : List Value) => (([(sb4,.cells (bv (readF D ((i + 1 : Nat) : Int))) 25 (0,0)),(xb,.cells (bv (readF D ((i + 1 : Nat) : Int))) 25 (0,0)),(hb,.cells (bv (readF D 0)) 25 (0,0)),(kb,.cells #[.pointer (some ⟨m.d,0,none⟩)] 46 (0,0))] ++ (dO D m x ++ (Own.o 25 xq o5 ++ []))) : List (Nat × Obj))) (show _ = (rows (jblk D (i + 1))) from hrv)) ?_
    refine Cfg.again rfl (i + 1,o5) ⟨by omega,hrv ▸ ko5⟩ (by show nB - (i + 1) < nB - i; omega) (Conv.mk kr) (.cons _ (.cons _ (.cons_cons _ (.cons_cons _ (List.Sublist.refl _)))))
   ·have c2 := (of_decide_eq_false c2r)
    obtain rfl : i = nB := by omega
    have hjl : (jrows D).length = i := by unfold jrows; rw [jblk_len]; exact hnB.symm
    have hji : jblk D i = jrows D := by unfold jrows; rw [← hnB]
    rw [hji] at hob
    have hob2 : OwnOk ob 512 (jrows D).length (rows (jrows D)) := by rw [hjl]; exact hob
    refine Cfg.setO (congrArg (fun (xq : List Value) => (([(hb,.cells (bv (readF D 0)) 25 (0,0)),(kb,.cells #[.pointer (some ⟨m.d,0,none⟩)] 46 (0,0))] ++ (dO D m x ++ (Own.o 25 xq ob ++ []))) : List (Nat × Obj))) (show _ = (rows (jrows D)) from by rw [hji])) ?_
    refine Conv.cfg (Γ' := [(6,[],.slice (Own.a ob) i (Own.c ob)),(4,[],.pointer (some ⟨hb,0,none⟩)),(1,[],.pointer (some ⟨kb,0,none⟩))]) (Conv.mk kr) ?_
    refine Cg (Γ' := [(6,[],.slice (Own.a ob) i (Own.c ob)),(4,[],.pointer (some ⟨hb,0,none⟩)),(1,[],.pointer (some ⟨kb,0,none⟩))]) ?_
    refine Cfg.setG (congrArg (fun (xq : Nat) => ([(6,[],.slice (Own.a ob) xq (Own.c ob)),(4,[],.pointer (some ⟨hb,0,none⟩)),(1,[],.pointer (some ⟨kb,0,none⟩))] : Env)) (show _ = ((jrows D).length) from hjl.symm)) ?_
    refine Cfg.begL rfl ?_
    refine Lp 2 [(0,false,some (.pointer (some ⟨m.d,0,none⟩))),(0,false,some (.agg #[.int .i64 0,.pointer (some ⟨m.d,0,none⟩),.int .u64 0]))] (some [1,4,6,44]) (fun S => [(∀ w1,S w1 → w1.cell? ⟨kb,0,none⟩ = some (.pointer (some ⟨m.d,0,none⟩))),(∀ w1,S w1 → (Instr.build 121 #[(1,.pointer (some ⟨m.d,0,none⟩))]).run Tryz.prog w1 = .ok (.agg #[.int .i64 0,.pointer (some ⟨m.d,0,none⟩),.int .u64 0]) w1)]) ⟨(fun w1 h => h.ocell 1 rfl rfl),(fun _ _ => kr),trivial⟩ ?_
    refine Le (Eff.box (v := .agg #[.int .i64 0,.pointer (some ⟨m.d,0,none⟩),.int .u64 0]) rfl kr) ?_
    rintro jb ⟨hjb,njb⟩
    refine Lp 1 [] (some [1,4,6,10]) n0 trivial ?_
    refine CfgL.done rfl ?_
    refine Cfg.begL rfl ?_
    refine Lp 2 [(0,false,some (.agg (bv (readF D 0))))] (some [1,10,47,48]) (fun S => [(∀ w1,S w1 → (loadVar 25 ⟨hb,0,none⟩).run Tryz.prog w1 = .ok (.agg (bv (readF D 0))) w1)]) ⟨(fun w1 h => h.oload 1 rfl Tryz.underlying25 rfl (n := 512) kr ((bv_size _).trans (readF_len hg _))),trivial⟩ ?_
    refine Le (Eff.callH (vs := [.agg (bv (readF D 0)),.slice (Own.a ob) ((jrows D).length) (Own.c ob)]) (fun o : K.Own => .tuple #[.int .u64 ((parN (readF D 0) (jrows D)) : Int),.slice (Own.a o) (parL (readF D 0) (jrows D)).length (Own.c o),.bool (parG (readF D 0) (jrows D))]) [] (fun o => Own.o 79 (jv (parL (readF D 0) (jrows D))) o) (fun o => OwnOk o 513 (parL (readF D 0) (jrows D)).length (jv (parL (readF D 0) (jrows D)))) [(jb,.cells #[.int .i64 0,.pointer (some ⟨m.d,0,none⟩),.int .u64 0] 121 (0,0)),(hb,.cells (bv (readF D 0)) 25 (0,0)),(kb,.cells #[.pointer (some ⟨m.d,0,none⟩)] 46 (0,0))] ([] ++ (dO D m x ++ (Own.o 25 (rows (jrows D)) ob ++ []))) rfl rfl Tryz.func9 rfl rfl kr (fun w1 h _ _ => by have h9 := jParse (readF D 0) (Own.a ob) (Own.c ob) (jrows D) (Own.o 25 (rows (jrows D)) ob) w1 (readF_len hg _) (inB_own hob2) (jblk_w hg _) (by rw [hjl]; unfold maxLen; omega) (fun e he => (List.mem_cons.1 he).elim (fun h1 => h1 ▸ h.ro _ (List.mem_cons_self ..)) (fun h1 => h.own e (List.mem_append_right [(jb,Obj.cells #[.int .i64 0,.pointer (some ⟨m.d,0,none⟩),.int .u64 0] 121 (0,0)),(hb,Obj.cells (bv (readF D 0)) 25 (0,0)),(kb,Obj.cells #[.pointer (some ⟨m.d,0,none⟩)] 46 (0,0))] (List.mem_append_right (dO D m x) (List.mem_append_left _ h1))))) ktK; exact h9)) ?_
    rintro oa hoa
    refine Lp 7 [] (some [1,10,11,12,13]) n0 trivial ?_
    refine CfgL.done rfl ?_
    refine Rg [1,10,11,12,54] [] n0 trivial ?_
    refine Cfg.cond rfl (b := (!(parG (readF D 0) (jrows D)))) kr (fun c4r => ?_) (fun c4r => ?_)
    ·have c4 : ((parG (readF D 0) (jrows D)) = false) := (notT c4r)
     refine Rg [2,3] [] n0 trivial ?_
     refine Cfg.ret rfl (rs := [.tmp 2,.tmp 3]) rfl [.pointer (some ⟨jb,0,none⟩),.int .i64 0] ⟨kr,by kernel_rfl,trivial⟩ (fun w1 hp => ?_)
     have hpg : openG D = false := by show parG _ _ = false; simpa using c4
     have hx : openF D = (0,0,D) := op_no hf0 hpg
     rw [hx]
     have h9 : HP w ((dO D m x).map (·.1)) [(0,Obj.cells (wv Kc) t0 fr0)] ([(jb,Obj.cells #[.int .i64 (0 : Int),.pointer (some ⟨m.d,0,none⟩),.int .u64 (0 : Int)] 121 (0,0))] ++ (dO D m x ++ [])) w1 := hp.sub (.cons_cons _ (.cons _ (.cons _ (List.Sublist.trans (List.Sublist.append (l₁ := dO D m x) (l₂ := dO D m x) (r₁ := []) (List.Sublist.refl _) (List.nil_sublist _)) (List.sublist_append_right (Own.o 79 (jv (parL (readF D 0) (jrows D))) oa) _)))))
     rw [List.append_nil] at h9
     exact .inl ⟨(x,jb),rfl,hmo,rfl,_,h9⟩
    ·have c4 : ((parG (readF D 0) (jrows D)) = true) := (notF c4r)
     have hpg : openG D = true := by show parG _ _ = true; simpa using c4
     refine Cfg.begL rfl ?_
     refine Lp 2 [] (some [10,11,12,56,57]) n0 trivial ?_
     refine Le (Eff.callH (vs := [.slice (Own.a oa) ((parL (readF D 0) (jrows D)).length) (Own.c oa),.func (.func 53) #[] #[.pointer (some ⟨kb,0,none⟩)]]) (fun o : K.Own => .slice (Own.a o) (inD D (parL (readF D 0) (jrows D))).length (Own.c o)) (Own.o 79 (jv (parL (readF D 0) (jrows D))) oa) (fun o => Own.o 79 (jv (inD D (parL (readF D 0) (jrows D)))) o) (fun o => OwnOk o 513 (inD D (parL (readF D 0) (jrows D))).length (jv (inD D (parL (readF D 0) (jrows D))))) [(jb,.cells #[.int .i64 0,.pointer (some ⟨m.d,0,none⟩),.int .u64 0] 121 (0,0)),(hb,.cells (bv (readF D 0)) 25 (0,0)),(kb,.cells #[.pointer (some ⟨m.d,0,none⟩)] 46 (0,0))] (dO D m x ++ (Own.o 25 (rows (jrows D)) ob ++ [])) rfl rfl Tryz.func52 rfl rfl kr (fun w1 h hA hd => jDel kb m x D oa (parL (readF D 0) (jrows D)) w1 hoa (parL_w (jblk_w hg _)) (Nat.le_trans parL_96 (by decide)) hA hd (fun e he => (List.mem_cons.1 he).elim (fun h1 => h1 ▸ h.own (kb,_) (List.mem_append_left _ (List.mem_of_getElem? (i := 2) rfl))) (fun h1 => (mem_has h (List.Sublist.trans (List.Sublist.trans (List.sublist_append_left (dO D m x) _) (List.sublist_append_right (Own.o 79 (jv (parL (readF D 0) (jrows D))) oa) _)) (List.sublist_append_right [(jb,Obj.cells #[.int .i64 0,.pointer (some ⟨m.d,0,none⟩),.int .u64 0] 121 (0,0)),(hb,Obj.cells (bv (readF D 0)) 25 (0,0)),(kb,Obj.cells #[.pointer (some ⟨m.d,0,none⟩)] 46 (0,0))] _))) e h1)) (fun e he => mid_apart (F := [(jb,Obj.cells #[.int .i64 0,.pointer (some ⟨m.d,0,none⟩),.int .u64 0] 121 (0,0)),(hb,Obj.cells (bv (readF D 0)) 25 (0,0)),(kb,Obj.cells #[.pointer (some ⟨m.d,0,none⟩)] 46 (0,0))]) (A := Own.o 79 (jv (parL (readF D 0) (jrows D))) oa) (T := (dO D m x ++ (Own.o 25 (rows (jrows D)) ob ++ []))) h e ((List.mem_cons.1 he).elim (fun h1 => .inl (h1 ▸ List.mem_of_getElem? (i := 2) rfl)) (fun h1 => .inr (List.mem_append_left _ h1)))))) ?_
     rintro o2 ho2
     refine CfgL.pure 1 [] (some [10,11,12]) (Γ' := [(12,[],.slice (Own.a o2) ((inD D (parL (readF D 0) (jrows D))).length) (Own.c o2)),(11,[],.int .u64 ((parN (readF D 0) (jrows D)) : Int)),(10,[],.pointer (some ⟨jb,0,none⟩))]) (nd := (fun _ => [])) kr (fun _ => kr) trivial ?_
     refine CfgL.done rfl ?_
     refine Cfg.begL rfl ?_
     refine Lp 2 [] (some [10,11,59,60]) n0 trivial ?_
     refine Le (Eff.callH (vs := [.pointer (some ⟨jb,0,none⟩),.slice (Own.a o2) ((inD D (parL (readF D 0) (jrows D))).length) (Own.c o2)]) (fun _ : MX => .int .i64 ((layF D (inD D (parL (readF D 0) (jrows D)))).1)) (dO D m x) (fun z => dO (layF D (inD D (parL (readF D 0) (jrows D)))).2 m z) (fun z => MapOk z.1 z.2 (wv2 (layF D (inD D (parL (readF D 0) (jrows D)))).2.wait)) ([(jb,.cells #[.int .i64 0,.pointer (some ⟨m.d,0,none⟩),.int .u64 0] 121 (0,0)),(hb,.cells (bv (readF D 0)) 25 (0,0)),(kb,.cells #[.pointer (some ⟨m.d,0,none⟩)] 46 (0,0))] ++ (Own.o 79 (jv (inD D (parL (readF D 0) (jrows D)))) o2)) (Own.o 25 (rows (jrows D)) ob ++ []) rfl rfl Tryz.func54 rfl rfl kr (fun w1 h hA hd => jLay jb 0 0 m x D (Own.a o2) (Own.c o2) (inD D (parL (readF D 0) (jrows D))) (Own.o 79 (jv (inD D (parL (readF D 0) (jrows D)))) o2) w1 hg hA hd (inW_own1 ho2) (inD_w (parL_w (jblk_w hg _)) D) (Nat.le_trans (inD_len D _) (Nat.le_trans parL_96 (by decide))) om hmo (op_has (L := [(jb,Obj.cells #[.int .i64 0,.pointer (some ⟨m.d,0,none⟩),.int .u64 0] 121 (0,0)),(hb,Obj.cells (bv (readF D 0)) 25 (0,0)),(kb,Obj.cells #[.pointer (some ⟨m.d,0,none⟩)] 46 (0,0))]) (S := Own.o 79 (jv (inD D (parL (readF D 0) (jrows D)))) o2) (T := (Own.o 25 (rows (jrows D)) ob ++ [])) (A := dO D m x) h (List.mem_of_getElem? (i := 0) rfl)) (op_apart (L := [(jb,Obj.cells #[.int .i64 0,.pointer (some ⟨m.d,0,none⟩),.int .u64 0] 121 (0,0)),(hb,Obj.cells (bv (readF D 0)) 25 (0,0)),(kb,Obj.cells #[.pointer (some ⟨m.d,0,none⟩)] 46 (0,0))]) (S := Own.o 79 (jv (inD D (parL (readF D 0) (jrows D)))) o2) (T := (Own.o 25 (rows (jrows D)) ob ++ [])) (A := dO D m x) h (List.mem_of_getElem? (i := 0) rfl)))) ?_
     rintro x2 hmo2
     refine Lp 1 [] (some [10,11,14]) n0 trivial ?_
     refine CfgL.done rfl ?_
     refine Rg [10,11,14,63] [] n0 trivial ?_
     refine Cfg.cond rfl (b := (((layF D (inD D (parL (readF D 0) (jrows D)))).1) != (0 : Int))) kr (fun c5r => ?_) (fun c5r => ?_)
     ·have c5 := (bne_iff_ne.1 c5r)
      refine Rg [2,3] [] n0 trivial ?_
      refine Cfg.ret rfl (rs := [.tmp 2,.tmp 3]) rfl [.pointer none,.int .i64 ((layF D (inD D (parL (readF D 0) (jrows D)))).1)] ⟨kr,by kernel_rfl,trivial⟩ (fun w1 hp => ?_)
      have hx : openF D = ((layF D (openL D)).1,0,(layF D (openL D)).2) := op_err hf0 hpg c5
      rw [hx]
      have h9 : HP w ((dO D m x).map (·.1)) [(0,Obj.cells (wv Kc) t0 fr0)] (([] : List (Nat × Obj)) ++ (dO ((layF D (inD D (parL (readF D 0) (jrows D)))).2) m x2 ++ [])) w1 := hp.sub (.cons _ (.cons _ (.cons _ (List.Sublist.trans (List.Sublist.append (l₁ := dO ((layF D (inD D (parL (readF D 0) (jrows D)))).2) m x2) (l₂ := dO ((layF D (inD D (parL (readF D 0) (jrows D)))).2) m x2) (r₁ := []) (List.Sublist.refl _) (List.nil_sublist _)) (List.sublist_append_right (Own.o 79 (jv (inD D (parL (readF D 0) (jrows D)))) o2) _)))))
      rw [List.append_nil] at h9
      exact .inr ⟨x2,c5,hmo2,rfl,_,h9⟩
     ·have c5 := (bne_eq_false_iff_eq.1 c5r)
      refine Cfg.begL rfl ?_
      refine Lp 4 [] (some [10,66,68]) n0 trivial ?_
      refine Le (Eff.store1 (b := jb) (off := 2) (v := .int .u64 ((parN (readF D 0) (jrows D)) : Int)) rfl kr kr rfl kr 0 (cs := #[.int .i64 0,.pointer (some ⟨m.d,0,none⟩),.int .u64 0]) (e := 121) kr (by simp)) ?_
      rintro ⟨⟩ -
      refine CfgL.done rfl ?_
      refine Cg (Γ' := [(10,[],.pointer (some ⟨jb,0,none⟩))]) ?_
      refine Rg [2,3] [] n0 trivial ?_
      refine Cfg.ret rfl (rs := [.tmp 2,.tmp 3]) rfl [.pointer (some ⟨jb,0,none⟩),.int .i64 0] ⟨kr,by kernel_rfl,trivial⟩ (fun w1 hp => ?_)
      have hx : openF D = (0,(parN (readF D 0) (jrows D)),(layF D (openL D)).2) := op_ok hf0 hpg c5
      rw [hx]
      have h9 : HP w ((dO D m x).map (·.1)) [(0,Obj.cells (wv Kc) t0 fr0)] ([(jb,Obj.cells #[.int .i64 (0 : Int),.pointer (some ⟨m.d,0,none⟩),.int .u64 ((parN (readF D 0) (jrows D)) : Int)] 121 (0,0))] ++ (dO ((layF D (inD D (parL (readF D 0) (jrows D)))).2) m x2 ++ [])) w1 := hp.sub (.cons_cons _ (.cons _ (.cons _ (List.Sublist.trans (List.Sublist.append (l₁ := dO ((layF D (inD D (parL (readF D 0) (jrows D)))).2) m x2) (l₂ := dO ((layF D (inD D (parL (readF D 0) (jrows D)))).2) m x2) (r₁ := []) (List.Sublist.refl _) (List.nil_sublist _)) (List.sublist_append_right (Own.o 79 (jv (inD D (parL (readF D 0) (jrows D)))) o2) _)))))
      rw [List.append_nil] at h9
      exact .inl ⟨(x2,jb),rfl,hmo2,rfl,_,h9⟩
theorem jOpenOk (m : DM) (x : MX) (D : DK) (t0 : TypeId) (fr0 : Nat × Nat) (w : World) (hg : DG D) (hmo : MapOk x.1 x.2 (wv2 D.wait)) (hs : 0 ≤ D.steps ∧ D.steps ≤ 4611686018426000000) (hA : Has w (dO D m x)) (hd : ((dO D m x).map (·.1)).Nodup) (hR : Has w [(0,Obj.cells (wv Kc) t0 fr0)]) (hnr : ∀ e ∈ [(0,Obj.cells (wv Kc) t0 fr0)],e.1 ∉ (dO D m x).map (·.1)) (h0 : (openF D).1 = 0) :
  Calls Tryz.prog 15 #[.pointer (some ⟨m.d,0,none⟩)] w fun e w' => ∃ z : MX × Nat,MapOk z.1.1 z.1.2 (wv2 (openF D).2.2.wait) ∧ e = .returned (.tuple #[.pointer (some ⟨z.2,0,none⟩),.int .i64 0]) ∧ ∃ R1,HP w ((dO D m x).map (·.1)) R1 ((z.2,Obj.cells #[.int .i64 (0 : Int),.pointer (some ⟨m.d,0,none⟩),.int .u64 ((openF D).2.1 : Int)] 121 (0,0)) :: dO (openF D).2.2 m z.1) w' := by
 refine (jOpen m x D t0 fr0 w hg hmo hs hA hd hR hnr).mono ?_
 rintro e w' (⟨z,_,h⟩ | ⟨y,h1,_⟩)
 ·exact ⟨z,h⟩
 ·exact absurd h0 h1
theorem jOpenNo (m : DM) (x : MX) (D : DK) (t0 : TypeId) (fr0 : Nat × Nat) (w : World) (hg : DG D) (hmo : MapOk x.1 x.2 (wv2 D.wait)) (hs : 0 ≤ D.steps ∧ D.steps ≤ 4611686018426000000) (hA : Has w (dO D m x)) (hd : ((dO D m x).map (·.1)).Nodup) (hR : Has w [(0,Obj.cells (wv Kc) t0 fr0)]) (hnr : ∀ e ∈ [(0,Obj.cells (wv Kc) t0 fr0)],e.1 ∉ (dO D m x).map (·.1)) (h0 : (openF D).1 ≠ 0) :
  Calls Tryz.prog 15 #[.pointer (some ⟨m.d,0,none⟩)] w fun e w' => ∃ y : MX,MapOk y.1 y.2 (wv2 (openF D).2.2.wait) ∧ e = .returned (.tuple #[.pointer none,.int .i64 (openF D).1]) ∧ ∃ R1,HP w ((dO D m x).map (·.1)) R1 (dO (openF D).2.2 m y) w' := by
 refine (jOpen m x D t0 fr0 w hg hmo hs hA hd hR hnr).mono ?_
 rintro e w' (⟨z,h1,_⟩ | ⟨y,_,h⟩)
 ·exact absurd h1 h0
 ·exact ⟨y,h⟩
end Go.Proofs.YtohjpggjgomgoaaGreatDoor
namespace Go.Proofs.YtohjpggjgomgoaaGreatDoor
open K
set_option linter.unusedVariables false
def insS (w : Wr) (r : Bool × List Wr) (x : Wr) : Bool × List Wr := (r.1 || decide (w.1 ≤ x.1),(r.2 ++ if !r.1 && decide (w.1 ≤ x.1) then [w] else []) ++ if x.1 ≠ w.1 then [x] else [])
def insQ (w : Wr) (xs : List Wr) (k : Nat) : Bool × List Wr := (xs.take k).foldl (insS w) (false,[])
theorem insQ_next {w : Wr} {xs : List Wr} {k : Nat} (h : k < xs.length) : insQ w xs (k + 1) = insS w (insQ w xs k) (xs.getD k wz) := by
 unfold insQ
 rw [List.take_succ_eq_append_getElem h,List.foldl_append,List.getD_eq_getElem?_getD,List.getElem?_eq_getElem h]; rfl
theorem insR_fold (w : Wr) : ∀ (xs : List Wr) (d : Bool) (acc : List Wr),acc ++ insR w d xs = (xs.foldl (insS w) (d,acc)).2 ++ if (xs.foldl (insS w) (d,acc)).1 then [] else [w]
 | [],d,acc => rfl
 | x :: xs,d,acc => by
  rw [List.foldl_cons]
  have ih := insR_fold w xs (insS w (d,acc) x).1 (insS w (d,acc) x).2
  rw [← ih]
  show acc ++ ((if !d && decide (w.1 ≤ x.1) then [w] else []) ++ ((if x.1 ≠ w.1 then [x] else []) ++ insR w (d || decide (w.1 ≤ x.1)) xs)) = ((acc ++ if !d && decide (w.1 ≤ x.1) then [w] else []) ++ if x.1 ≠ w.1 then [x] else []) ++ insR w (d || decide (w.1 ≤ x.1)) xs
  simp only [List.append_assoc]
theorem insQ_end (w : Wr) (xs : List Wr) : insR w false xs = (insQ w xs xs.length).2 ++ if (insQ w xs xs.length).1 then [] else [w] := by
 have h := insR_fold w xs false []
 rw [List.nil_append] at h
 unfold insQ
 rw [List.take_length]; exact h
theorem insQ_len (w : Wr) (xs : List Wr) : ∀ k,k ≤ xs.length → (insQ w xs k).2.length ≤ 2 * k
 | 0,_ => by unfold insQ; rw [List.take_zero]; exact Nat.zero_le _
 | k + 1,h => by
  have ih := insQ_len w xs k om
  rw [insQ_next om]
  unfold insS
  rw [List.length_append,List.length_append]
  have h1 : (if !(insQ w xs k).1 && decide (w.1 ≤ (xs.getD k wz).1) then [w] else []).length ≤ 1 := by split <;> simp
  have h2 : (if (xs.getD k wz).1 ≠ w.1 then [xs.getD k wz] else []).length ≤ 1 := by split <;> simp
  omega
theorem insR_len (w : Wr) : ∀ (xs : List Wr) (d : Bool),(insR w d xs).length ≤ xs.length + (if d then 0 else 1)
 | [],d => by cases d <;> simp [insR]
 | x :: xs,d => by
  have ih := insR_len w xs (d || decide (w.1 ≤ x.1))
  show ((if (!d && decide (w.1 ≤ x.1)) = true then [w] else []) ++ ((if x.1 ≠ w.1 then [x] else []) ++ insR w (d || decide (w.1 ≤ x.1)) xs)).length ≤ _
  rw [List.length_append,List.length_append,List.length_cons]
  have h2 : (if x.1 ≠ w.1 then [x] else []).length ≤ 1 := by split <;> simp
  have h1 : (if (!d && decide (w.1 ≤ x.1)) = true then [w] else []).length + (if (d || decide (w.1 ≤ x.1)) = true then 0 else 1) = (if d = true then 0 else 1) := by
   cases d <;> cases decide (w.1 ≤ x.1) <;> rfl
  omega
def plN (l : List Wr) (i : Nat) : List Wr := plainF (l.take i)
theorem plN_next {l : List Wr} {i : Nat} (h : i < l.length) : plN l (i + 1) = insR (l.getD i wz) false (plN l i) := by
 unfold plN plainF
 rw [List.take_succ_eq_append_getElem h,List.foldl_append,List.getD_eq_getElem?_getD,List.getElem?_eq_getElem h]; rfl
theorem plN_len (l : List Wr) : ∀ i,i ≤ l.length → (plN l i).length ≤ i
 | 0,_ => by unfold plN; rw [List.take_zero]; exact Nat.le_refl _
 | i + 1,h => by
  have ih := plN_len l i om
  have h2 := insR_len (l.getD i wz) (plN l i) false
  rw [if_neg (by decide)] at h2
  rw [plN_next om]; omega
theorem insR_w {w : Wr} (hw : w.2.length = 512) : ∀ {xs : List Wr} (d : Bool),WW xs → WW (insR w d xs)
 | [],d,_ => by cases d <;> (intro x hx; first | (cases hx; done) | (rw [List.mem_singleton.1 hx]; exact hw))
 | x :: xs,d,h => by
  intro y hy
  rcases List.mem_append.1 hy with hy | hy
  ·split at hy
   ·rw [List.mem_singleton.1 hy]; exact hw
   ·cases hy
  ·rcases List.mem_append.1 hy with hy | hy
   ·split at hy
    ·rw [List.mem_singleton.1 hy]; exact h x (List.mem_cons_self ..)
    ·cases hy
   ·exact insR_w hw (d || decide (w.1 ≤ x.1)) h.tail y hy
theorem plN_w {l : List Wr} (hW : WW l) : ∀ i,i ≤ l.length → WW (plN l i)
 | 0,_ => by unfold plN; rw [List.take_zero]; exact WW.nil
 | i + 1,h => by rw [plN_next om]; exact insR_w (hW.at i) false (plN_w hW i om)
theorem q_tt {w : Wr} {xs : List Wr} {k : Nat} (h : k < xs.length) (h1 : ((!(insQ w xs k).1) && decide (w.1 ≤ (xs.getD k wz).1)) = true) (h2 : (xs.getD k wz).1 ≠ w.1) : insQ w xs (k + 1) = (true,((insQ w xs k).2 ++ [w]) ++ [xs.getD k wz]) := by
 rw [insQ_next h]; unfold insS
 rw [if_pos h1,if_pos h2]
 obtain ⟨_,h4⟩ := (Bool.and_eq_true _ _).mp h1
 rw [h4,Bool.or_true]
theorem q_tf {w : Wr} {xs : List Wr} {k : Nat} (h : k < xs.length) (h1 : ((!(insQ w xs k).1) && decide (w.1 ≤ (xs.getD k wz).1)) = true) (h2 : (xs.getD k wz).1 = w.1) : insQ w xs (k + 1) = (true,(insQ w xs k).2 ++ [w]) := by
 rw [insQ_next h]; unfold insS
 rw [if_pos h1,if_neg (fun e => e h2),List.append_nil]
 obtain ⟨_,h4⟩ := (Bool.and_eq_true _ _).mp h1
 rw [h4,Bool.or_true]
theorem q_fl {w : Wr} {xs : List Wr} {k : Nat} (h1 : ((!(insQ w xs k).1) && decide (w.1 ≤ (xs.getD k wz).1)) = false) : ((insQ w xs k).1 || decide (w.1 ≤ (xs.getD k wz).1)) = (insQ w xs k).1 := by
 revert h1
 cases (insQ w xs k).1 <;> cases decide (w.1 ≤ (xs.getD k wz).1) <;> simp
theorem q_ft {w : Wr} {xs : List Wr} {k : Nat} (h : k < xs.length) (h1 : ((!(insQ w xs k).1) && decide (w.1 ≤ (xs.getD k wz).1)) = false) (h2 : (xs.getD k wz).1 ≠ w.1) : insQ w xs (k + 1) = ((insQ w xs k).1,(insQ w xs k).2 ++ [xs.getD k wz]) := by
 rw [insQ_next h]; unfold insS
 rw [if_neg (by rw [h1]; decide),if_pos h2,List.append_nil,q_fl h1]
theorem q_ff {w : Wr} {xs : List Wr} {k : Nat} (h : k < xs.length) (h1 : ((!(insQ w xs k).1) && decide (w.1 ≤ (xs.getD k wz).1)) = false) (h2 : (xs.getD k wz).1 = w.1) : insQ w xs (k + 1) = insQ w xs k := by
 rw [insQ_next h]; unfold insS
 rw [if_neg (by rw [h1]; decide),if_neg (fun e => e h2),List.append_nil,List.append_nil,q_fl h1]
set_option maxRecDepth 100000 in
set_option maxHeartbeats 8000000 in
theorem rPlain (la : Option Addr) (cap : Nat) (l : List Wr) (Rl : List (Nat × Obj)) (w : World) (hI : InW Rl la l) (hW : WW l) (hl : l.length ≤ 100000) (hR : Has w Rl) :
  Calls Tryz.prog 67 #[.slice la l.length cap] w fun e w' => ∃ o : K.Own,OwnOk o 513 (plainF l).length (jv (plainF l)) ∧ e = .returned (.slice (Own.a o) (plainF l).length (Own.c o)) ∧ ∃ R1,HP w [] R1 (Own.o 36 (jv (plainF l)) o) w' := by
 refine enter (vs := [.slice la l.length cap]) [] Rl [] Tryz.func67 rfl kr (HP.ofHas hR) ?_
 refine Rg [0] [] n0 trivial ?_
 refine Rg [0,3] [] n0 trivial ?_
 refine Rg [3,10,11,12] [] n0 trivial ?_
 refine Cfg.loop rfl (ι := Nat × K.Own) (fun (xz : Nat × K.Own) => match xz with | (i,oo) => [(12,[],.int .i64 (i : Int)),(11,[],.int .i64 (l.length : Int)),(10,[],.slice la l.length cap),(3,[],.slice (Own.a oo) ((plN l i).length) (Own.c oo))]) (fun (xz : Nat × K.Own) => match xz with | (i,oo) => ([] ++ (Own.o 36 (jv (plN l i)) oo ++ []))) (fun (xz : Nat × K.Own) => match xz with | (i,oo) => (i ≤ l.length) ∧ (OwnOk oo 513 (plN l i).length (jv (plN l i)))) (fun (xz : Nat × K.Own) => match xz with | (i,oo) => l.length - i) (0,none) ?_ (Conv.mk kr) (.slnil) ?_
 ·exact ⟨Nat.zero_le _,by unfold plN; rw [List.take_zero]; exact OwnOk.none _⟩
 ·rintro ⟨i,oo⟩ ⟨hi,hoo⟩
  refine Rg [3,10,11,12,13] [] n0 trivial ?_
  refine Cfg.cond rfl (b := (decide ((i : Int) < (l.length : Int)))) kr (fun c1r => ?_) (fun c1r => ?_)
  ·have c1 := (of_decide_eq_true c1r)
   obtain ⟨sb,off,cs,te,fre,rfl,hmem,hcs⟩ := hI om
   refine Conv.cfg (Γ' := [(13,[],.bool (decide ((i : Int) < (l.length : Int)))),(12,[],.int .i64 (i : Int)),(11,[],.int .i64 (l.length : Int)),(10,[],.slice (some ⟨sb,off,none⟩) l.length cap),(3,[],.slice (Own.a oo) ((plN l i).length) (Own.c oo))]) (Conv.mk kr) ?_
   refine Cfg.begL rfl ?_
   refine Lp 2 [dZ,(0,false,some (.agg (jc (l.getD i wz)).toArray))] (some [3,10,11,12,15]) (fun S => [(0 ≤ (i : Int) ∧ (i : Int) < (l.length : Int)),(∀ w1,S w1 → (loadVar 36 ⟨sb,(addO off (i * 513)),none⟩).run Tryz.prog w1 = .ok (.agg (jc (l.getD i wz)).toArray) w1)]) ⟨om,(fun w1 h => load_list Tryz.underlying36 rfl kr (jc_len (hW.at i)) (fun j v hj => by rw [addO_eq]; exact (cell_cells (h.ro _ hmem)).trans (wr_cell hW hcs om hj))),trivial⟩ ?_
   refine Le (Eff.alloc (z := (.agg (jc wz).toArray)) rfl kr) ?_
   rintro wb ⟨hwb,nwb⟩
   refine Le (Eff.storeN (b := wb) (off := 0) (vs := (jc (l.getD i wz)).toArray) (n := 513) rfl kr kr kr (by rw [List.size_toArray,jc_len (hW.at i)]) (jc_all _) 0 (cs := (jc wz).toArray) (e := 36) kr (by show 0 + 513 ≤ (jc wz).toArray.size; rw [List.size_toArray,jc_len zb_len]; decide)) ?_
   rintro ⟨⟩ -
   refine CfgL.setO (congrArg (fun (xq : Array Value) => (([(wb,.cells xq 36 (0,0))] ++ (Own.o 36 (jv (plN l i)) oo ++ [])) : List (Nat × Obj))) (show _ = ((jc (l.getD i wz)).toArray) from spl_all (by rw [List.size_toArray,List.size_toArray,jc_len (hW.at i)]; exact (jc_len zb_len).symm))) ?_
   refine CfgL.done rfl ?_
   refine Cg (Γ' := [(5,[],.pointer (some ⟨wb,0,none⟩)),(12,[],.int .i64 (i : Int)),(11,[],.int .i64 (l.length : Int)),(10,[],.slice (some ⟨sb,off,none⟩) l.length cap),(3,[],.slice (Own.a oo) ((plN l i).length) (Own.c oo))]) ?_
   refine Rg [3,5,6,10,11,12] [] n0 trivial ?_
   refine Rg [3,5,6,7,10,11,12] [] n0 trivial ?_
   refine Rg [5,6,7,10,11,12,16,17,18] [] n0 trivial ?_
   obtain ⟨P,hPd⟩ : ∃ P,P = plN l i := ⟨_,rfl⟩
   have hPl : P.length ≤ i := hPd ▸ plN_len l i om
   have hPw : WW P := hPd ▸ plN_w hW i om
   rw [← hPd] at hoo
   obtain ⟨lk,hlk⟩ : ∃ lk,lk = Own.a oo := ⟨_,rfl⟩
   have hIk : InW (Own.o 36 (jv P) oo) lk P := hlk ▸ inW_own hoo
   refine Cfg.setO (congrArg (fun (xq : List Value) => (([(wb,.cells ((jc (l.getD i wz)).toArray) 36 (0,0))] ++ (Own.o 36 xq oo ++ [])) : List (Nat × Obj))) (show _ = (jv P) from by rw [hPd])) ?_
   refine Conv.cfg (Γ' := [(18,[],.int .i64 0),(17,[],.int .i64 ((plN l i).length : Int)),(16,[],.slice (Own.a oo) (plN l i).length (Own.c oo)),(7,[],.bool false),(6,[],.slice none 0 0),(5,[],.pointer (some ⟨wb,0,none⟩)),(12,[],.int .i64 (i : Int)),(11,[],.int .i64 (l.length : Int)),(10,[],.slice (some ⟨sb,off,none⟩) l.length cap)]) (Conv.mk kr) ?_
   refine Cfg.setG (Γ' := [(18,[],.int .i64 0),(17,[],.int .i64 (P.length : Int)),(16,[],.slice lk P.length ((Own.c oo))),(7,[],.bool false),(6,[],.slice none 0 0),(5,[],.pointer (some ⟨wb,0,none⟩)),(12,[],.int .i64 (i : Int)),(11,[],.int .i64 (l.length : Int)),(10,[],.slice (some ⟨sb,off,none⟩) l.length cap)]) (congrArg (fun (xq : Option Addr × Nat) => ([(18,[],.int .i64 0),(17,[],.int .i64 (xq.2 : Int)),(16,[],.slice xq.1 xq.2 (Own.c oo)),(7,[],.bool false),(6,[],.slice none 0 0),(5,[],.pointer (some ⟨wb,0,none⟩)),(12,[],.int .i64 (i : Int)),(11,[],.int .i64 (l.length : Int)),(10,[],.slice (some ⟨sb,off,none⟩) l.length cap)] : Env)) (show (Own.a oo,(plN l i).length) = (lk,P.length) by rw [hlk,hPd])) ?_
   refine Cfg.loop rfl (ι := Nat × K.Own) (fun (xz : Nat × K.Own) => match xz with | (k,on) => [(18,[],.int .i64 (k : Int)),(17,[],.int .i64 (P.length : Int)),(16,[],.slice lk P.length ((Own.c oo))),(7,[],.bool (insQ (l.getD i wz) P k).1),(6,[],.slice (Own.a on) ((insQ (l.getD i wz) P k).2.length) (Own.c on)),(5,[],.pointer (some ⟨wb,0,none⟩)),(12,[],.int .i64 (i : Int)),(11,[],.int .i64 (l.length : Int)),(10,[],.slice (some ⟨sb,off,none⟩) l.length cap)]) (fun (xz : Nat × K.Own) => match xz with | (k,on) => ([(wb,.cells ((jc (l.getD i wz)).toArray) 36 (0,0))] ++ (Own.o 36 (jv (insQ (l.getD i wz) P k).2) on ++ (Own.o 36 (jv P) oo ++ [])))) (fun (xz : Nat × K.Own) => match xz with | (k,on) => (k ≤ P.length) ∧ (OwnOk on 513 (insQ (l.getD i wz) P k).2.length (jv (insQ (l.getD i wz) P k).2))) (fun (xz : Nat × K.Own) => match xz with | (k,on) => P.length - k) (0,none) ?_ (Conv.mk kr) (List.Sublist.refl _) ?_
   ·exact ⟨Nat.zero_le _,OwnOk.none _⟩
   ·rintro ⟨k,on⟩ ⟨hk,hon⟩
    have hql := insQ_len (l.getD i wz) P k hk
    refine Rg [5,6,7,10,11,12,16,17,18,19] [] n0 trivial ?_
    refine Cfg.cond rfl (b := (decide ((k : Int) < (P.length : Int)))) kr (fun c2r => ?_) (fun c2r => ?_)
    ·have c2 := (of_decide_eq_true c2r)
     obtain ⟨sc,of2,cs2,te2,fr2,rfl,hmem2,hcs2⟩ := hIk om
     refine Conv.cfg (Γ' := [(19,[],.bool (decide ((k : Int) < (P.length : Int)))),(18,[],.int .i64 (k : Int)),(17,[],.int .i64 (P.length : Int)),(16,[],.slice (some ⟨sc,of2,none⟩) P.length (Own.c oo)),(7,[],.bool (insQ (l.getD i wz) P k).1),(6,[],.slice (Own.a on) ((insQ (l.getD i wz) P k).2.length) (Own.c on)),(5,[],.pointer (some ⟨wb,0,none⟩)),(12,[],.int .i64 (i : Int)),(11,[],.int .i64 (l.length : Int)),(10,[],.slice (some ⟨sb,off,none⟩) l.length cap)]) (Conv.mk kr) ?_
     refine Cfg.begL rfl ?_
     refine Lp 2 [dZ,(0,false,some (.agg (jc (P.getD k wz)).toArray))] (some [5,6,7,10,11,12,16,17,18,21]) (fun S => [(0 ≤ (k : Int) ∧ (k : Int) < (P.length : Int)),(∀ w1,S w1 → (loadVar 36 ⟨sc,(addO of2 (k * 513)),none⟩).run Tryz.prog w1 = .ok (.agg (jc (P.getD k wz)).toArray) w1)]) ⟨om,(fun w1 h => load_list Tryz.underlying36 rfl kr (jc_len (hPw.at k)) (fun j v hj => by rw [addO_eq]; exact (cell_cells (h.own _ (show (sc,Obj.cells cs2 te2 fr2) ∈ _ from List.mem_append_right _ (List.mem_append_right _ (List.mem_append_left _ hmem2))))).trans (wr_cell hPw hcs2 om hj))),trivial⟩ ?_
     refine Le (Eff.alloc (z := (.agg (jc wz).toArray)) rfl kr) ?_
     rintro xb ⟨hxb,nxb⟩
     refine Le (Eff.storeN (b := xb) (off := 0) (vs := (jc (P.getD k wz)).toArray) (n := 513) rfl kr kr kr (by rw [List.size_toArray,jc_len (hPw.at k)]) (jc_all _) 0 (cs := (jc wz).toArray) (e := 36) kr (by show 0 + 513 ≤ (jc wz).toArray.size; rw [List.size_toArray,jc_len zb_len]; decide)) ?_
     rintro ⟨⟩ -
     refine CfgL.setO (congrArg (fun (xq : Array Value) => (([(xb,.cells xq 36 (0,0)),(wb,.cells ((jc (l.getD i wz)).toArray) 36 (0,0))] ++ (Own.o 36 (jv (insQ (l.getD i wz) P k).2) on ++ (Own.o 36 (jv P) oo ++ []))) : List (Nat × Obj))) (show _ = ((jc (P.getD k wz)).toArray) from spl_all (by rw [List.size_toArray,List.size_toArray,jc_len (hPw.at k)]; exact (jc_len zb_len).symm))) ?_
     refine CfgL.done rfl ?_
     refine Cg (Γ' := [(9,[],.pointer (some ⟨xb,0,none⟩)),(18,[],.int .i64 (k : Int)),(17,[],.int .i64 (P.length : Int)),(16,[],.slice (some ⟨sc,of2,none⟩) P.length (Own.c oo)),(7,[],.bool (insQ (l.getD i wz) P k).1),(6,[],.slice (Own.a on) ((insQ (l.getD i wz) P k).2.length) (Own.c on)),(5,[],.pointer (some ⟨wb,0,none⟩)),(12,[],.int .i64 (i : Int)),(11,[],.int .i64 (l.length : Int)),(10,[],.slice (some ⟨sb,off,none⟩) l.length cap)]) ?_
     refine Rg [5,6,7,9,10,11,12,16,17,18,30] [dZ,dZ,dZ,dZ,(0,false,some (.int .i64 ((l.getD i wz).1))),dZ,(0,false,some (.int .i64 ((P.getD k wz).1)))] (fun S => [((.bool (!(insQ (l.getD i wz) P k).1) : Value) = .bool true → (∀ w1,S w1 → w1.cell? ⟨wb,0,none⟩ = some (.int .i64 ((l.getD i wz).1)))),((.bool (!(insQ (l.getD i wz) P k).1) : Value) = .bool true → (∀ w1,S w1 → w1.cell? ⟨xb,0,none⟩ = some (.int .i64 ((P.getD k wz).1))))]) ⟨(fun g0 => have q0 : ((insQ (l.getD i wz) P k).1 = false) := (notT (boolV g0)); (fun w1 h => h.ocell 1 rfl rfl)),(fun g0 => have q0 : ((insQ (l.getD i wz) P k).1 = false) := (notT (boolV g0)); (fun w1 h => h.ocell 0 rfl rfl)),trivial⟩ ?_
     refine Cfg.cond rfl (b := ((!(insQ (l.getD i wz) P k).1) && (decide (((l.getD i wz).1) ≤ ((P.getD k wz).1))))) kr (fun c3r => ?_) (fun c3r => ?_)
     ·have c3 : (((insQ (l.getD i wz) P k).1 = false) ∧ (((l.getD i wz).1) ≤ ((P.getD k wz).1))) := ⟨(notT (andT1 c3r)),(of_decide_eq_true (andT2 c3r))⟩
      refine Cfg.begL rfl ?_
      refine Lp 2 [dZ,(0,false,some (.agg (jc (l.getD i wz)).toArray))] (some [5,6,9,10,11,12,16,17,18,31,32]) (fun S => [(∀ w1,S w1 → (loadVar 36 ⟨wb,0,none⟩).run Tryz.prog w1 = .ok (.agg (jc (l.getD i wz)).toArray) w1)]) ⟨(fun w1 h => load_list Tryz.underlying36 rfl kr (jc_len (hW.at i)) (fun k v hv => by rw [Nat.zero_add]; exact h.ocell 1 rfl (by rw [List.getElem?_toArray]; exact hv))),trivial⟩ ?_
      refine Le (Eff.buildAgg (vs := (jc (l.getD i wz)).toArray) (n := 513) rfl kr Tryz.underlying29 kr (z := (.agg (jc wz).toArray)) kr (by rw [List.size_toArray]; exact jc_len (hW.at i)) (by decide) (by decide)) ?_
      rintro kb1 ⟨hkb1,nkb1⟩
      refine Le (Eff.appendF rfl 513 520 Tryz.underlying29 kr (z := (.agg (jc wz).toArray)) kr kr on (xs := (jv (insQ (l.getD i wz) P k).2)) hon kr (b2 := kb1) (off2 := 0) (m := 1) (c2 := 1) kr (jc (l.getD i wz)) (jc_len (hW.at i)) (jc_all _) [(kb1,.cells ((jc (l.getD i wz)).toArray) 36 (0,0)),(xb,.cells ((jc (P.getD k wz)).toArray) 36 (0,0)),(wb,.cells ((jc (l.getD i wz)).toArray) 36 (0,0))] ([] ++ (Own.o 36 (jv P) oo ++ [])) (by rfl) (fun w1 h j v hj => by rw [Nat.zero_add]; exact h.ocell 0 rfl (by rw [List.getElem?_toArray]; exact hj)) om om) ?_
      rintro o1 ko1
      refine Lp 1 [] (some [5,6,9,10,11,12,16,17,18]) n0 trivial ?_
      refine CfgL.done rfl ?_
      refine Rg [5,6,7,9,10,11,12,16,17,18] [] n0 trivial ?_
      refine Rg [5,6,7,9,10,11,12,16,17,18,39] [dZ,(0,false,some (.int .i64 ((P.getD k wz).1))),dZ,(0,false,some (.int .i64 ((l.getD i wz).1)))] (fun S => [(∀ w1,S w1 → w1.cell? ⟨xb,0,none⟩ = some (.int .i64 ((P.getD k wz).1))),(∀ w1,S w1 → w1.cell? ⟨wb,0,none⟩ = some (.int .i64 ((l.getD i wz).1)))]) ⟨(fun w1 h => h.ocell 1 rfl rfl),(fun w1 h => h.ocell 2 rfl rfl),trivial⟩ ?_
      refine Cfg.cond rfl (b := (((P.getD k wz).1) != ((l.getD i wz).1))) kr (fun c4r => ?_) (fun c4r => ?_)
      ·have c4 := (bne_iff_ne.1 c4r)
       refine Cfg.begL rfl ?_
       refine Lp 2 [dZ,(0,false,some (.agg (jc (P.getD k wz)).toArray))] (some [5,6,7,10,11,12,16,17,18,40,41]) (fun S => [(∀ w1,S w1 → (loadVar 36 ⟨xb,0,none⟩).run Tryz.prog w1 = .ok (.agg (jc (P.getD k wz)).toArray) w1)]) ⟨(fun w1 h => load_list Tryz.underlying36 rfl kr (jc_len (hPw.at k)) (fun k v hv => by rw [Nat.zero_add]; exact h.ocell 1 rfl (by rw [List.getElem?_toArray]; exact hv))),trivial⟩ ?_
       refine Le (Eff.buildAgg (vs := (jc (P.getD k wz)).toArray) (n := 513) rfl kr Tryz.underlying29 kr (z := (.agg (jc wz).toArray)) kr (by rw [List.size_toArray]; exact jc_len (hPw.at k)) (by decide) (by decide)) ?_
       rintro kb2 ⟨hkb2,nkb2⟩
       refine Le (Eff.appendF rfl 513 520 Tryz.underlying29 kr (z := (.agg (jc wz).toArray)) kr kr o1 (xs := ((jv (insQ (l.getD i wz) P k).2) ++ (jc (l.getD i wz)))) ko1 kr (b2 := kb2) (off2 := 0) (m := 1) (c2 := 1) kr (jc (P.getD k wz)) (jc_len (hPw.at k)) (jc_all _) [(kb2,.cells ((jc (P.getD k wz)).toArray) 36 (0,0)),(kb1,.cells ((jc (l.getD i wz)).toArray) 36 (0,0)),(xb,.cells ((jc (P.getD k wz)).toArray) 36 (0,0)),(wb,.cells ((jc (l.getD i wz)).toArray) 36 (0,0))] ([] ++ (Own.o 36 (jv P) oo ++ [])) (by rfl) (fun w1 h j v hj => by rw [Nat.zero_add]; exact h.ocell 0 rfl (by rw [List.getElem?_toArray]; exact hj)) om om) ?_
       rintro o2 ko2
       refine Lp 1 [] (some [5,6,7,10,11,12,16,17,18]) n0 trivial ?_
       refine CfgL.done rfl ?_
       refine Cfg.reg rfl [5,6,7,10,11,12,16,17,18] [] (Γ' := [(18,[],.int .i64 ((k : Int) + 1)),(6,[],.slice (Own.a o2) ((((insQ (l.getD i wz) P k).2.length + 1) + 1)) (Own.c o2)),(7,[],.bool true),(17,[],.int .i64 (P.length : Int)),(16,[],.slice (some ⟨sc,of2,none⟩) P.length (Own.c oo)),(5,[],.pointer (some ⟨wb,0,none⟩)),(12,[],.int .i64 (i : Int)),(11,[],.int .i64 (l.length : Int)),(10,[],.slice (some ⟨sb,off,none⟩) l.length cap)]) (nd := (fun _ => [((-9223372036854775808 : Int) ≤ ((k : Int) + 1) ∧ ((k : Int) + 1) ≤ 9223372036854775807)])) (fun _ => kr) ⟨om,trivial⟩ ?_
       have hq := q_tt (w := (l.getD i wz)) (xs := P) (k := k) om c3r c4
       have hrv : ((jv (insQ (l.getD i wz) P k).2 ++ jc (l.getD i wz)) ++ jc (P.getD k wz)) = jv (insQ (l.getD i wz) P (k + 1)).2 := by rw [hq]; simp only [jv_app,jv_one]
       have hln : (insQ (l.getD i wz) P k).2.length + 1 + 1 = (insQ (l.getD i wz) P (k + 1)).2.length := by rw [hq]; simp only [List.length_append,List.length_singleton]
       refine Cfg.setO (congrArg (fun (xq : List Value) => (([(kb2,.cells ((jc (P.getD k wz)).toArray) 36 (0,0)),(kb1,.cells ((jc (l.getD i wz)).toArray) 36 (0,0)),(xb,.cells ((jc (P.getD k wz)).toArray) 36 (0,0)),(wb,.cells ((jc (l.getD i wz)).toArray) 36 (0,0))] ++ (Own.o 36 xq o2 ++ (Own.o 36 (jv P) oo ++ []))) : List (Nat × Obj))) (show _ = (jv (insQ (l.getD i wz) P (k + 1)).2) from hrv)) ?_
       refine Cg (Γ' := [(18,[],.int .i64 ((k : Int) + 1)),(6,[],.slice (Own.a o2) ((((insQ (l.getD i wz) P k).2.length + 1) + 1)) (Own.c o2)),(7,[],.bool true),(17,[],.int .i64 (P.length : Int)),(16,[],.slice (some ⟨sc,of2,none⟩) P.length (Own.c oo)),(5,[],.pointer (some ⟨wb,0,none⟩)),(12,[],.int .i64 (i : Int)),(11,[],.int .i64 (l.length : Int)),(10,[],.slice (some ⟨sb,off,none⟩) l.length cap)]) ?_
       refine Cfg.setG (congrArg (fun (xq : Nat) => ([(18,[],.int .i64 ((k : Int) + 1)),(6,[],.slice (Own.a o2) xq (Own.c o2)),(7,[],.bool true),(17,[],.int .i64 (P.length : Int)),(16,[],.slice (some ⟨sc,of2,none⟩) P.length (Own.c oo)),(5,[],.pointer (some ⟨wb,0,none⟩)),(12,[],.int .i64 (i : Int)),(11,[],.int .i64 (l.length : Int)),(10,[],.slice (some ⟨sb,off,none⟩) l.length cap)] : Env)) (show _ = ((insQ (l.getD i wz) P (k + 1)).2.length) from hln)) ?_
       refine Cg (Γ' := [(18,[],.int .i64 ((k : Int) + 1)),(6,[],.slice (Own.a o2) ((insQ (l.getD i wz) P (k + 1)).2.length) (Own.c o2)),(7,[],.bool true),(17,[],.int .i64 (P.length : Int)),(16,[],.slice (some ⟨sc,of2,none⟩) P.length (Own.c oo)),(5,[],.pointer (some ⟨wb,0,none⟩)),(12,[],.int .i64 (i : Int)),(11,[],.int .i64 (l.length : Int)),(10,[],.slice (some ⟨sb,off,none⟩) l.length cap)]) ?_
       refine Cfg.setG (congrArg (fun (xq : Bool) => ([(18,[],.int .i64 ((k : Int) + 1)),(6,[],.slice (Own.a o2) ((insQ (l.getD i wz) P (k + 1)).2.length) (Own.c o2)),(7,[],.bool xq),(17,[],.int .i64 (P.length : Int)),(16,[],.slice (some ⟨sc,of2,none⟩) P.length (Own.c oo)),(5,[],.pointer (some ⟨wb,0,none⟩)),(12,[],.int .i64 (i : Int)),(11,[],.int .i64 (l.length : Int)),(10,[],.slice (some ⟨sb,off,none⟩) l.length cap)] : Env)) (show _ = (insQ (l.getD i wz) P (k + 1)).1 from by rw [hq])) ?_
       refine Cfg.again rfl (k + 1,o2) ⟨by omega,(by rw [← hrv,← hln]; exact ko2)⟩ (by show P.length - (k + 1) < P.length - k; omega) (Conv.mk kr) (.cons _ (.cons _ (.cons _ (.cons_cons _ (List.Sublist.refl _)))))
      ·have c4 := (bne_eq_false_iff_eq.1 c4r)
       refine Rg [5,6,7,10,11,12,16,17,18] [] (fun _ => [((-9223372036854775808 : Int) ≤ ((k : Int) + 1) ∧ ((k : Int) + 1) ≤ 9223372036854775807)]) ⟨om,trivial⟩ ?_
       have hq := q_tf (w := (l.getD i wz)) (xs := P) (k := k) om c3r c4
       have hrv : (jv (insQ (l.getD i wz) P k).2 ++ jc (l.getD i wz)) = jv (insQ (l.getD i wz) P (k + 1)).2 := by rw [hq]; simp only [jv_app,jv_one]
       have hln : (insQ (l.getD i wz) P k).2.length + 1 = (insQ (l.getD i wz) P (k + 1)).2.length := by rw [hq]; simp only [List.length_append,List.length_singleton]
       refine Cfg.setO (congrArg (fun (xq : List Value) => (([(kb1,.cells ((jc (l.getD i wz)).toArray) 36 (0,0)),(xb,.cells ((jc (P.getD k wz)).toArray) 36 (0,0)),(wb,.cells ((jc (l.getD i wz)).toArray) 36 (0,0))] ++ (Own.o 36 xq o1 ++ (Own.o 36 (jv P) oo ++ []))) : List (Nat × Obj))) (show _ = (jv (insQ (l.getD i wz) P (k + 1)).2) from hrv)) ?_
       refine Cg (Γ' := [(18,[],.int .i64 ((k : Int) + 1)),(7,[],.bool true),(6,[],.slice (Own.a o1) (((insQ (l.getD i wz) P k).2.length + 1)) (Own.c o1)),(17,[],.int .i64 (P.length : Int)),(16,[],.slice (some ⟨sc,of2,none⟩) P.length (Own.c oo)),(5,[],.pointer (some ⟨wb,0,none⟩)),(12,[],.int .i64 (i : Int)),(11,[],.int .i64 (l.length : Int)),(10,[],.slice (some ⟨sb,off,none⟩) l.length cap)]) ?_
       refine Cfg.setG (congrArg (fun (xq : Nat) => ([(18,[],.int .i64 ((k : Int) + 1)),(7,[],.bool true),(6,[],.slice (Own.a o1) xq (Own.c o1)),(17,[],.int .i64 (P.length : Int)),(16,[],.slice (some ⟨sc,of2,none⟩) P.length (Own.c oo)),(5,[],.pointer (some ⟨wb,0,none⟩)),(12,[],.int .i64 (i : Int)),(11,[],.int .i64 (l.length : Int)),(10,[],.slice (some ⟨sb,off,none⟩) l.length cap)] : Env)) (show _ = ((insQ (l.getD i wz) P (k + 1)).2.length) from hln)) ?_
       refine Cg (Γ' := [(18,[],.int .i64 ((k : Int) + 1)),(7,[],.bool true),(6,[],.slice (Own.a o1) ((insQ (l.getD i wz) P (k + 1)).2.length) (Own.c o1)),(17,[],.int .i64 (P.length : Int)),(16,[],.slice (some ⟨sc,of2,none⟩) P.length (Own.c oo)),(5,[],.pointer (some ⟨wb,0,none⟩)),(12,[],.int .i64 (i : Int)),(11,[],.int .i64 (l.length : Int)),(10,[],.slice (some ⟨sb,off,none⟩) l.length cap)]) ?_
       refine Cfg.setG (congrArg (fun (xq : Bool) => ([(18,[],.int .i64 ((k : Int) + 1)),(7,[],.bool xq),(6,[],.slice (Own.a o1) ((insQ (l.getD i wz) P (k + 1)).2.length) (Own.c o1)),(17,[],.int .i64 (P.length : Int)),(16,[],.slice (some ⟨sc,of2,none⟩) P.length (Own.c oo)),(5,[],.pointer (some ⟨wb,0,none⟩)),(12,[],.int .i64 (i : Int)),(11,[],.int .i64 (l.length : Int)),(10,[],.slice (some ⟨sb,off,none⟩) l.length cap)] : Env)) (show _ = (insQ (l.getD i wz) P (k + 1)).1 from by rw [hq])) ?_
       refine Cfg.again rfl (k + 1,o1) ⟨by omega,(by rw [← hrv,← hln]; exact ko1)⟩ (by show P.length - (k + 1) < P.length - k; omega) (Conv.mk kr) (.cons _ (.cons _ (.cons_cons _ (List.Sublist.refl _))))
     ·have c3 : (((insQ (l.getD i wz) P k).1 = true) ∨ (¬ (((l.getD i wz).1) ≤ ((P.getD k wz).1)))) := ((andF c3r).elim (fun h => Or.inl (notF h)) (fun h => Or.inr (of_decide_eq_false h)))
      refine Rg [5,6,7,9,10,11,12,16,17,18,39] [dZ,(0,false,some (.int .i64 ((P.getD k wz).1))),dZ,(0,false,some (.int .i64 ((l.getD i wz).1)))] (fun S => [(∀ w1,S w1 → w1.cell? ⟨xb,0,none⟩ = some (.int .i64 ((P.getD k wz).1))),(∀ w1,S w1 → w1.cell? ⟨wb,0,none⟩ = some (.int .i64 ((l.getD i wz).1)))]) ⟨(fun w1 h => h.ocell 0 rfl rfl),(fun w1 h => h.ocell 1 rfl rfl),trivial⟩ ?_
      refine Cfg.cond rfl (b := (((P.getD k wz).1) != ((l.getD i wz).1))) kr (fun c5r => ?_) (fun c5r => ?_)
      ·have c5 := (bne_iff_ne.1 c5r)
       refine Cfg.begL rfl ?_
       refine Lp 2 [dZ,(0,false,some (.agg (jc (P.getD k wz)).toArray))] (some [5,6,7,10,11,12,16,17,18,40,41]) (fun S => [(∀ w1,S w1 → (loadVar 36 ⟨xb,0,none⟩).run Tryz.prog w1 = .ok (.agg (jc (P.getD k wz)).toArray) w1)]) ⟨(fun w1 h => load_list Tryz.underlying36 rfl kr (jc_len (hPw.at k)) (fun k v hv => by rw [Nat.zero_add]; exact h.ocell 0 rfl (by rw [List.getElem?_toArray]; exact hv))),trivial⟩ ?_
       refine Le (Eff.buildAgg (vs := (jc (P.getD k wz)).toArray) (n := 513) rfl kr Tryz.underlying29 kr (z := (.agg (jc wz).toArray)) kr (by rw [List.size_toArray]; exact jc_len (hPw.at k)) (by decide) (by decide)) ?_
       rintro kb3 ⟨hkb3,nkb3⟩
       refine Le (Eff.appendF rfl 513 520 Tryz.underlying29 kr (z := (.agg (jc wz).toArray)) kr kr on (xs := (jv (insQ (l.getD i wz) P k).2)) hon kr (b2 := kb3) (off2 := 0) (m := 1) (c2 := 1) kr (jc (P.getD k wz)) (jc_len (hPw.at k)) (jc_all _) [(kb3,.cells ((jc (P.getD k wz)).toArray) 36 (0,0)),(xb,.cells ((jc (P.getD k wz)).toArray) 36 (0,0)),(wb,.cells ((jc (l.getD i wz)).toArray) 36 (0,0))] ([] ++ (Own.o 36 (jv P) oo ++ [])) (by rfl) (fun w1 h j v hj => by rw [Nat.zero_add]; exact h.ocell 0 rfl (by rw [List.getElem?_toArray]; exact hj)) om om) ?_
       rintro o3 ko3
       refine Lp 1 [] (some [5,6,7,10,11,12,16,17,18]) n0 trivial ?_
       refine CfgL.done rfl ?_
       refine Rg [5,6,7,10,11,12,16,17,18] [] (fun _ => [((-9223372036854775808 : Int) ≤ ((k : Int) + 1) ∧ ((k : Int) + 1) ≤ 9223372036854775807)]) ⟨om,trivial⟩ ?_
       have hq := q_ft (w := (l.getD i wz)) (xs := P) (k := k) om c3r c5
       have hrv : (jv (insQ (l.getD i wz) P k).2 ++ jc (P.getD k wz)) = jv (insQ (l.getD i wz) P (k + 1)).2 := by rw [hq]; simp only [jv_app,jv_one]
       have hln : (insQ (l.getD i wz) P k).2.length + 1 = (insQ (l.getD i wz) P (k + 1)).2.length := by rw [hq]; simp only [List.length_append,List.length_singleton]
       refine Cfg.setO (congrArg (fun (xq : List Value) => (([(kb3,.cells ((jc (P.getD k wz)).toArray) 36 (0,0)),(xb,.cells ((jc (P.getD k wz)).toArray) 36 (0,0)),(wb,.cells ((jc (l.getD i wz)).toArray) 36 (0,0))] ++ (Own.o 36 xq o3 ++ (Own.o 36 (jv P) oo ++ []))) : List (Nat × Obj))) (show _ = (jv (insQ (l.getD i wz) P (k + 1)).2) from hrv)) ?_
       refine Cg (Γ' := [(18,[],.int .i64 ((k : Int) + 1)),(6,[],.slice (Own.a o3) (((insQ (l.getD i wz) P k).2.length + 1)) (Own.c o3)),(17,[],.int .i64 (P.length : Int)),(16,[],.slice (some ⟨sc,of2,none⟩) P.length (Own.c oo)),(7,[],.bool (insQ (l.getD i wz) P k).1),(5,[],.pointer (some ⟨wb,0,none⟩)),(12,[],.int .i64 (i : Int)),(11,[],.int .i64 (l.length : Int)),(10,[],.slice (some ⟨sb,off,none⟩) l.length cap)]) ?_
       refine Cfg.setG (congrArg (fun (xq : Nat) => ([(18,[],.int .i64 ((k : Int) + 1)),(6,[],.slice (Own.a o3) xq (Own.c o3)),(17,[],.int .i64 (P.length : Int)),(16,[],.slice (some ⟨sc,of2,none⟩) P.length (Own.c oo)),(7,[],.bool (insQ (l.getD i wz) P k).1),(5,[],.pointer (some ⟨wb,0,none⟩)),(12,[],.int .i64 (i : Int)),(11,[],.int .i64 (l.length : Int)),(10,[],.slice (some ⟨sb,off,none⟩) l.length cap)] : Env)) (show _ = ((insQ (l.getD i wz) P (k + 1)).2.length) from hln)) ?_
       refine Cg (Γ' := [(18,[],.int .i64 ((k : Int) + 1)),(6,[],.slice (Own.a o3) ((insQ (l.getD i wz) P (k + 1)).2.length) (Own.c o3)),(17,[],.int .i64 (P.length : Int)),(16,[],.slice (some ⟨sc,of2,none⟩) P.length (Own.c oo)),(7,[],.bool (insQ (l.getD i wz) P k).1),(5,[],.pointer (some ⟨wb,0,none⟩)),(12,[],.int .i64 (i : Int)),(11,[],.int .i64 (l.length : Int)),(10,[],.slice (some ⟨sb,off,none⟩) l.length cap)]) ?_
       refine Cfg.setG (congrArg (fun (xq : Bool) => ([(18,[],.int .i64 ((k : Int) + 1)),(6,[],.slice (Own.a o3) ((insQ (l.getD i wz) P (k + 1)).2.length) (Own.c o3)),(17,[],.int .i64 (P.length : Int)),(16,[],.slice (some ⟨sc,of2,none⟩) P.length (Own.c oo)),(7,[],.bool xq),(5,[],.pointer (some ⟨wb,0,none⟩)),(12,[],.int .i64 (i : Int)),(11,[],.int .i64 (l.length : Int)),(10,[],.slice (some ⟨sb,off,none⟩) l.length cap)] : Env)) (show _ = (insQ (l.getD i wz) P (k + 1)).1 from by rw [hq])) ?_
       refine Cfg.again rfl (k + 1,o3) ⟨by omega,(by rw [← hrv,← hln]; exact ko3)⟩ (by show P.length - (k + 1) < P.length - k; omega) (Conv.mk kr) (.cons _ (.cons _ (.cons_cons _ (List.Sublist.refl _))))
      ·have c5 := (bne_eq_false_iff_eq.1 c5r)
       refine Rg [5,6,7,10,11,12,16,17,18] [] (fun _ => [((-9223372036854775808 : Int) ≤ ((k : Int) + 1) ∧ ((k : Int) + 1) ≤ 9223372036854775807)]) ⟨om,trivial⟩ ?_
       have hq := q_ff (w := (l.getD i wz)) (xs := P) (k := k) om c3r c5
       have hrv : jv (insQ (l.getD i wz) P k).2 = jv (insQ (l.getD i wz) P (k + 1)).2 := by rw [hq]
       have hln : (insQ (l.getD i wz) P k).2.length = (insQ (l.getD i wz) P (k + 1)).2.length := by rw [hq]
       refine Cfg.setO (congrArg (fun (xq : List Value) => (([(xb,.cells ((jc (P.getD k wz)).toArray) 36 (0,0)),(wb,.cells ((jc (l.getD i wz)).toArray) 36 (0,0))] ++ (Own.o 36 xq on ++ (Own.o 36 (jv P) oo ++ []))) : List (Nat × Obj))) (show _ = (jv (insQ (l.getD i wz) P (k + 1)).2) from hrv)) ?_
       refine Cg (Γ' := [(18,[],.int .i64 ((k : Int) + 1)),(17,[],.int .i64 (P.length : Int)),(16,[],.slice (some ⟨sc,of2,none⟩) P.length (Own.c oo)),(7,[],.bool (insQ (l.getD i wz) P k).1),(6,[],.slice (Own.a on) ((insQ (l.getD i wz) P k).2.length) (Own.c on)),(5,[],.pointer (some ⟨wb,0,none⟩)),(12,[],.int .i64 (i : Int)),(11,[],.int .i64 (l.length : Int)),(10,[],.slice (some ⟨sb,off,none⟩) l.length cap)]) ?_
       refine Cfg.setG (congrArg (fun (xq : Nat) => ([(18,[],.int .i64 ((k : Int) + 1)),(17,[],.int .i64 (P.length : Int)),(16,[],.slice (some ⟨sc,of2,none⟩) P.length (Own.c oo)),(7,[],.bool (insQ (l.getD i wz) P k).1),(6,[],.slice (Own.a on) xq (Own.c on)),(5,[],.pointer (some ⟨wb,0,none⟩)),(12,[],.int .i64 (i : Int)),(11,[],.int .i64 (l.length : Int)),(10,[],.slice (some ⟨sb,off,none⟩) l.length cap)] : Env)) (show _ = ((insQ (l.getD i wz) P (k + 1)).2.length) from hln)) ?_
       refine Cg (Γ' := [(18,[],.int .i64 ((k : Int) + 1)),(17,[],.int .i64 (P.length : Int)),(16,[],.slice (some ⟨sc,of2,none⟩) P.length (Own.c oo)),(7,[],.bool (insQ (l.getD i wz) P k).1),(6,[],.slice (Own.a on) ((insQ (l.getD i wz) P (k + 1)).2.length) (Own.c on)),(5,[],.pointer (some ⟨wb,0,none⟩)),(12,[],.int .i64 (i : Int)),(11,[],.int .i64 (l.length : Int)),(10,[],.slice (some ⟨sb,off,none⟩) l.length cap)]) ?_
       refine Cfg.setG (congrArg (fun (xq : Bool) => ([(18,[],.int .i64 ((k : Int) + 1)),(17,[],.int .i64 (P.length : Int)),(16,[],.slice (some ⟨sc,of2,none⟩) P.length (Own.c oo)),(7,[],.bool xq),(6,[],.slice (Own.a on) ((insQ (l.getD i wz) P (k + 1)).2.length) (Own.c on)),(5,[],.pointer (some ⟨wb,0,none⟩)),(12,[],.int .i64 (i : Int)),(11,[],.int .i64 (l.length : Int)),(10,[],.slice (some ⟨sb,off,none⟩) l.length cap)] : Env)) (show _ = (insQ (l.getD i wz) P (k + 1)).1 from by rw [hq])) ?_
       refine Cfg.again rfl (k + 1,on) ⟨by omega,(by rw [← hrv,← hln]; exact hon)⟩ (by show P.length - (k + 1) < P.length - k; omega) (Conv.mk kr) (.cons _ (.cons_cons _ (List.Sublist.refl _)))
    ·have c2 := (of_decide_eq_false c2r)
     obtain rfl : k = P.length := by omega
     refine Conv.cfg (Γ' := [(7,[],.bool (insQ (l.getD i wz) P P.length).1),(6,[],.slice (Own.a on) ((insQ (l.getD i wz) P P.length).2.length) (Own.c on)),(5,[],.pointer (some ⟨wb,0,none⟩)),(12,[],.int .i64 (i : Int)),(11,[],.int .i64 (l.length : Int)),(10,[],.slice (some ⟨sb,off,none⟩) l.length cap)]) (Conv.mk kr) ?_
     refine Rg [5,6,10,11,12,46] [] n0 trivial ?_
     refine Cfg.cond rfl (b := (!(insQ (l.getD i wz) P P.length).1)) kr (fun c6r => ?_) (fun c6r => ?_)
     ·have c6 : ((insQ (l.getD i wz) P P.length).1 = false) := (notT c6r)
      refine Cfg.begL rfl ?_
      refine Lp 2 [dZ,(0,false,some (.agg (jc (l.getD i wz)).toArray))] (some [6,10,11,12,47,48]) (fun S => [(∀ w1,S w1 → (loadVar 36 ⟨wb,0,none⟩).run Tryz.prog w1 = .ok (.agg (jc (l.getD i wz)).toArray) w1)]) ⟨(fun w1 h => load_list Tryz.underlying36 rfl kr (jc_len (hW.at i)) (fun k v hv => by rw [Nat.zero_add]; exact h.ocell 0 rfl (by rw [List.getElem?_toArray]; exact hv))),trivial⟩ ?_
      refine Le (Eff.buildAgg (vs := (jc (l.getD i wz)).toArray) (n := 513) rfl kr Tryz.underlying29 kr (z := (.agg (jc wz).toArray)) kr (by rw [List.size_toArray]; exact jc_len (hW.at i)) (by decide) (by decide)) ?_
      rintro kb4 ⟨hkb4,nkb4⟩
      refine Le (Eff.appendF rfl 513 520 Tryz.underlying29 kr (z := (.agg (jc wz).toArray)) kr kr on (xs := (jv (insQ (l.getD i wz) P P.length).2)) hon kr (b2 := kb4) (off2 := 0) (m := 1) (c2 := 1) kr (jc (l.getD i wz)) (jc_len (hW.at i)) (jc_all _) [(kb4,.cells ((jc (l.getD i wz)).toArray) 36 (0,0)),(wb,.cells ((jc (l.getD i wz)).toArray) 36 (0,0))] ([] ++ (Own.o 36 (jv P) oo ++ [])) (by rfl) (fun w1 h j v hj => by rw [Nat.zero_add]; exact h.ocell 0 rfl (by rw [List.getElem?_toArray]; exact hj)) om om) ?_
      rintro o4 ko4
      refine Lp 1 [] (some [6,10,11,12]) n0 trivial ?_
      refine CfgL.done rfl ?_
      refine Rg [3,10,11,12] [] n0 trivial ?_
      refine Rg [3,10,11,12] [] (fun _ => [((-9223372036854775808 : Int) ≤ ((i : Int) + 1) ∧ ((i : Int) + 1) ≤ 9223372036854775807)]) ⟨om,trivial⟩ ?_
      have hend := insQ_end (l.getD i wz) P
      have hnx : plN l (i + 1) = (insQ (l.getD i wz) P P.length).2 ++ [(l.getD i wz)] := by rw [plN_next om,← hPd,hend,if_neg (by simpa using c6)]
      have hrv : jv (insQ (l.getD i wz) P P.length).2 ++ jc (l.getD i wz) = jv (plN l (i + 1)) := by rw [hnx,jv_app,jv_one]
      have hln : (insQ (l.getD i wz) P P.length).2.length + 1 = (plN l (i + 1)).length := by rw [hnx,List.length_append]; rfl
      refine Cfg.setO (congrArg (fun (xq : List Value) => (([(kb4,.cells ((jc (l.getD i wz)).toArray) 36 (0,0)),(wb,.cells ((jc (l.getD i wz)).toArray) 36 (0,0))] ++ (Own.o 36 xq o4 ++ (Own.o 36 (jv P) oo ++ []))) : List (Nat × Obj))) (show _ = (jv (plN l (i + 1))) from hrv)) ?_
      refine Cg (Γ' := [(12,[],.int .i64 ((i : Int) + 1)),(3,[],.slice (Own.a o4) (((insQ (l.getD i wz) P P.length).2.length + 1)) (Own.c o4)),(11,[],.int .i64 (l.length : Int)),(10,[],.slice (some ⟨sb,off,none⟩) l.length cap)]) ?_
      refine Cfg.setG (congrArg (fun (xq : Nat) => ([(12,[],.int .i64 ((i : Int) + 1)),(3,[],.slice (Own.a o4) xq (Own.c o4)),(11,[],.int .i64 (l.length : Int)),(10,[],.slice (some ⟨sb,off,none⟩) l.length cap)] : Env)) (show _ = ((plN l (i + 1)).length) from hln)) ?_
      refine Cfg.again rfl (i + 1,o4) ⟨by omega,(by rw [← hrv,← hln]; exact ko4)⟩ (by show l.length - (i + 1) < l.length - i; omega) (Conv.mk kr) (.cons _ (.cons _ (List.Sublist.append (l₁ := Own.o 36 (jv (plN l (i + 1))) o4) (l₂ := Own.o 36 (jv (plN l (i + 1))) o4) (r₁ := []) (List.Sublist.refl _) (List.nil_sublist _))))
     ·have c6 : ((insQ (l.getD i wz) P P.length).1 = true) := (notF c6r)
      refine Rg [3,10,11,12] [] n0 trivial ?_
      refine Rg [3,10,11,12] [] (fun _ => [((-9223372036854775808 : Int) ≤ ((i : Int) + 1) ∧ ((i : Int) + 1) ≤ 9223372036854775807)]) ⟨om,trivial⟩ ?_
      have hend := insQ_end (l.getD i wz) P
      have hnx : plN l (i + 1) = (insQ (l.getD i wz) P P.length).2 := by rw [plN_next om,← hPd,hend,if_pos (by simpa using c6)]; exact List.append_nil _
      have hrv : jv (insQ (l.getD i wz) P P.length).2 = jv (plN l (i + 1)) := by rw [hnx]
      have hln : (insQ (l.getD i wz) P P.length).2.length = (plN l (i + 1)).length := by rw [hnx]
      refine Cfg.setO (congrArg (fun (xq : List Value) => (([(wb,.cells ((jc (l.getD i wz)).toArray) 36 (0,0))] ++ (Own.o 36 xq on ++ (Own.o 36 (jv P) oo ++ []))) : List (Nat × Obj))) (show _ = (jv (plN l (i + 1))) from hrv)) ?_
      refine Cg (Γ' := [(12,[],.int .i64 ((i : Int) + 1)),(3,[],.slice (Own.a on) ((insQ (l.getD i wz) P P.length).2.length) (Own.c on)),(11,[],.int .i64 (l.length : Int)),(10,[],.slice (some ⟨sb,off,none⟩) l.length cap)]) ?_
      refine Cfg.setG (congrArg (fun (xq : Nat) => ([(12,[],.int .i64 ((i : Int) + 1)),(3,[],.slice (Own.a on) xq (Own.c on)),(11,[],.int .i64 (l.length : Int)),(10,[],.slice (some ⟨sb,off,none⟩) l.length cap)] : Env)) (show _ = ((plN l (i + 1)).length) from hln)) ?_
      refine Cfg.again rfl (i + 1,on) ⟨by omega,(by rw [← hrv,← hln]; exact hon)⟩ (by show l.length - (i + 1) < l.length - i; omega) (Conv.mk kr) (.cons _ (List.Sublist.append (l₁ := Own.o 36 (jv (plN l (i + 1))) on) (l₂ := Own.o 36 (jv (plN l (i + 1))) on) (r₁ := []) (List.Sublist.refl _) (List.nil_sublist _)))
  ·have c1 := (of_decide_eq_false c1r)
   refine Rg [2] [] n0 trivial ?_
   refine Cfg.ret rfl (rs := [.tmp 2]) rfl [.slice (Own.a oo) ((plN l i).length) (Own.c oo)] ⟨kr,trivial⟩ (fun w1 hp => ?_)
   have hil : plN l i = plainF l := by unfold plN; rw [List.take_of_length_le om]
   have h9 : HP w [] Rl (Own.o 36 (jv (plN l i)) oo ++ []) w1 := hp
   rw [List.append_nil] at h9
   rw [hil] at hoo h9
   exact ⟨oo,hoo,by rw [hil]; rfl,_,h9⟩
end Go.Proofs.YtohjpggjgomgoaaGreatDoor
namespace Go.Proofs.YtohjpggjgomgoaaGreatDoor
open K
set_option linter.unusedVariables false
theorem trans_4 {D : DK} {n : Nat} {F : List Wr} {E1 E2 E3 E4 : Int × DK} (h1 : E1 = layF D [((0 : Int),zb)]) (h2 : E2 = layF E1.2 (cpy F F.length)) (h3 : E3 = layF E2.2 [((0 : Int),headF n F)]) (h4 : E4 = layF E3.2 F) :
  transF D n F = if E1.1 ≠ 0 then E1 else if E2.1 ≠ 0 then E2 else if E3.1 ≠ 0 then E3 else if E4.1 ≠ 0 then E4 else (0,E4.2) := by
 subst h1; subst h2; subst h3; subst h4; rfl
theorem assoc3 {C : Cx} {R O : List (Nat × Obj)} {Γ : Env} {op : Oper} {ι : Type} {V : ι → Value} {Fx : ι → Prop} (L S1 S2 : List (Nat × Obj)) {A2 : ι → List (Nat × Obj)} (h : Eff C R O Γ op ι V (fun x => ((L ++ S1) ++ S2) ++ (A2 x ++ [])) Fx) : Eff C R O Γ op ι V (fun x => L ++ (S1 ++ (S2 ++ (A2 x ++ [])))) Fx := by
 have e : (fun x => L ++ (S1 ++ (S2 ++ (A2 x ++ [])))) = fun x => ((L ++ S1) ++ S2) ++ (A2 x ++ []) := funext fun x => by simp only [List.append_assoc]
 rw [e]; exact h
theorem r3_eq (L S1 S2 A : List (Nat × Obj)) : L ++ (S1 ++ (S2 ++ (A ++ []))) = ((L ++ S1) ++ S2) ++ (A ++ []) := by simp only [List.append_assoc]
theorem r3_own {w0 w : World} {M : List Nat} {R L S1 S2 A : List (Nat × Obj)} (h0 : HP w0 M R (L ++ (S1 ++ (S2 ++ (A ++ [])))) w) : (∀ e ∈ (L ++ S1) ++ S2,w.heap[e.1]? = some e.2) ∧ ∀ e ∈ (L ++ S1) ++ S2,e.1 ∉ A.map (·.1) :=
 have h : HP w0 M R (((L ++ S1) ++ S2) ++ (A ++ [])) w := r3_eq L S1 S2 A ▸ h0
 ⟨fun e he => h.own _ (List.mem_append_left _ he),fun e he => mid_apart h e (.inl he)⟩
set_option maxRecDepth 100000 in
set_option maxHeartbeats 8000000 in
theorem rCommit (kb : Nat) (why : Int) (num : Nat) (r : RM) (D : DK) (la : Option Addr) (cap : Nat) (l : List Wr) (Rl : List (Nat × Obj)) (w : World) (hg : DG D) (hA : Has w ((kb,Obj.cells #[.pointer (some ⟨r.r,0,none⟩),.int .u64 (num : Int),.int .i64 why] 68 (0,0)) :: rO (toR D) r)) (hd : (((kb,Obj.cells #[.pointer (some ⟨r.r,0,none⟩),.int .u64 (num : Int),.int .i64 why] 68 (0,0)) :: rO (toR D) r).map (·.1)).Nodup) (hI : InW Rl la l) (hW : WW l) (hl : l.length ≤ 100000) (hs : 0 ≤ D.steps ∧ D.steps ≤ 4611686018425000000) (hR : Has w Rl) (hnr : ∀ e ∈ Rl,e.1 ∉ ((kb,Obj.cells #[.pointer (some ⟨r.r,0,none⟩),.int .u64 (num : Int),.int .i64 why] 68 (0,0)) :: rO (toR D) r).map (·.1)) :
  Calls Tryz.prog 19 #[.pointer (some ⟨kb,0,none⟩),.slice la l.length cap] w fun e w' => e = .returned (.int .i64 (commitF ⟨why,num,D⟩ l).1) ∧ ∃ R1,HP w (((kb,Obj.cells #[.pointer (some ⟨r.r,0,none⟩),.int .u64 (num : Int),.int .i64 why] 68 (0,0)) :: rO (toR D) r).map (·.1)) R1 ((kb,Obj.cells #[.pointer (some ⟨r.r,0,none⟩),.int .u64 ((commitF ⟨why,num,D⟩ l).2.num : Int),.int .i64 ((commitF ⟨why,num,D⟩ l).2.why)] 68 (0,0)) :: rO (toR (commitF ⟨why,num,D⟩ l).2.D) r) w' := by
 have hnl := hg.n
 obtain ⟨n2,hn2⟩ : ∃ n,n = ((num + 1) % 18446744073709551616) := ⟨_,rfl⟩
 have hn3 : n2 < 18446744073709551616 := by rw [hn2]; exact Nat.mod_lt _ (by decide)
 have hn4 : ((num : Int) + 1) % 18446744073709551616 = (n2 : Int) := by omega
 obtain ⟨F,hF⟩ : ∃ F,F = risF l := ⟨_,rfl⟩
 have hFw : WW F := hF ▸ risF_w hW
 have hFl : F.length ≤ l.length := by rw [hF,risF_len]; exact lastM_len l _
 obtain ⟨E1,hE1⟩ : ∃ E,E = layF D [((0 : Int),zb)] := ⟨_,rfl⟩
 obtain ⟨E2,hE2⟩ : ∃ E,E = layF E1.2 (cpy F F.length) := ⟨_,rfl⟩
 obtain ⟨E3,hE3⟩ : ∃ E,E = layF E2.2 [((0 : Int),headF n2 F)] := ⟨_,rfl⟩
 obtain ⟨E4,hE4⟩ : ∃ E,E = layF E3.2 F := ⟨_,rfl⟩
 have hT4 := trans_4 hE1 hE2 hE3 hE4
 have hw1 : WW [((0 : Int),zb)] := WW.one zb_len
 have hw3 : WW [((0 : Int),headF n2 F)] := WW.one (headF_len _ _)
 have hg1 : DG E1.2 := hE1 ▸ hg.lay hw1
 have hg2 : DG E2.2 := hE2 ▸ hg1.lay (cpy_w hFw _)
 have hg3 : DG E3.2 := hE3 ▸ hg2.lay hw3
 have hs1 : D.steps ≤ E1.2.steps ∧ E1.2.steps ≤ D.steps + 2 := by have h9 := layF_steps [((0 : Int),zb)] D; rw [← hE1,List.length_singleton] at h9; omega
 have hs2 : E1.2.steps ≤ E2.2.steps ∧ E2.2.steps ≤ E1.2.steps + 100001 := by have h9 := layF_steps (cpy F F.length) E1.2; rw [← hE2,cpy_len] at h9; omega
 have hs3 : E2.2.steps ≤ E3.2.steps ∧ E3.2.steps ≤ E2.2.steps + 2 := by have h9 := layF_steps [((0 : Int),headF n2 F)] E2.2; rw [← hE3,List.length_singleton] at h9; omega
 refine enter (vs := [.pointer (some ⟨kb,0,none⟩),.slice la l.length cap]) (((kb,Obj.cells #[.pointer (some ⟨r.r,0,none⟩),.int .u64 (num : Int),.int .i64 why] 68 (0,0)) :: rO (toR D) r).map (·.1)) Rl ([(kb,.cells #[.pointer (some ⟨r.r,0,none⟩),.int .u64 (num : Int),.int .i64 why] 68 (0,0))] ++ (rO (toR D) r ++ [])) Tryz.func19 rfl kr (by rw [List.append_nil]; exact HP.ofL hA hd hR hnr) ?_
 refine Rg [0,1] [] n0 trivial ?_
 refine Rg [0,1,15] [dZ,dZ,dZ,(0,false,some (.int .i64 why))] (fun S => [(∀ w1,S w1 → w1.cell? ⟨kb,2,none⟩ = some (.int .i64 why))]) ⟨(fun w1 h => h.ocell 0 rfl rfl),trivial⟩ ?_
 refine Cfg.cond rfl (b := (why != (0 : Int))) kr (fun c1r => ?_) (fun c1r => ?_)
 ·have c1 := (bne_iff_ne.1 c1r)
  refine Rg [4] [dZ,dZ,dZ,(0,false,some (.int .i64 why))] (fun S => [(∀ w1,S w1 → w1.cell? ⟨kb,2,none⟩ = some (.int .i64 why))]) ⟨(fun w1 h => h.ocell 0 rfl rfl),trivial⟩ ?_
  refine Cfg.ret rfl (rs := [.tmp 4]) rfl [.int .i64 why] ⟨kr,trivial⟩ (fun w1 hp => ?_)
  have hx : commitF ⟨why,num,D⟩ l = (why,⟨why,num,D⟩) := com_lost (num := num) (D := D) (l := l) c1
  rw [hx]
  have h9 : HP w (((kb,Obj.cells #[.pointer (some ⟨r.r,0,none⟩),.int .u64 (num : Int),.int .i64 why] 68 (0,0)) :: rO (toR D) r).map (·.1)) Rl ([(kb,Obj.cells #[.pointer (some ⟨r.r,0,none⟩),.int .u64 (num : Int),.int .i64 why] 68 (0,0))] ++ (rO (toR D) r ++ [])) w1 := hp.sub (.cons_cons _ (List.Sublist.refl _))
  rw [List.append_nil] at h9
  exact ⟨rfl,_,h9⟩
 ·have c1 := (bne_eq_false_iff_eq.1 c1r)
  refine Rg [0,1,20,21,22] [] n0 trivial ?_
  refine Cfg.loop rfl (ι := Nat) (fun (i : Nat) => [(22,[],.int .i64 (i : Int)),(21,[],.int .i64 (l.length : Int)),(20,[],.slice la l.length cap),(0,[],.pointer (some ⟨kb,0,none⟩)),(1,[],.slice la l.length cap)]) (fun (i : Nat) => ([(kb,.cells #[.pointer (some ⟨r.r,0,none⟩),.int .u64 (num : Int),.int .i64 why] 68 (0,0))] ++ (rO (toR D) r ++ []))) (fun (i : Nat) => (i ≤ l.length) ∧ (∀ j,j < i → badW D (l.getD j wz) = false)) (fun (i : Nat) => l.length - i) 0 ?_ (Conv.mk kr) (List.Sublist.refl _) ?_
  ·exact ⟨Nat.zero_le _,fun j h => absurd h (Nat.not_lt_zero j)⟩
  ·rintro i ⟨hi,hnb⟩
   refine Rg [0,1,20,21,22,23] [] n0 trivial ?_
   refine Cfg.cond rfl (b := (decide ((i : Int) < (l.length : Int)))) kr (fun c2r => ?_) (fun c2r => ?_)
   ·have c2 := (of_decide_eq_true c2r)
    obtain ⟨sb,off,cs,te,fre,rfl,hmem,hcs⟩ := hI om
    refine Conv.cfg (Γ' := [(23,[],.bool (decide ((i : Int) < (l.length : Int)))),(22,[],.int .i64 (i : Int)),(21,[],.int .i64 (l.length : Int)),(20,[],.slice (some ⟨sb,off,none⟩) l.length cap),(0,[],.pointer (some ⟨kb,0,none⟩)),(1,[],.slice (some ⟨sb,off,none⟩) l.length cap)]) (Conv.mk kr) ?_
    refine Cfg.begL rfl ?_
    refine Lp 2 [dZ,(0,false,some (.agg (jc (l.getD i wz)).toArray))] (some [0,1,20,21,22,25]) (fun S => [(0 ≤ (i : Int) ∧ (i : Int) < (l.length : Int)),(∀ w1,S w1 → (loadVar 36 ⟨sb,(addO off (i * 513)),none⟩).run Tryz.prog w1 = .ok (.agg (jc (l.getD i wz)).toArray) w1)]) ⟨om,(fun w1 h => load_list Tryz.underlying36 rfl kr (jc_len (hW.at i)) (fun j v hj => by rw [addO_eq]; exact (cell_cells (h.ro _ hmem)).trans (wr_cell hW hcs om hj))),trivial⟩ ?_
    refine Le (Eff.alloc (z := (.agg (jc wz).toArray)) rfl kr) ?_
    rintro wb ⟨hwb,nwb⟩
    refine Le (Eff.storeN (b := wb) (off := 0) (vs := (jc (l.getD i wz)).toArray) (n := 513) rfl kr kr kr (by rw [List.size_toArray,jc_len (hW.at i)]) (jc_all _) 0 (cs := (jc wz).toArray) (e := 36) kr (by show 0 + 513 ≤ (jc wz).toArray.size; rw [List.size_toArray,jc_len zb_len]; decide)) ?_
    rintro ⟨⟩ -
    refine CfgL.setO (congrArg (fun (xq : Array Value) => (([(wb,.cells xq 36 (0,0)),(kb,.cells #[.pointer (some ⟨r.r,0,none⟩),.int .u64 (num : Int),.int .i64 why] 68 (0,0))] ++ (rO (toR D) r ++ [])) : List (Nat × Obj))) (show _ = ((jc (l.getD i wz)).toArray) from spl_all (by rw [List.size_toArray,List.size_toArray,jc_len (hW.at i)]; exact (jc_len zb_len).symm))) ?_
    refine CfgL.done rfl ?_
    refine Cg (Γ' := [(6,[],.pointer (some ⟨wb,0,none⟩)),(22,[],.int .i64 (i : Int)),(21,[],.int .i64 (l.length : Int)),(20,[],.slice (some ⟨sb,off,none⟩) l.length cap),(0,[],.pointer (some ⟨kb,0,none⟩)),(1,[],.slice (some ⟨sb,off,none⟩) l.length cap)]) ?_
    refine Cfg.regD rfl kr [0,1,20,21,22,41] [dZ,(0,false,some (.int .i64 ((l.getD i wz).1))),dZ,dZ,dZ,(0,false,some (.int .i64 ((l.getD i wz).1))),dZ,dZ,dZ,(0,false,some (.pointer (some ⟨r.r,0,none⟩))),dZ,dZ,(0,false,some (.slice (some ⟨r.lb,0,none⟩) D.last.length D.last.length))] (Γ' := [(41,[],.bool ((decide (((l.getD i wz).1) < (97 : Int))) || (decide (((l.getD i wz).1) ≥ (D.last.length : Int))))),(22,[],.int .i64 (i : Int)),(21,[],.int .i64 (l.length : Int)),(20,[],.slice (some ⟨sb,off,none⟩) l.length cap),(0,[],.pointer (some ⟨kb,0,none⟩)),(1,[],.slice (some ⟨sb,off,none⟩) l.length cap)]) (nd := (fun S => [(∀ w1,S w1 → w1.cell? ⟨wb,0,none⟩ = some (.int .i64 ((l.getD i wz).1))),((.bool (decide (((l.getD i wz).1) < (97 : Int))) : Value) = .bool false → (∀ w1,S w1 → w1.cell? ⟨wb,0,none⟩ = some (.int .i64 ((l.getD i wz).1)))),((.bool (decide (((l.getD i wz).1) < (97 : Int))) : Value) = .bool false → (∀ w1,S w1 → w1.cell? ⟨kb,0,none⟩ = some (.pointer (some ⟨r.r,0,none⟩)))),((.bool (decide (((l.getD i wz).1) < (97 : Int))) : Value) = .bool false → (∀ w1,S w1 → w1.cell? ⟨r.r,1,none⟩ = some (.slice (some ⟨r.lb,0,none⟩) D.last.length D.last.length)))])) kr kr (fun _ => kr) ⟨(fun w1 h => h.ocell 0 rfl rfl),(fun g0 => have q0 : (¬ (((l.getD i wz).1) < (97 : Int))) := (of_decide_eq_false (boolV g0)); (fun w1 h => h.ocell 0 rfl rfl)),(fun g0 => have q0 : (¬ (((l.getD i wz).1) < (97 : Int))) := (of_decide_eq_false (boolV g0)); (fun w1 h => h.ocell 1 rfl rfl)),(fun g0 => have q0 : (¬ (((l.getD i wz).1) < (97 : Int))) := (of_decide_eq_false (boolV g0)); (fun w1 h => by rw [cell_cells (h.own (r.r,.cells (rC (toR D) r) 72 (0,0)) (List.mem_append_right [(wb,Obj.cells ((jc (l.getD i wz)).toArray) 36 (0,0)),(kb,Obj.cells #[.pointer (some ⟨r.r,0,none⟩),.int .u64 (num : Int),.int .i64 why] 68 (0,0))] (List.mem_append_left _ (List.mem_cons_self ..)))),rC]; rfl)),trivial⟩ ?_
    refine Cfg.cond rfl (b := ((decide (((l.getD i wz).1) < (97 : Int))) || (decide (((l.getD i wz).1) ≥ (D.last.length : Int))))) kr (fun c3r => ?_) (fun c3r => ?_)
    ·have c3 : ((((l.getD i wz).1) < (97 : Int)) ∨ (((l.getD i wz).1) ≥ (D.last.length : Int))) := ((orT c3r).elim (fun h => Or.inl (of_decide_eq_true h)) (fun h => Or.inr (of_decide_eq_true h)))
     refine Rg [4] [] n0 trivial ?_
     refine Cfg.ret rfl (rs := [.tmp 4]) rfl [.int .i64 2] ⟨kr,trivial⟩ (fun w1 hp => ?_)
     have hx : commitF ⟨why,num,D⟩ l = (2,⟨why,num,D⟩) := com_bad (num := num) (D := D) (l := l) c1 (any_yes (i := i) om (by unfold badW; rw [Bool.or_eq_true,decide_eq_true_eq,decide_eq_true_eq]; omega))
     rw [hx]
     have h9 : HP w (((kb,Obj.cells #[.pointer (some ⟨r.r,0,none⟩),.int .u64 (num : Int),.int .i64 why] 68 (0,0)) :: rO (toR D) r).map (·.1)) Rl ([(kb,Obj.cells #[.pointer (some ⟨r.r,0,none⟩),.int .u64 (num : Int),.int .i64 why] 68 (0,0))] ++ (rO (toR D) r ++ [])) w1 := hp.sub (.cons _ (.cons_cons _ (List.Sublist.refl _)))
     rw [List.append_nil] at h9
     exact ⟨rfl,_,h9⟩
    ·have c3 : ((¬ (((l.getD i wz).1) < (97 : Int))) ∧ (¬ (((l.getD i wz).1) ≥ (D.last.length : Int)))) := ⟨(of_decide_eq_false (orF1 c3r)),(of_decide_eq_false (orF2 c3r))⟩
     refine Rg [0,1,20,21,22] [] (fun _ => [((-9223372036854775808 : Int) ≤ ((i : Int) + 1) ∧ ((i : Int) + 1) ≤ 9223372036854775807)]) ⟨om,trivial⟩ ?_
     have hbd : badW D (l.getD i wz) = false := by unfold badW; rw [Bool.or_eq_false_iff,decide_eq_false_iff_not,decide_eq_false_iff_not]; omega
     refine Cfg.again rfl (i + 1) ⟨by omega,fun j hj => by rcases Nat.lt_or_ge j i with h1 | h1; exact hnb j h1; rw [show j = i by omega]; exact hbd⟩ (by show l.length - (i + 1) < l.length - i; omega) (Conv.mk kr) (.cons _ (.cons_cons _ (List.Sublist.refl _)))
   ·have c2 := (of_decide_eq_false c2r)
    have hno := any_no (D := D) (l := l) (fun j hj => hnb j om)
    refine Conv.cfg (Γ' := [(0,[],.pointer (some ⟨kb,0,none⟩)),(1,[],.slice la l.length cap)]) (Conv.mk kr) ?_
    refine Cfg.begL rfl ?_
    refine Lp 1 [] none n0 trivial ?_
    refine Le (Eff.callH (vs := [.slice la l.length cap]) (fun o : K.Own => .slice (Own.a o) F.length (Own.c o)) [] (fun o => Own.o 36 (jv F) o) (fun o => OwnOk o 513 F.length (jv F)) [(kb,.cells #[.pointer (some ⟨r.r,0,none⟩),.int .u64 (num : Int),.int .i64 why] 68 (0,0))] ([] ++ (rO (toR D) r ++ [])) rfl rfl Tryz.func67 rfl rfl kr (fun w1 h _ _ => by have h9 := rPlain la cap l Rl w1 hI hW hl (h.hasR (fun e he => he)); rw [plain_ris,← hF] at h9; exact h9)) ?_
    rintro op hop
    refine Lp 1 [] (some [0,1]) n0 trivial ?_
    refine CfgL.done rfl ?_
    refine Rg [0,1,47] [] n0 trivial ?_
    refine Cfg.cond rfl (b := (decide ((F.length : Int) > (96 : Int)))) kr (fun c4r => ?_) (fun c4r => ?_)
    ·have c4 := (of_decide_eq_true c4r)
     refine Rg [4] [] n0 trivial ?_
     refine Cfg.ret rfl (rs := [.tmp 4]) rfl [.int .i64 15] ⟨kr,trivial⟩ (fun w1 hp => ?_)
     have hx : commitF ⟨why,num,D⟩ l = (15,⟨why,num,D⟩) := com_many (num := num) (D := D) (l := l) c1 hno (by rw [← hF]; omega)
     rw [hx]
     have h9 : HP w (((kb,Obj.cells #[.pointer (some ⟨r.r,0,none⟩),.int .u64 (num : Int),.int .i64 why] 68 (0,0)) :: rO (toR D) r).map (·.1)) Rl ([(kb,Obj.cells #[.pointer (some ⟨r.r,0,none⟩),.int .u64 (num : Int),.int .i64 why] 68 (0,0))] ++ (rO (toR D) r ++ [])) w1 := hp.sub (.cons_cons _ (List.Sublist.trans (List.Sublist.refl _) (List.sublist_append_right (Own.o 36 (jv F) op) _)))
     rw [List.append_nil] at h9
     exact ⟨rfl,_,h9⟩
    ·have c4 := (of_decide_eq_false c4r)
     refine Rg [0,1,50] [] n0 trivial ?_
     refine Cfg.cond rfl (b := ((F.length : Int) == (0 : Int))) kr (fun c5r => ?_) (fun c5r => ?_)
     ·have c5 := (beq_iff_eq.1 c5r)
      refine Cfg.reg rfl [4] [] (Γ' := [(4,[],.int .i64 0)]) (nd := (fun _ => [])) (fun _ => kr) trivial ?_
      refine Cfg.ret rfl (rs := [.tmp 4]) rfl [.int .i64 0] ⟨kr,trivial⟩ (fun w1 hp => ?_)
      have hx : commitF ⟨why,num,D⟩ l = (0,⟨why,num,D⟩) := com_none (num := num) (D := D) (l := l) c1 hno (by rw [← hF]; omega)
      rw [hx]
      have h9 : HP w (((kb,Obj.cells #[.pointer (some ⟨r.r,0,none⟩),.int .u64 (num : Int),.int .i64 why] 68 (0,0)) :: rO (toR D) r).map (·.1)) Rl ([(kb,Obj.cells #[.pointer (some ⟨r.r,0,none⟩),.int .u64 (num : Int),.int .i64 why] 68 (0,0))] ++ (rO (toR D) r ++ [])) w1 := hp.sub (.cons_cons _ (List.Sublist.trans (List.Sublist.refl _) (List.sublist_append_right (Own.o 36 (jv F) op) _)))
      rw [List.append_nil] at h9
      exact ⟨rfl,_,h9⟩
     ·have c5 := (beq_eq_false_iff_ne.1 c5r)
      refine Rg [0,1,7] [] n0 trivial ?_
      refine Rg [0,1,7,51,52,53] [] n0 trivial ?_
      obtain ⟨lk,hlk⟩ : ∃ lk,lk = Own.a op := ⟨_,rfl⟩
      have hIk : InW (Own.o 36 (jv F) op) lk F := hlk ▸ inW_own hop
      refine Conv.cfg (Γ' := [(53,[],.int .i64 0),(52,[],.int .i64 (F.length : Int)),(51,[],.slice (Own.a op) F.length (Own.c op)),(7,[],.slice none 0 0),(1,[],.slice (Own.a op) F.length (Own.c op)),(0,[],.pointer (some ⟨kb,0,none⟩))]) (Conv.mk kr) ?_
      refine Cfg.setG (Γ' := [(53,[],.int .i64 0),(52,[],.int .i64 (F.length : Int)),(51,[],.slice lk F.length ((Own.c op))),(7,[],.slice none 0 0),(1,[],.slice (Own.a op) F.length (Own.c op)),(0,[],.pointer (some ⟨kb,0,none⟩))]) (congrArg (fun (xq : Option Addr) => ([(53,[],.int .i64 0),(52,[],.int .i64 (F.length : Int)),(51,[],.slice xq F.length (Own.c op)),(7,[],.slice none 0 0),(1,[],.slice (Own.a op) F.length (Own.c op)),(0,[],.pointer (some ⟨kb,0,none⟩))] : Env)) hlk.symm) ?_
      refine Cfg.loop rfl (ι := Nat × K.Own) (fun (xz : Nat × K.Own) => match xz with | (i,oc) => [(53,[],.int .i64 (i : Int)),(52,[],.int .i64 (F.length : Int)),(51,[],.slice lk F.length ((Own.c op))),(7,[],.slice (Own.a oc) i (Own.c oc)),(1,[],.slice (Own.a op) F.length (Own.c op)),(0,[],.pointer (some ⟨kb,0,none⟩))]) (fun (xz : Nat × K.Own) => match xz with | (i,oc) => ([(kb,.cells #[.pointer (some ⟨r.r,0,none⟩),.int .u64 (num : Int),.int .i64 why] 68 (0,0))] ++ (Own.o 36 (jv (cpy F i)) oc ++ (Own.o 36 (jv F) op ++ (rO (toR D) r ++ []))))) (fun (xz : Nat × K.Own) => match xz with | (i,oc) => (i ≤ F.length) ∧ (OwnOk oc 513 i (jv (cpy F i)))) (fun (xz : Nat × K.Own) => match xz with | (i,oc) => F.length - i) (0,none) ?_ (Conv.mk kr) (List.Sublist.refl _) ?_
      ·exact ⟨Nat.zero_le _,OwnOk.none _⟩
      ·rintro ⟨i,oc⟩ ⟨hi,hoc⟩
       refine Rg [0,1,7,51,52,53,54] [] n0 trivial ?_
       refine Cfg.cond rfl (b := (decide ((i : Int) < (F.length : Int)))) kr (fun c6r => ?_) (fun c6r => ?_)
       ·have c6 := (of_decide_eq_true c6r)
        obtain ⟨sc,of2,cs2,te2,fr2,rfl,hmem2,hcs2⟩ := hIk om
        refine Conv.cfg (Γ' := [(54,[],.bool (decide ((i : Int) < (F.length : Int)))),(53,[],.int .i64 (i : Int)),(52,[],.int .i64 (F.length : Int)),(51,[],.slice (some ⟨sc,of2,none⟩) F.length (Own.c op)),(7,[],.slice (Own.a oc) i (Own.c oc)),(1,[],.slice (Own.a op) F.length (Own.c op)),(0,[],.pointer (some ⟨kb,0,none⟩))]) (Conv.mk kr) ?_
        refine Cfg.begL rfl ?_
        refine Lp 3 [dZ,dZ,(0,false,some (.agg (jc (F.getD i wz)).toArray))] (some [0,1,7,51,52,53,55,57]) (fun S => [(0 ≤ (i : Int) ∧ (i : Int) < (F.length : Int)),(∀ w1,S w1 → (loadVar 36 ⟨sc,(addO of2 (i * 513)),none⟩).run Tryz.prog w1 = .ok (.agg (jc (F.getD i wz)).toArray) w1)]) ⟨om,(fun w1 h => load_list Tryz.underlying36 rfl kr (jc_len (hFw.at i)) (fun j v hj => by rw [addO_eq]; exact (cell_cells (h.own _ (List.mem_append_right _ (List.mem_append_right _ (List.mem_append_left _ hmem2))))).trans (wr_cell hFw hcs2 om hj))),trivial⟩ ?_
        refine Le (Eff.alloc (z := (.agg (jc wz).toArray)) rfl kr) ?_
        rintro xb ⟨hxb,nxb⟩
        refine Lp 1 [] (some [0,1,7,8,9,51,52,53,57]) n0 trivial ?_
        refine Le (Eff.storeN (b := xb) (off := 0) (vs := (jc (F.getD i wz)).toArray) (n := 513) rfl kr kr kr (by rw [List.size_toArray,jc_len (hFw.at i)]) (jc_all _) 0 (cs := (jc wz).toArray) (e := 36) kr (by show 0 + 513 ≤ (jc wz).toArray.size; rw [List.size_toArray,jc_len zb_len]; decide)) ?_
        rintro ⟨⟩ -
        refine CfgL.setO (congrArg (fun (xq : Array Value) => (([(xb,.cells xq 36 (0,0)),(kb,.cells #[.pointer (some ⟨r.r,0,none⟩),.int .u64 (num : Int),.int .i64 why] 68 (0,0))] ++ (Own.o 36 (jv (cpy F i)) oc ++ (Own.o 36 (jv F) op ++ (rO (toR D) r ++ [])))) : List (Nat × Obj))) (show _ = ((jc (F.getD i wz)).toArray) from spl_all (by rw [List.size_toArray,List.size_toArray,jc_len (hFw.at i)]; exact (jc_len zb_len).symm))) ?_
        refine CfgL.done rfl ?_
        refine Cg (Γ' := [(8,[],.int .i64 (i : Int)),(9,[],.pointer (some ⟨xb,0,none⟩)),(53,[],.int .i64 (i : Int)),(52,[],.int .i64 (F.length : Int)),(51,[],.slice (some ⟨sc,of2,none⟩) F.length (Own.c op)),(7,[],.slice (Own.a oc) i (Own.c oc)),(1,[],.slice (Own.a op) F.length (Own.c op)),(0,[],.pointer (some ⟨kb,0,none⟩))]) ?_
        refine Cfg.begL rfl ?_
        refine Lp 6 [dZ,dZ,dZ,dZ,(0,false,some (.agg (bv (F.getD i wz).2))),(0,false,some (.agg (jc (((i : Int) + 1),(F.getD i wz).2)).toArray))] (some [0,1,7,51,52,53,58,63]) (fun S => [((-9223372036854775808 : Int) ≤ ((i : Int) + 1) ∧ ((i : Int) + 1) ≤ 9223372036854775807),(∀ w1,S w1 → (loadVar 25 ⟨xb,1,none⟩).run Tryz.prog w1 = .ok (.agg (bv (F.getD i wz).2)) w1),(∀ w1,S w1 → (Instr.build 36 #[(0,.int .i64 ((i : Int) + 1)),(1,.agg (bv (F.getD i wz).2))]).run Tryz.prog w1 = .ok (.agg (jc (((i : Int) + 1),(F.getD i wz).2)).toArray) w1)]) ⟨om,(fun w1 h => load_bytes Tryz.underlying25 rfl kr (hFw.at i) (fun j hj => by rw [cell_cells (h.own (xb,_) (List.mem_of_getElem? (i := 0) rfl)),List.getElem?_toArray]; exact jc_byte (hFw.at i) hj)),(fun w1 _ => build_rw (((i : Int) + 1)) (hFw.at _) w1),trivial⟩ ?_
        refine Le (Eff.buildAgg (vs := (jc (((i : Int) + 1),(F.getD i wz).2)).toArray) (n := 513) rfl kr Tryz.underlying29 kr (z := (.agg (jc wz).toArray)) kr (by rw [List.size_toArray]; exact jc_len (hFw.at i)) (by decide) (by decide)) ?_
        rintro kk3 ⟨hkk3,nkk3⟩
        refine Le (Eff.appendF rfl 513 520 Tryz.underlying29 kr (z := (.agg (jc wz).toArray)) kr kr oc (xs := (jv (cpy F i))) hoc kr (b2 := kk3) (off2 := 0) (m := 1) (c2 := 1) kr (jc ((i : Int) + 1,(F.getD i wz).2)) (jc_len (hFw.at i)) (jc_all _) [(kk3,.cells ((jc (((i : Int) + 1),(F.getD i wz).2)).toArray) 36 (0,0)),(xb,.cells ((jc (F.getD i wz)).toArray) 36 (0,0)),(kb,.cells #[.pointer (some ⟨r.r,0,none⟩),.int .u64 (num : Int),.int .i64 why] 68 (0,0))] ([] ++ (Own.o 36 (jv F) op ++ (rO (toR D) r ++ []))) (by rfl) (fun w1 h j v hj => by rw [Nat.zero_add]; exact h.ocell 0 rfl (by rw [List.getElem?_toArray]; exact hj)) om om) ?_
        rintro o2 ko2
        refine Lp 1 [] (some [0,1,7,51,52,53]) n0 trivial ?_
        refine CfgL.done rfl ?_
        refine Rg [0,1,7,51,52,53] [] (fun _ => [((-9223372036854775808 : Int) ≤ ((i : Int) + 1) ∧ ((i : Int) + 1) ≤ 9223372036854775807)]) ⟨om,trivial⟩ ?_
        have hrv := cpy_jv F i
        refine Cfg.setO (congrArg (fun (xq : List Value) => (([(kk3,.cells ((jc (((i : Int) + 1),(F.getD i wz).2)).toArray) 36 (0,0)),(xb,.cells ((jc (F.getD i wz)).toArray) 36 (0,0)),(kb,.cells #[.pointer (some ⟨r.r,0,none⟩),.int .u64 (num : Int),.int .i64 why] 68 (0,0))] ++ (Own.o 36 xq o2 ++ (Own.o 36 (jv F) op ++ (rO (toR D) r ++ [])))) : List (Nat × Obj))) (show _ = (jv (cpy F (i + 1))) from hrv)) ?_
        refine Cfg.again rfl (i + 1,o2) ⟨by omega,hrv ▸ ko2⟩ (by show F.length - (i + 1) < F.length - i; omega) (Conv.mk kr) (.cons _ (.cons _ (.cons_cons _ (List.Sublist.refl _))))
       ·have c6 := (of_decide_eq_false c6r)
        obtain rfl : i = F.length := by omega
        have hoc2 : OwnOk oc 513 (cpy F F.length).length (jv (cpy F F.length)) := by rw [cpy_len]; exact hoc
        refine Conv.cfg (Γ' := [(7,[],.slice (Own.a oc) F.length (Own.c oc)),(1,[],.slice (Own.a op) F.length (Own.c op)),(0,[],.pointer (some ⟨kb,0,none⟩))]) (Conv.mk kr) ?_
        refine Cg (Γ' := [(7,[],.slice (Own.a oc) F.length (Own.c oc)),(1,[],.slice (Own.a op) F.length (Own.c op)),(0,[],.pointer (some ⟨kb,0,none⟩))]) ?_
        refine Cfg.setG (congrArg (fun (xq : Nat) => ([(7,[],.slice (Own.a oc) xq (Own.c oc)),(1,[],.slice (Own.a op) F.length (Own.c op)),(0,[],.pointer (some ⟨kb,0,none⟩))] : Env)) (show _ = ((cpy F F.length).length) from (cpy_len F F.length).symm)) ?_
        refine Cfg.begL rfl ?_
        refine Lp 6 [dZ,dZ,dZ,(0,false,some (.pointer (some ⟨r.r,0,none⟩))),(0,false,some (.agg (bv (List.replicate 512 0)))),(0,false,some (.agg (jc ((0 : Int),zb)).toArray))] (some [0,1,7,70,72]) (fun S => [(∀ w1,S w1 → w1.cell? ⟨kb,0,none⟩ = some (.pointer (some ⟨r.r,0,none⟩))),(∀ w1,S w1 → (Instr.build 25 #[]).run Tryz.prog w1 = .ok (.agg (bv (List.replicate 512 0))) w1),(∀ w1,S w1 → (Instr.build 36 #[(0,.int .i64 0),(1,.agg (bv (List.replicate 512 0)))]).run Tryz.prog w1 = .ok (.agg (jc ((0 : Int),zb)).toArray) w1)]) ⟨(fun w1 h => h.ocell 0 rfl rfl),(fun _ _ => kr),(fun w1 _ => build_rw ((0 : Int)) zb_len w1),trivial⟩ ?_
        refine Le (Eff.buildAgg (vs := (jc ((0 : Int),zb)).toArray) (n := 513) rfl kr Tryz.underlying29 kr (z := (.agg (jc wz).toArray)) kr (by rw [List.size_toArray]; exact jc_len zb_len) (by decide) (by decide)) ?_
        rintro kk4 ⟨hkk4,nkk4⟩
        refine Le (assoc3 ([(kk4,Obj.cells ((jc ((0 : Int),zb)).toArray) 36 (0,0)),(kb,Obj.cells #[.pointer (some ⟨r.r,0,none⟩),.int .u64 (num : Int),.int .i64 why] 68 (0,0))]) (Own.o 36 (jv (cpy F F.length)) oc) (Own.o 36 (jv F) op) (Eff.callH (vs := [.pointer (some ⟨r.r,0,none⟩),.slice (some ⟨kk4,0,none⟩) 1 1]) (fun _ : Unit => .int .i64 E1.1) (rO (toR D) r) (fun _ => rO (toR E1.2) r) (fun _ => True) (([(kk4,Obj.cells ((jc ((0 : Int),zb)).toArray) 36 (0,0)),(kb,Obj.cells #[.pointer (some ⟨r.r,0,none⟩),.int .u64 (num : Int),.int .i64 why] 68 (0,0))] ++ Own.o 36 (jv (cpy F F.length)) oc) ++ Own.o 36 (jv F) op) [] (r3_eq ([(kk4,Obj.cells ((jc ((0 : Int),zb)).toArray) 36 (0,0)),(kb,Obj.cells #[.pointer (some ⟨r.r,0,none⟩),.int .u64 (num : Int),.int .i64 why] 68 (0,0))]) (Own.o 36 (jv (cpy F F.length)) oc) (Own.o 36 (jv F) op) (rO (toR D) r)) rfl Tryz.func55 rfl rfl kr (fun w1 h hA hd => by have h9 := rLay r D (some ⟨kk4,0,none⟩) 1 [((0 : Int),zb)] [(kk4,Obj.cells (jc ((0 : Int),zb)).toArray 36 (0,0))] w1 hg hA hd (inW_one kk4 ((0 : Int),zb) zb_len 36) hw1 (by rw [List.length_singleton]; decide) om (fun e he => (r3_own h).1 e (List.mem_append_left _ (List.mem_append_left _ (show e ∈ [(kk4,Obj.cells ((jc ((0 : Int),zb)).toArray) 36 (0,0)),(kb,Obj.cells #[.pointer (some ⟨r.r,0,none⟩),.int .u64 (num : Int),.int .i64 why] 68 (0,0))] from by rw [List.mem_singleton.1 he]; exact List.mem_of_getElem? (i := 0) rfl)))) (fun e he => (r3_own h).2 e (List.mem_append_left _ (List.mem_append_left _ (show e ∈ [(kk4,Obj.cells ((jc ((0 : Int),zb)).toArray) 36 (0,0)),(kb,Obj.cells #[.pointer (some ⟨r.r,0,none⟩),.int .u64 (num : Int),.int .i64 why] 68 (0,0))] from by rw [List.mem_singleton.1 he]; exact List.mem_of_getElem? (i := 0) rfl)))); rw [← hE1] at h9; exact h9.mono fun e w2 hx => ⟨(),trivial,hx⟩))) ?_
        rintro ⟨⟩ -
        refine Lp 1 [] (some [0,1,7,10]) n0 trivial ?_
        refine CfgL.done rfl ?_
        refine Rg [0,1,7,10,76] [] n0 trivial ?_
        refine Cfg.cond rfl (b := (E1.1 == (0 : Int))) kr (fun c7r => ?_) (fun c7r => ?_)
        ·have c7 := (beq_iff_eq.1 c7r)
         refine Cfg.begL rfl ?_
         refine Lp 5 [dZ,dZ,dZ,(0,false,some (.pointer (some ⟨r.r,0,none⟩)))] (some [0,1,10,80,81]) (fun S => [(∀ w1,S w1 → w1.cell? ⟨kb,0,none⟩ = some (.pointer (some ⟨r.r,0,none⟩)))]) ⟨(fun w1 h => h.ocell 1 rfl rfl),trivial⟩ ?_
         refine Le (assoc3 ([(kk4,Obj.cells ((jc ((0 : Int),zb)).toArray) 36 (0,0)),(kb,Obj.cells #[.pointer (some ⟨r.r,0,none⟩),.int .u64 (num : Int),.int .i64 why] 68 (0,0))]) (Own.o 36 (jv (cpy F F.length)) oc) (Own.o 36 (jv F) op) (Eff.callH (vs := [.pointer (some ⟨r.r,0,none⟩),.slice (Own.a oc) ((cpy F F.length).length) (Own.c oc)]) (fun _ : Unit => .int .i64 E2.1) (rO (toR E1.2) r) (fun _ => rO (toR E2.2) r) (fun _ => True) (([(kk4,Obj.cells ((jc ((0 : Int),zb)).toArray) 36 (0,0)),(kb,Obj.cells #[.pointer (some ⟨r.r,0,none⟩),.int .u64 (num : Int),.int .i64 why] 68 (0,0))] ++ Own.o 36 (jv (cpy F F.length)) oc) ++ Own.o 36 (jv F) op) [] (r3_eq ([(kk4,Obj.cells ((jc ((0 : Int),zb)).toArray) 36 (0,0)),(kb,Obj.cells #[.pointer (some ⟨r.r,0,none⟩),.int .u64 (num : Int),.int .i64 why] 68 (0,0))]) (Own.o 36 (jv (cpy F F.length)) oc) (Own.o 36 (jv F) op) (rO (toR E1.2) r)) rfl Tryz.func55 rfl rfl kr (fun w1 h hA hd => by have h9 := rLay r E1.2 (Own.a oc) (Own.c oc) (cpy F F.length) (Own.o 36 (jv (cpy F F.length)) oc) w1 hg1 hA hd (inW_own hoc2) (cpy_w hFw _) (by rw [cpy_len]; omega) om (fun e he => (r3_own h).1 e (List.mem_append_left _ (List.mem_append_right _ he))) (fun e he => (r3_own h).2 e (List.mem_append_left _ (List.mem_append_right _ he))); rw [← hE2] at h9; exact h9.mono fun e w2 hx => ⟨(),trivial,hx⟩))) ?_
         rintro ⟨⟩ -
         refine Lp 1 [] (some [0,1,10]) n0 trivial ?_
         refine CfgL.done rfl ?_
         refine Rg [0,1,10,84] [] n0 trivial ?_
         refine Cfg.cond rfl (b := (E2.1 == (0 : Int))) kr (fun c8r => ?_) (fun c8r => ?_)
         ·have c8 := (beq_iff_eq.1 c8r)
          refine Cfg.begA rfl kr ([(kk4,.cells ((jc ((0 : Int),zb)).toArray) 36 (0,0)),(kb,.cells #[.pointer (some ⟨r.r,0,none⟩),.int .u64 (num : Int),.int .i64 why] 68 (0,0))] ++ (Own.o 36 (jv (cpy F F.length)) oc ++ (Own.o 36 (jv F) op ++ []))) ?_
          refine Ap [0,1,2,3,4,5,6,7,8,9] [dZ,dZ,dZ,(0,false,some (.pointer (some ⟨r.r,0,none⟩))),dZ,dZ,dZ,(0,false,some (.int .u64 (num : Int)))] (some [0,1,10,88,93,94]) #[true,true,true,true,true,true,true,true,true,true,false,false,false,false,false] (.cons_cons _ (.cons_cons _ (show List.Sublist (Own.o 36 (jv (cpy F F.length)) oc ++ (Own.o 36 (jv F) op ++ [])) (Own.o 36 (jv (cpy F F.length)) oc ++ (Own.o 36 (jv F) op ++ (rO (toR E2.2) r ++ []))) from (List.Sublist.append (List.Sublist.refl (Own.o 36 (jv (cpy F F.length)) oc)) (List.Sublist.append (List.Sublist.refl (Own.o 36 (jv F) op)) (List.nil_sublist _)))))) 5 (fun S => [(∀ w1,S w1 → w1.cell? ⟨kb,0,none⟩ = some (.pointer (some ⟨r.r,0,none⟩))),(∀ w1,S w1 → w1.cell? ⟨kb,1,none⟩ = some (.int .u64 (num : Int)))]) ⟨(fun w1 h => h.ocell 1 rfl rfl),(fun w1 h => h.ocell 1 rfl rfl),trivial⟩ ?_
          refine Ae 10 rfl 4  (Eff.callA (vs := [.int .u64 (((num : Int) + 1) % 18446744073709551616),.slice (Own.a op) F.length (Own.c op)]) (.agg (bv (headF n2 F))) rfl Tryz.func8 rfl rfl kr (fun w1 h => by have h9 := refHead4 n2 (Own.a op) (Own.c op) F (Own.o 36 (jv F) op) w1 hn3 (inW_own hop) hFw (by unfold maxLen; omega) (own_le hop) (fun e he => h.own e (List.mem_append_right _ (List.mem_append_right (Own.o 36 (jv (cpy F F.length)) oc) (List.mem_append_left _ he)))); rw [← hn4] at h9; exact h9)) (by rintro ⟨⟩ -; exact (.cons_cons _ (.cons_cons _ (show List.Sublist (Own.o 36 (jv (cpy F F.length)) oc ++ (Own.o 36 (jv F) op ++ [])) (Own.o 36 (jv (cpy F F.length)) oc ++ (Own.o 36 (jv F) op ++ (rO (toR E2.2) r ++ []))) from (List.Sublist.append (List.Sublist.refl (Own.o 36 (jv (cpy F F.length)) oc)) (List.Sublist.append (List.Sublist.refl (Own.o 36 (jv F) op)) (List.nil_sublist _))))))) ?_
          rintro ⟨⟩ -
          refine CfgA.pure [11] [(0,false,some (.agg (jc ((0 : Int),(headF n2 F))).toArray))] (some [0,1,10,88,96]) (l' := tF 12 3) kr kr (.cons_cons _ (.cons_cons _ (show List.Sublist (Own.o 36 (jv (cpy F F.length)) oc ++ (Own.o 36 (jv F) op ++ [])) (Own.o 36 (jv (cpy F F.length)) oc ++ (Own.o 36 (jv F) op ++ (rO (toR E2.2) r ++ []))) from (List.Sublist.append (List.Sublist.refl (Own.o 36 (jv (cpy F F.length)) oc)) (List.Sublist.append (List.Sublist.refl (Own.o 36 (jv F) op)) (List.nil_sublist _)))))) 3 rfl (Γ' := [(96,[],.agg (jc ((0 : Int),(headF n2 F))).toArray),(88,[],.pointer (some ⟨r.r,0,none⟩)),(10,[],.int .i64 E2.1),(1,[],.slice (Own.a op) F.length (Own.c op)),(0,[],.pointer (some ⟨kb,0,none⟩))]) (nd := (fun S => [(∀ w1,S w1 → (Instr.build 36 #[(0,.int .i64 0),(1,.agg (bv (headF n2 F)))]).run Tryz.prog w1 = .ok (.agg (jc ((0 : Int),(headF n2 F))).toArray) w1)])) (fun _ => kr) ⟨(fun w1 _ => build_rw ((0 : Int)) (headF_len _ _) w1),trivial⟩ ?_
          refine Ae 12 rfl 2  (Eff.buildAgg (vs := (jc ((0 : Int),(headF n2 F))).toArray) (n := 513) rfl kr Tryz.underlying29 kr (z := (.agg (jc wz).toArray)) kr (by rw [List.size_toArray]; exact jc_len (headF_len _ _)) (by decide) (by decide)) (by rintro kk5 ⟨hkk5,nkk5⟩; exact (.cons _ (.cons_cons _ (.cons_cons _ (show List.Sublist (Own.o 36 (jv (cpy F F.length)) oc ++ (Own.o 36 (jv F) op ++ [])) (Own.o 36 (jv (cpy F F.length)) oc ++ (Own.o 36 (jv F) op ++ (rO (toR E2.2) r ++ []))) from (List.Sublist.append (List.Sublist.refl (Own.o 36 (jv (cpy F F.length)) oc)) (List.Sublist.append (List.Sublist.refl (Own.o 36 (jv F) op)) (List.nil_sublist _)))))))) ?_
          rintro kk5 ⟨hkk5,nkk5⟩
          refine Ae 13 rfl 1  (assoc3 ([(kk5,Obj.cells ((jc ((0 : Int),(headF n2 F))).toArray) 36 (0,0)),(kk4,Obj.cells ((jc ((0 : Int),zb)).toArray) 36 (0,0)),(kb,Obj.cells #[.pointer (some ⟨r.r,0,none⟩),.int .u64 (num : Int),.int .i64 why] 68 (0,0))]) (Own.o 36 (jv (cpy F F.length)) oc) (Own.o 36 (jv F) op) (Eff.callH (vs := [.pointer (some ⟨r.r,0,none⟩),.slice (some ⟨kk5,0,none⟩) 1 1]) (fun _ : Unit => .int .i64 E3.1) (rO (toR E2.2) r) (fun _ => rO (toR E3.2) r) (fun _ => True) (([(kk5,Obj.cells ((jc ((0 : Int),(headF n2 F))).toArray) 36 (0,0)),(kk4,Obj.cells ((jc ((0 : Int),zb)).toArray) 36 (0,0)),(kb,Obj.cells #[.pointer (some ⟨r.r,0,none⟩),.int .u64 (num : Int),.int .i64 why] 68 (0,0))] ++ Own.o 36 (jv (cpy F F.length)) oc) ++ Own.o 36 (jv F) op) [] (r3_eq ([(kk5,Obj.cells ((jc ((0 : Int),(headF n2 F))).toArray) 36 (0,0)),(kk4,Obj.cells ((jc ((0 : Int),zb)).toArray) 36 (0,0)),(kb,Obj.cells #[.pointer (some ⟨r.r,0,none⟩),.int .u64 (num : Int),.int .i64 why] 68 (0,0))]) (Own.o 36 (jv (cpy F F.length)) oc) (Own.o 36 (jv F) op) (rO (toR E2.2) r)) rfl Tryz.func55 rfl rfl kr (fun w1 h hA hd => by have h9 := rLay r E2.2 (some ⟨kk5,0,none⟩) 1 [((0 : Int),headF n2 F)] [(kk5,Obj.cells (jc ((0 : Int),headF n2 F)).toArray 36 (0,0))] w1 hg2 hA hd (inW_one kk5 ((0 : Int),headF n2 F) (headF_len _ _) 36) hw3 (by rw [List.length_singleton]; decide) om (fun e he => (r3_own h).1 e (List.mem_append_left _ (List.mem_append_left _ (show e ∈ [(kk5,Obj.cells ((jc ((0 : Int),(headF n2 F))).toArray) 36 (0,0)),(kk4,Obj.cells ((jc ((0 : Int),zb)).toArray) 36 (0,0)),(kb,Obj.cells #[.pointer (some ⟨r.r,0,none⟩),.int .u64 (num : Int),.int .i64 why] 68 (0,0))] from by rw [List.mem_singleton.1 he]; exact List.mem_of_getElem? (i := 0) rfl)))) (fun e he => (r3_own h).2 e (List.mem_append_left _ (List.mem_append_left _ (show e ∈ [(kk5,Obj.cells ((jc ((0 : Int),(headF n2 F))).toArray) 36 (0,0)),(kk4,Obj.cells ((jc ((0 : Int),zb)).toArray) 36 (0,0)),(kb,Obj.cells #[.pointer (some ⟨r.r,0,none⟩),.int .u64 (num : Int),.int .i64 why] 68 (0,0))] from by rw [List.mem_singleton.1 he]; exact List.mem_of_getElem? (i := 0) rfl)))); rw [← hE3] at h9; exact h9.mono fun e w2 hx => ⟨(),trivial,hx⟩))) (by rintro ⟨⟩ -; exact (.cons _ (.cons_cons _ (.cons_cons _ (show List.Sublist (Own.o 36 (jv (cpy F F.length)) oc ++ (Own.o 36 (jv F) op ++ [])) (Own.o 36 (jv (cpy F F.length)) oc ++ (Own.o 36 (jv F) op ++ (rO (toR E3.2) r ++ []))) from (List.Sublist.append (List.Sublist.refl (Own.o 36 (jv (cpy F F.length)) oc)) (List.Sublist.append (List.Sublist.refl (Own.o 36 (jv F) op)) (List.nil_sublist _)))))))) ?_
          rintro ⟨⟩ -
          refine Ap [14] [] (some [0,1,10]) #[true,true,true,true,true,true,true,true,true,true,true,true,true,true,true] (.cons _ (.cons_cons _ (.cons_cons _ (show List.Sublist (Own.o 36 (jv (cpy F F.length)) oc ++ (Own.o 36 (jv F) op ++ [])) (Own.o 36 (jv (cpy F F.length)) oc ++ (Own.o 36 (jv F) op ++ (rO (toR E3.2) r ++ []))) from (List.Sublist.append (List.Sublist.refl (Own.o 36 (jv (cpy F F.length)) oc)) (List.Sublist.append (List.Sublist.refl (Own.o 36 (jv F) op)) (List.nil_sublist _))))))) 0 n0 trivial ?_
          refine CfgA.done kr ?_
          refine Rg [0,1,10,100] [] n0 trivial ?_
          refine Cfg.cond rfl (b := (E3.1 == (0 : Int))) kr (fun c9r => ?_) (fun c9r => ?_)
          ·have c9 := (beq_iff_eq.1 c9r)
           refine Cfg.begL rfl ?_
           refine Lp 5 [dZ,dZ,dZ,(0,false,some (.pointer (some ⟨r.r,0,none⟩)))] (some [0,10,104,105]) (fun S => [(∀ w1,S w1 → w1.cell? ⟨kb,0,none⟩ = some (.pointer (some ⟨r.r,0,none⟩)))]) ⟨(fun w1 h => h.ocell 2 rfl rfl),trivial⟩ ?_
           refine Le (assoc3 ([(kk5,Obj.cells ((jc ((0 : Int),(headF n2 F))).toArray) 36 (0,0)),(kk4,Obj.cells ((jc ((0 : Int),zb)).toArray) 36 (0,0)),(kb,Obj.cells #[.pointer (some ⟨r.r,0,none⟩),.int .u64 (num : Int),.int .i64 why] 68 (0,0))]) (Own.o 36 (jv (cpy F F.length)) oc) (Own.o 36 (jv F) op) (Eff.callH (vs := [.pointer (some ⟨r.r,0,none⟩),.slice (Own.a op) F.length (Own.c op)]) (fun _ : Unit => .int .i64 E4.1) (rO (toR E3.2) r) (fun _ => rO (toR E4.2) r) (fun _ => True) (([(kk5,Obj.cells ((jc ((0 : Int),(headF n2 F))).toArray) 36 (0,0)),(kk4,Obj.cells ((jc ((0 : Int),zb)).toArray) 36 (0,0)),(kb,Obj.cells #[.pointer (some ⟨r.r,0,none⟩),.int .u64 (num : Int),.int .i64 why] 68 (0,0))] ++ Own.o 36 (jv (cpy F F.length)) oc) ++ Own.o 36 (jv F) op) [] (r3_eq ([(kk5,Obj.cells ((jc ((0 : Int),(headF n2 F))).toArray) 36 (0,0)),(kk4,Obj.cells ((jc ((0 : Int),zb)).toArray) 36 (0,0)),(kb,Obj.cells #[.pointer (some ⟨r.r,0,none⟩),.int .u64 (num : Int),.int .i64 why] 68 (0,0))]) (Own.o 36 (jv (cpy F F.length)) oc) (Own.o 36 (jv F) op) (rO (toR E3.2) r)) rfl Tryz.func55 rfl rfl kr (fun w1 h hA hd => by have h9 := rLay r E3.2 (Own.a op) (Own.c op) F (Own.o 36 (jv F) op) w1 hg3 hA hd (inW_own hop) hFw om om (fun e he => (r3_own h).1 e (List.mem_append_right _ he)) (fun e he => (r3_own h).2 e (List.mem_append_right _ he)); rw [← hE4] at h9; exact h9.mono fun e w2 hx => ⟨(),trivial,hx⟩))) ?_
           rintro ⟨⟩ -
           refine Lp 1 [] (some [0,10]) n0 trivial ?_
           refine CfgL.done rfl ?_
           refine Rg [0,10,108] [] n0 trivial ?_
           refine Cfg.cond rfl (b := (E4.1 == (0 : Int))) kr (fun c10r => ?_) (fun c10r => ?_)
           ·have c10 := (beq_iff_eq.1 c10r)
            refine Cfg.begL rfl ?_
            refine Lp 7 [dZ,dZ,dZ,(0,false,some (.int .u64 (num : Int)))] (some [0,10,113,115]) (fun S => [(∀ w1,S w1 → w1.cell? ⟨kb,1,none⟩ = some (.int .u64 (num : Int)))]) ⟨(fun w1 h => h.ocell 2 rfl rfl),trivial⟩ ?_
            refine Le (Eff.store1 (b := kb) (off := 1) (v := .int .u64 (((num : Int) + 1) % 18446744073709551616)) rfl kr kr rfl kr 2 (cs := #[.pointer (some ⟨r.r,0,none⟩),.int .u64 (num : Int),.int .i64 why]) (e := 68) kr (by simp)) ?_
            rintro ⟨⟩ -
            refine CfgL.done rfl ?_
            refine Cg (Γ' := [(10,[],.int .i64 E4.1),(0,[],.pointer (some ⟨kb,0,none⟩))]) ?_
            refine Cfg.setO (congrArg (fun (xq : Array Value) => (([(kk5,.cells ((jc ((0 : Int),(headF n2 F))).toArray) 36 (0,0)),(kk4,.cells ((jc ((0 : Int),zb)).toArray) 36 (0,0)),(kb,.cells xq 68 (0,0))] ++ (Own.o 36 (jv (cpy F F.length)) oc ++ (Own.o 36 (jv F) op ++ (rO (toR E4.2) r ++ [])))) : List (Nat × Obj))) (show _ = #[.pointer (some ⟨r.r,0,none⟩),.int .u64 (n2 : Int),.int .i64 why] from congrArg (fun z => #[.pointer (some ⟨r.r,0,none⟩),Value.int .u64 z,.int .i64 why]) hn4)) ?_
            refine Cfg.begL rfl ?_
            refine Lp 4 [] (some [10,117,119]) n0 trivial ?_
            refine Le (Eff.store1 (b := kb) (off := 2) (v := .int .i64 E4.1) rfl kr kr rfl kr 2 (cs := #[.pointer (some ⟨r.r,0,none⟩),.int .u64 (n2 : Int),.int .i64 why]) (e := 68) kr (by simp)) ?_
            rintro ⟨⟩ -
            refine CfgL.done rfl ?_
            refine Cg (Γ' := [(10,[],.int .i64 E4.1)]) ?_
            refine Cfg.setO (congrArg (fun (xq : Array Value) => (([(kk5,.cells ((jc ((0 : Int),(headF n2 F))).toArray) 36 (0,0)),(kk4,.cells ((jc ((0 : Int),zb)).toArray) 36 (0,0)),(kb,.cells xq 68 (0,0))] ++ (Own.o 36 (jv (cpy F F.length)) oc ++ (Own.o 36 (jv F) op ++ (rO (toR E4.2) r ++ [])))) : List (Nat × Obj))) (show _ = #[.pointer (some ⟨r.r,0,none⟩),.int .u64 (n2 : Int),.int .i64 E4.1] from rfl)) ?_
            refine Rg [4] [] n0 trivial ?_
            refine Cfg.ret rfl (rs := [.tmp 4]) rfl [.int .i64 E4.1] ⟨kr,trivial⟩ (fun w1 hp => ?_)
            have hTT : transF D n2 F = (0,E4.2) := by rw [hT4,if_neg (fun e => e c7),if_neg (fun e => e c8),if_neg (fun e => e c9),if_neg (fun e => e c10)]
            have hx : commitF ⟨why,num,D⟩ l = (0,⟨0,n2,E4.2⟩) := (by have h8 := com_ok (num := num) (D := D) (l := l) c1 hno (by rw [← hF]; omega) (by rw [← hF]; omega) (by rw [← hn2,← hF,hTT]); rw [← hn2,← hF,hTT] at h8; exact h8)
            rw [hx]
            have h9 : HP w (((kb,Obj.cells #[.pointer (some ⟨r.r,0,none⟩),.int .u64 (num : Int),.int .i64 why] 68 (0,0)) :: rO (toR D) r).map (·.1)) Rl ([(kb,Obj.cells #[.pointer (some ⟨r.r,0,none⟩),.int .u64 (n2 : Int),.int .i64 E4.1] 68 (0,0))] ++ (rO (toR E4.2) r ++ [])) w1 := hp.sub (.cons _ (.cons _ (.cons_cons _ (List.Sublist.trans (List.Sublist.trans (List.Sublist.refl _) (List.sublist_append_right (Own.o 36 (jv F) op) _)) (List.sublist_append_right (Own.o 36 (jv (cpy F F.length)) oc) _)))))
            rw [List.append_nil] at h9
            rw [c10] at h9
            exact ⟨by rw [c10]; rfl,_,h9⟩
           ·have c10 := (beq_eq_false_iff_ne.1 c10r)
            refine Cfg.begL rfl ?_
            refine Lp 4 [] (some [10,117,119]) n0 trivial ?_
            refine Le (Eff.store1 (b := kb) (off := 2) (v := .int .i64 E4.1) rfl kr kr rfl kr 2 (cs := #[.pointer (some ⟨r.r,0,none⟩),.int .u64 (num : Int),.int .i64 why]) (e := 68) kr (by simp)) ?_
            rintro ⟨⟩ -
            refine CfgL.done rfl ?_
            refine Cg (Γ' := [(10,[],.int .i64 E4.1)]) ?_
            refine Cfg.setO (congrArg (fun (xq : Array Value) => (([(kk5,.cells ((jc ((0 : Int),(headF n2 F))).toArray) 36 (0,0)),(kk4,.cells ((jc ((0 : Int),zb)).toArray) 36 (0,0)),(kb,.cells xq 68 (0,0))] ++ (Own.o 36 (jv (cpy F F.length)) oc ++ (Own.o 36 (jv F) op ++ (rO (toR E4.2) r ++ [])))) : List (Nat × Obj))) (show _ = #[.pointer (some ⟨r.r,0,none⟩),.int .u64 (num : Int),.int .i64 E4.1] from rfl)) ?_
            refine Rg [4] [] n0 trivial ?_
            refine Cfg.ret rfl (rs := [.tmp 4]) rfl [.int .i64 E4.1] ⟨kr,trivial⟩ (fun w1 hp => ?_)
            have hTT : transF D n2 F = E4 := by rw [hT4,if_neg (fun e => e c7),if_neg (fun e => e c8),if_neg (fun e => e c9),if_pos c10]
            have hx : commitF ⟨why,num,D⟩ l = (E4.1,⟨E4.1,num,E4.2⟩) := (by have h8 := com_err (num := num) (D := D) (l := l) c1 hno (by rw [← hF]; omega) (by rw [← hF]; omega) (by rw [← hn2,← hF,hTT]; exact c10); rw [← hn2,← hF,hTT] at h8; exact h8)
            rw [hx]
            have h9 : HP w (((kb,Obj.cells #[.pointer (some ⟨r.r,0,none⟩),.int .u64 (num : Int),.int .i64 why] 68 (0,0)) :: rO (toR D) r).map (·.1)) Rl ([(kb,Obj.cells #[.pointer (some ⟨r.r,0,none⟩),.int .u64 (num : Int),.int .i64 E4.1] 68 (0,0))] ++ (rO (toR E4.2) r ++ [])) w1 := hp.sub (.cons _ (.cons _ (.cons_cons _ (List.Sublist.trans (List.Sublist.trans (List.Sublist.refl _) (List.sublist_append_right (Own.o 36 (jv F) op) _)) (List.sublist_append_right (Own.o 36 (jv (cpy F F.length)) oc) _)))))
            rw [List.append_nil] at h9
            exact ⟨rfl,_,h9⟩
          ·have c9 := (beq_eq_false_iff_ne.1 c9r)
           refine Rg [0,10,108] [] n0 trivial ?_
           refine Cfg.condF rfl (b := (E3.1 == (0 : Int))) kr c9r ?_
           refine Cfg.begL rfl ?_
           refine Lp 4 [] (some [10,117,119]) n0 trivial ?_
           refine Le (Eff.store1 (b := kb) (off := 2) (v := .int .i64 E3.1) rfl kr kr rfl kr 2 (cs := #[.pointer (some ⟨r.r,0,none⟩),.int .u64 (num : Int),.int .i64 why]) (e := 68) kr (by simp)) ?_
           rintro ⟨⟩ -
           refine CfgL.done rfl ?_
           refine Cg (Γ' := [(10,[],.int .i64 E3.1)]) ?_
           refine Cfg.setO (congrArg (fun (xq : Array Value) => (([(kk5,.cells ((jc ((0 : Int),(headF n2 F))).toArray) 36 (0,0)),(kk4,.cells ((jc ((0 : Int),zb)).toArray) 36 (0,0)),(kb,.cells xq 68 (0,0))] ++ (Own.o 36 (jv (cpy F F.length)) oc ++ (Own.o 36 (jv F) op ++ (rO (toR E3.2) r ++ [])))) : List (Nat × Obj))) (show _ = #[.pointer (some ⟨r.r,0,none⟩),.int .u64 (num : Int),.int .i64 E3.1] from rfl)) ?_
           refine Rg [4] [] n0 trivial ?_
           refine Cfg.ret rfl (rs := [.tmp 4]) rfl [.int .i64 E3.1] ⟨kr,trivial⟩ (fun w1 hp => ?_)
           have hTT : transF D n2 F = E3 := by rw [hT4,if_neg (fun e => e c7),if_neg (fun e => e c8),if_pos c9]
           have hx : commitF ⟨why,num,D⟩ l = (E3.1,⟨E3.1,num,E3.2⟩) := (by have h8 := com_err (num := num) (D := D) (l := l) c1 hno (by rw [← hF]; omega) (by rw [← hF]; omega) (by rw [← hn2,← hF,hTT]; exact c9); rw [← hn2,← hF,hTT] at h8; exact h8)
           rw [hx]
           have h9 : HP w (((kb,Obj.cells #[.pointer (some ⟨r.r,0,none⟩),.int .u64 (num : Int),.int .i64 why] 68 (0,0)) :: rO (toR D) r).map (·.1)) Rl ([(kb,Obj.cells #[.pointer (some ⟨r.r,0,none⟩),.int .u64 (num : Int),.int .i64 E3.1] 68 (0,0))] ++ (rO (toR E3.2) r ++ [])) w1 := hp.sub (.cons _ (.cons _ (.cons_cons _ (List.Sublist.trans (List.Sublist.trans (List.Sublist.refl _) (List.sublist_append_right (Own.o 36 (jv F) op) _)) (List.sublist_append_right (Own.o 36 (jv (cpy F F.length)) oc) _)))))
           rw [List.append_nil] at h9
           exact ⟨rfl,_,h9⟩
         ·have c8 := (beq_eq_false_iff_ne.1 c8r)
          refine Rg [0,1,10,100] [] n0 trivial ?_
          refine Cfg.condF rfl (b := (E2.1 == (0 : Int))) kr c8r ?_
          refine Rg [0,10,108] [] n0 trivial ?_
          refine Cfg.condF rfl (b := (E2.1 == (0 : Int))) kr c8r ?_
          refine Cfg.begL rfl ?_
          refine Lp 4 [] (some [10,117,119]) n0 trivial ?_
          refine Le (Eff.store1 (b := kb) (off := 2) (v := .int .i64 E2.1) rfl kr kr rfl kr 1 (cs := #[.pointer (some ⟨r.r,0,none⟩),.int .u64 (num : Int),.int .i64 why]) (e := 68) kr (by simp)) ?_
          rintro ⟨⟩ -
          refine CfgL.done rfl ?_
          refine Cg (Γ' := [(10,[],.int .i64 E2.1)]) ?_
          refine Cfg.setO (congrArg (fun (xq : Array Value) => (([(kk4,.cells ((jc ((0 : Int),zb)).toArray) 36 (0,0)),(kb,.cells xq 68 (0,0))] ++ (Own.o 36 (jv (cpy F F.length)) oc ++ (Own.o 36 (jv F) op ++ (rO (toR E2.2) r ++ [])))) : List (Nat × Obj))) (show _ = #[.pointer (some ⟨r.r,0,none⟩),.int .u64 (num : Int),.int .i64 E2.1] from rfl)) ?_
          refine Rg [4] [] n0 trivial ?_
          refine Cfg.ret rfl (rs := [.tmp 4]) rfl [.int .i64 E2.1] ⟨kr,trivial⟩ (fun w1 hp => ?_)
          have hTT : transF D n2 F = E2 := by rw [hT4,if_neg (fun e => e c7),if_pos c8]
          have hx : commitF ⟨why,num,D⟩ l = (E2.1,⟨E2.1,num,E2.2⟩) := (by have h8 := com_err (num := num) (D := D) (l := l) c1 hno (by rw [← hF]; omega) (by rw [← hF]; omega) (by rw [← hn2,← hF,hTT]; exact c8); rw [← hn2,← hF,hTT] at h8; exact h8)
          rw [hx]
          have h9 : HP w (((kb,Obj.cells #[.pointer (some ⟨r.r,0,none⟩),.int .u64 (num : Int),.int .i64 why] 68 (0,0)) :: rO (toR D) r).map (·.1)) Rl ([(kb,Obj.cells #[.pointer (some ⟨r.r,0,none⟩),.int .u64 (num : Int),.int .i64 E2.1] 68 (0,0))] ++ (rO (toR E2.2) r ++ [])) w1 := hp.sub (.cons _ (.cons_cons _ (List.Sublist.trans (List.Sublist.trans (List.Sublist.refl _) (List.sublist_append_right (Own.o 36 (jv F) op) _)) (List.sublist_append_right (Own.o 36 (jv (cpy F F.length)) oc) _))))
          rw [List.append_nil] at h9
          exact ⟨rfl,_,h9⟩
        ·have c7 := (beq_eq_false_iff_ne.1 c7r)
         refine Rg [0,1,10,84] [] n0 trivial ?_
         refine Cfg.condF rfl (b := (E1.1 == (0 : Int))) kr c7r ?_
         refine Rg [0,1,10,100] [] n0 trivial ?_
         refine Cfg.condF rfl (b := (E1.1 == (0 : Int))) kr c7r ?_
         refine Rg [0,10,108] [] n0 trivial ?_
         refine Cfg.condF rfl (b := (E1.1 == (0 : Int))) kr c7r ?_
         refine Cfg.begL rfl ?_
         refine Lp 4 [] (some [10,117,119]) n0 trivial ?_
         refine Le (Eff.store1 (b := kb) (off := 2) (v := .int .i64 E1.1) rfl kr kr rfl kr 1 (cs := #[.pointer (some ⟨r.r,0,none⟩),.int .u64 (num : Int),.int .i64 why]) (e := 68) kr (by simp)) ?_
         rintro ⟨⟩ -
         refine CfgL.done rfl ?_
         refine Cg (Γ' := [(10,[],.int .i64 E1.1)]) ?_
         refine Cfg.setO (congrArg (fun (xq : Array Value) => (([(kk4,.cells ((jc ((0 : Int),zb)).toArray) 36 (0,0)),(kb,.cells xq 68 (0,0))] ++ (Own.o 36 (jv (cpy F F.length)) oc ++ (Own.o 36 (jv F) op ++ (rO (toR E1.2) r ++ [])))) : List (Nat × Obj))) (show _ = #[.pointer (some ⟨r.r,0,none⟩),.int .u64 (num : Int),.int .i64 E1.1] from rfl)) ?_
         refine Rg [4] [] n0 trivial ?_
         refine Cfg.ret rfl (rs := [.tmp 4]) rfl [.int .i64 E1.1] ⟨kr,trivial⟩ (fun w1 hp => ?_)
         have hTT : transF D n2 F = E1 := by rw [hT4,if_pos c7]
         have hx : commitF ⟨why,num,D⟩ l = (E1.1,⟨E1.1,num,E1.2⟩) := (by have h8 := com_err (num := num) (D := D) (l := l) c1 hno (by rw [← hF]; omega) (by rw [← hF]; omega) (by rw [← hn2,← hF,hTT]; exact c7); rw [← hn2,← hF,hTT] at h8; exact h8)
         rw [hx]
         have h9 : HP w (((kb,Obj.cells #[.pointer (some ⟨r.r,0,none⟩),.int .u64 (num : Int),.int .i64 why] 68 (0,0)) :: rO (toR D) r).map (·.1)) Rl ([(kb,Obj.cells #[.pointer (some ⟨r.r,0,none⟩),.int .u64 (num : Int),.int .i64 E1.1] 68 (0,0))] ++ (rO (toR E1.2) r ++ [])) w1 := hp.sub (.cons _ (.cons_cons _ (List.Sublist.trans (List.Sublist.trans (List.Sublist.refl _) (List.sublist_append_right (Own.o 36 (jv F) op) _)) (List.sublist_append_right (Own.o 36 (jv (cpy F F.length)) oc) _))))
         rw [List.append_nil] at h9
         exact ⟨rfl,_,h9⟩
end Go.Proofs.YtohjpggjgomgoaaGreatDoor
namespace Go.Proofs.YtohjpggjgomgoaaGreatDoor
open K
set_option linter.unusedVariables false
set_option maxRecDepth 100000 in
set_option maxHeartbeats 8000000 in
theorem rOpen (r : RM) (D : DK) (w : World) (hg : DG D) (hs : 0 ≤ D.steps ∧ D.steps ≤ 4611686018426000000) (hA : Has w (rO (toR D) r)) (hd : ((rO (toR D) r).map (·.1)).Nodup) :
  Calls Tryz.prog 16 #[.pointer (some ⟨r.r,0,none⟩)] w fun e w' => (∃ q : Nat,(openF D).1 = 0 ∧ e = .returned (.tuple #[.pointer (some ⟨q,0,none⟩),.int .i64 0]) ∧ ∃ R1,HP w ((rO (toR D) r).map (·.1)) R1 ((q,Obj.cells #[.pointer (some ⟨r.r,0,none⟩),.int .u64 ((openF D).2.1 : Int),.int .i64 (0 : Int)] 68 (0,0)) :: rO (toR (openF D).2.2) r) w') ∨ ((openF D).1 ≠ 0 ∧ e = .returned (.tuple #[.pointer none,.int .i64 (openF D).1]) ∧ ∃ R1,HP w ((rO (toR D) r).map (·.1)) R1 (rO (toR (openF D).2.2) r) w') := by
 have hnl := hg.n
 obtain ⟨nB,hnB⟩ : ∃ n,n = min 97 D.last.length - 1 := ⟨_,rfl⟩
 refine enter (vs := [.pointer (some ⟨r.r,0,none⟩)]) ((rO (toR D) r).map (·.1)) [] ([] ++ (rO (toR D) r ++ [])) Tryz.func16 rfl kr (by rw [List.append_nil]; exact HP.ofL hA hd (fun e he => by cases he) (fun e he => by cases he)) ?_
 refine Rg [0] [] n0 trivial ?_
 refine Cfg.begL rfl ?_
 refine Lp 1 [] none n0 trivial ?_
 refine Le (Eff.callA (vs := [.pointer (some ⟨r.r,0,none⟩),.int .i64 0]) (.tuple #[.agg (bv (readF D (0 : Int))),.int .i64 (fltF D (0 : Int))]) rfl Tryz.func24 rfl rfl kr (fun w1 h => (by have h9 := rRead r (toR D) (0 : Int) w1 (toR_ok hg) (mem_has h (List.Sublist.trans (List.sublist_append_left (rO (toR D) r) _) (List.sublist_append_right [] _))); rw [toR_readE,toR_readB] at h9; exact h9))) ?_
 rintro ⟨⟩ -
 refine Lp 3 [] (some [0,20,21]) n0 trivial ?_
 refine Le (Eff.alloc (z := (.agg (bv (List.replicate 512 0)))) rfl kr) ?_
 rintro hb ⟨hhb,nhb⟩
 refine Le (Eff.storeN (b := hb) (off := 0) (vs := (bv (readF D (0 : Int)))) (n := 512) rfl kr kr kr ((bv_size _).trans (readF_len hg _)) (all_bv _) 0 (cs := (bv (List.replicate 512 0))) (e := 25) kr (by rw [zsz512]; omega)) ?_
 rintro ⟨⟩ -
 refine CfgL.setO (congrArg (fun (xq : Array Value) => (([(hb,.cells xq 25 (0,0))] ++ (rO (toR D) r ++ [])) : List (Nat × Obj))) (show _ = (bv (readF D (0 : Int))) from spl_all (((bv_size _).trans (readF_len hg _)).trans zsz512.symm))) ?_
 refine Lp 1 [] (some [0,4,5]) n0 trivial ?_
 refine CfgL.done rfl ?_
 refine Rg [0,4,5,23] [] n0 trivial ?_
 refine Cfg.cond rfl (b := ((fltF D (0 : Int)) != (0 : Int))) kr (fun c1r => ?_) (fun c1r => ?_)
 ·have c1 := (bne_iff_ne.1 c1r)
  refine Rg [2,3] [] n0 trivial ?_
  refine Cfg.ret rfl (rs := [.tmp 2,.tmp 3]) rfl [.pointer none,.int .i64 (fltF D (0 : Int))] ⟨kr,by kernel_rfl,trivial⟩ (fun w1 hp => ?_)
  have hx : openF D = (fltF D 0,0,D) := op_flt c1
  rw [hx]
  have h9 : HP w ((rO (toR D) r).map (·.1)) [] (([] : List (Nat × Obj)) ++ (rO (toR D) r ++ [])) w1 := hp.sub (.cons _ (List.Sublist.append (l₁ := rO (toR D) r) (l₂ := rO (toR D) r) (r₁ := []) (List.Sublist.refl _) (List.nil_sublist _)))
  rw [List.append_nil] at h9
  exact .inr ⟨c1,rfl,_,h9⟩
 ·have c1 := (bne_eq_false_iff_eq.1 c1r)
  have hf0 : fltF D 0 = 0 := c1
  have hlp := flt_pos hf0
  refine Rg [0,4,6] [] n0 trivial ?_
  refine Cfg.reg rfl [0,4,6,7] [] (Γ' := [(7,[],.int .i64 1),(6,[],.slice none 0 0),(4,[],.pointer (some ⟨hb,0,none⟩)),(0,[],.pointer (some ⟨r.r,0,none⟩))]) (nd := (fun _ => [])) (fun _ => kr) trivial ?_
  refine Cg (Γ' := [(7,[],.int .i64 1),(6,[],.slice none 0 0),(4,[],.pointer (some ⟨hb,0,none⟩)),(0,[],.pointer (some ⟨r.r,0,none⟩))]) ?_
  refine Cfg.setG (congrArg (fun (xq : Int) => ([(7,[],.int .i64 xq),(6,[],.slice none 0 0),(4,[],.pointer (some ⟨hb,0,none⟩)),(0,[],.pointer (some ⟨r.r,0,none⟩))] : Env)) (show _ = (((0 + 1) : Nat) : Int) from rfl)) ?_
  refine Cfg.loop rfl (ι := Nat × K.Own) (fun (xz : Nat × K.Own) => match xz with | (i,ob) => [(7,[],.int .i64 (((i + 1) : Nat) : Int)),(6,[],.slice (Own.a ob) i (Own.c ob)),(4,[],.pointer (some ⟨hb,0,none⟩)),(0,[],.pointer (some ⟨r.r,0,none⟩))]) (fun (xz : Nat × K.Own) => match xz with | (i,ob) => ([(hb,.cells (bv (readF D (0 : Int))) 25 (0,0))] ++ (rO (toR D) r ++ (Own.o 25 (rows (jblk D i)) ob ++ [])))) (fun (xz : Nat × K.Own) => match xz with | (i,ob) => (i ≤ nB) ∧ (OwnOk ob 512 i (rows (jblk D i)))) (fun (xz : Nat × K.Own) => match xz with | (i,ob) => nB - i) (0,none) ?_ (Conv.mk kr) (List.Sublist.refl _) ?_
  ·exact ⟨Nat.zero_le _,OwnOk.none _⟩
  ·rintro ⟨i,ob⟩ ⟨hi,hob⟩
   refine Rg [0,4,6,7,35] [dZ,dZ,dZ,dZ,dZ,dZ,dZ,(0,false,some (.slice (some ⟨r.lb,0,none⟩) D.last.length D.last.length))] (fun S => [((.bool (decide ((((i + 1) : Nat) : Int) < (97 : Int))) : Value) = .bool true → (∀ w1,S w1 → w1.cell? ⟨r.r,1,none⟩ = some (.slice (some ⟨r.lb,0,none⟩) D.last.length D.last.length)))]) ⟨(fun g0 => have q0 : ((((i + 1) : Nat) : Int) < (97 : Int)) := (of_decide_eq_true (boolV g0)); (fun w1 h => by rw [cell_cells (h.own (r.r,.cells (rC (toR D) r) 72 (0,0)) (List.mem_append_right [(hb,Obj.cells (bv (readF D (0 : Int))) 25 (0,0))] (List.mem_append_left _ (List.mem_cons_self ..)))),rC]; rfl)),trivial⟩ ?_
   refine Cfg.cond rfl (b := ((decide ((((i + 1) : Nat) : Int) < (97 : Int))) && (decide ((((i + 1) : Nat) : Int) < (D.last.length : Int))))) kr (fun c2r => ?_) (fun c2r => ?_)
   ·have c2 : (((((i + 1) : Nat) : Int) < (97 : Int)) ∧ ((((i + 1) : Nat) : Int) < (D.last.length : Int))) := ⟨(of_decide_eq_true (andT1 c2r)),(of_decide_eq_true (andT2 c2r))⟩
    refine Cfg.begL rfl ?_
    refine Lp 2 [] (some [0,4,6,7,39,40]) n0 trivial ?_
    refine Le (Eff.callA (vs := [.pointer (some ⟨r.r,0,none⟩),.int .i64 (((i + 1) : Nat) : Int)]) (.tuple #[.agg (bv (readF D (((i + 1) : Nat) : Int))),.int .i64 (fltF D (((i + 1) : Nat) : Int))]) rfl Tryz.func24 rfl rfl kr (fun w1 h => (by have h9 := rRead r (toR D) (((i + 1) : Nat) : Int) w1 (toR_ok hg) (mem_has h (List.Sublist.trans (List.sublist_append_left (rO (toR D) r) _) (List.sublist_append_right [(hb,Obj.cells (bv (readF D (0 : Int))) 25 (0,0))] _))); rw [toR_readE,toR_readB] at h9; exact h9))) ?_
    rintro ⟨⟩ -
    refine Lp 3 [] (some [0,4,6,7,42,43]) n0 trivial ?_
    refine Le (Eff.alloc (z := (.agg (bv (List.replicate 512 0)))) rfl kr) ?_
    rintro xb ⟨hxb,nxb⟩
    refine Le (Eff.storeN (b := xb) (off := 0) (vs := (bv (readF D (((i + 1) : Nat) : Int)))) (n := 512) rfl kr kr kr ((bv_size _).trans (readF_len hg _)) (all_bv _) 0 (cs := (bv (List.replicate 512 0))) (e := 25) kr (by rw [zsz512]; omega)) ?_
    rintro ⟨⟩ -
    refine CfgL.setO (congrArg (fun (xq : Array Value) => (([(xb,.cells xq 25 (0,0)),(hb,.cells (bv (readF D (0 : Int))) 25 (0,0))] ++ (rO (toR D) r ++ (Own.o 25 (rows (jblk D i)) ob ++ []))) : List (Nat × Obj))) (show _ = (bv (readF D (((i + 1) : Nat) : Int))) from spl_all (((bv_size _).trans (readF_len hg _)).trans zsz512.symm))) ?_
    refine Lp 1 [] (some [0,4,6,7,8]) n0 trivial ?_
    refine CfgL.done rfl ?_
    refine Cfg.begL rfl ?_
    refine Lp 2 [dZ,(0,false,some (.agg (bv (readF D (((i + 1) : Nat) : Int)))))] (some [0,4,6,7,44,45]) (fun S => [(∀ w1,S w1 → (loadVar 25 ⟨xb,0,none⟩).run Tryz.prog w1 = .ok (.agg (bv (readF D (((i + 1) : Nat) : Int)))) w1)]) ⟨(fun w1 h => h.oload 0 rfl Tryz.underlying25 rfl (n := 512) kr ((bv_size _).trans (readF_len hg _))),trivial⟩ ?_
    refine Le (Eff.buildAgg (vs := (bv (readF D (((i + 1) : Nat) : Int)))) (n := 512) rfl kr Tryz.underlying34 kr (z := (.agg (bv (List.replicate 512 0)))) kr ((bv_size _).trans (readF_len hg _)) (by decide) (by decide)) ?_
    rintro sb3 ⟨hsb3,nsb3⟩
    refine Le (Eff.appendF rfl 512 512 Tryz.underlying34 kr (z := (.agg (bv (List.replicate 512 0)))) kr kr ob (xs := (rows (jblk D i))) hob kr (b2 := sb3) (off2 := 0) (m := 1) (c2 := 1) kr ((bv (readF D ((i + 1 : Nat) : Int))).toList) (by rw [Array.length_toList,bv_size,readF_len hg _]) (all_bv _) ([(sb3,.cells (bv (readF D (((i + 1) : Nat) : Int))) 25 (0,0)),(xb,.cells (bv (readF D (((i + 1) : Nat) : Int))) 25 (0,0)),(hb,.cells (bv (readF D (0 : Int))) 25 (0,0))] ++ rO (toR D) r) [] (by rfl) (fun w1 h j v hj => by rw [Nat.zero_add]; exact h.ocell 0 rfl (by rw [← Array.getElem?_toList]; exact hj)) om om) ?_
    rintro o3 ko3
    refine Lp 1 [] (some [0,4,6,7]) n0 trivial ?_
    refine CfgL.done rfl ?_
    refine Rg [0,4,6,7] [] (fun _ => [((-9223372036854775808 : Int) ≤ ((((i + 1) : Nat) : Int) + 1) ∧ ((((i + 1) : Nat) : Int) + 1) ≤ 9223372036854775807)]) ⟨om,trivial⟩ ?_
    have hrv := jblk_rows D i
    refine Cfg.setO (congrArg (fun (xq : List Value) => (([(sb3,.cells (bv (readF D (((i + 1) : Nat) : Int))) 25 (0,0)),(xb,.cells (bv (readF D (((i + 1) : Nat) : Int))) 25 (0,0)),(hb,.cells (bv (readF D (0 : Int))) 25 (0,0))] ++ (rO (toR D) r ++ (Own.o 25 xq o3 ++ []))) : List (Nat × Obj))) (show _ = (rows (jblk D (i + 1))) from hrv)) ?_
    refine Cfg.again rfl (i + 1,o3) ⟨by omega,hrv ▸ ko3⟩ (by show nB - (i + 1) < nB - i; omega) (Conv.mk kr) (.cons _ (.cons _ (.cons_cons _ (List.Sublist.refl _))))
   ·have c2 : ((¬ ((((i + 1) : Nat) : Int) < (97 : Int))) ∨ (¬ ((((i + 1) : Nat) : Int) < (D.last.length : Int)))) := ((andF c2r).elim (fun h => Or.inl (of_decide_eq_false h)) (fun h => Or.inr (of_decide_eq_false h)))
    obtain rfl : i = nB := by omega
    have hjl : (jrows D).length = i := by unfold jrows; rw [jblk_len]; exact hnB.symm
    have hji : jblk D i = jrows D := by unfold jrows; rw [← hnB]
    rw [hji] at hob
    have hob2 : OwnOk ob 512 (jrows D).length (rows (jrows D)) := by rw [hjl]; exact hob
    refine Cfg.setO (congrArg (fun (xq : List Value) => (([(hb,.cells (bv (readF D (0 : Int))) 25 (0,0))] ++ (rO (toR D) r ++ (Own.o 25 xq ob ++ []))) : List (Nat × Obj))) (show _ = (rows (jrows D)) from by rw [hji])) ?_
    refine Conv.cfg (Γ' := [(6,[],.slice (Own.a ob) i (Own.c ob)),(4,[],.pointer (some ⟨hb,0,none⟩)),(0,[],.pointer (some ⟨r.r,0,none⟩))]) (Conv.mk kr) ?_
    refine Cg (Γ' := [(6,[],.slice (Own.a ob) i (Own.c ob)),(4,[],.pointer (some ⟨hb,0,none⟩)),(0,[],.pointer (some ⟨r.r,0,none⟩))]) ?_
    refine Cfg.setG (congrArg (fun (xq : Nat) => ([(6,[],.slice (Own.a ob) xq (Own.c ob)),(4,[],.pointer (some ⟨hb,0,none⟩)),(0,[],.pointer (some ⟨r.r,0,none⟩))] : Env)) (show _ = ((jrows D).length) from hjl.symm)) ?_
    refine Cfg.begL rfl ?_
    refine Lp 2 [dZ,(0,false,some (.agg #[.pointer (some ⟨r.r,0,none⟩),.int .u64 0,.int .i64 0]))] (some [0,4,6,49]) (fun S => [(∀ w1,S w1 → (Instr.build 68 #[(0,.pointer (some ⟨r.r,0,none⟩))]).run Tryz.prog w1 = .ok (.agg #[.pointer (some ⟨r.r,0,none⟩),.int .u64 0,.int .i64 0]) w1)]) ⟨(fun _ _ => kr),trivial⟩ ?_
    refine Le (Eff.box (v := .agg #[.pointer (some ⟨r.r,0,none⟩),.int .u64 0,.int .i64 0]) rfl kr) ?_
    rintro kb ⟨hkb,nkb⟩
    refine Lp 1 [] (some [0,4,6,10]) n0 trivial ?_
    refine CfgL.done rfl ?_
    refine Cfg.begL rfl ?_
    refine Lp 2 [(0,false,some (.agg (bv (readF D (0 : Int)))))] (some [0,10,52,53]) (fun S => [(∀ w1,S w1 → (loadVar 25 ⟨hb,0,none⟩).run Tryz.prog w1 = .ok (.agg (bv (readF D (0 : Int)))) w1)]) ⟨(fun w1 h => h.oload 1 rfl Tryz.underlying25 rfl (n := 512) kr ((bv_size _).trans (readF_len hg _))),trivial⟩ ?_
    refine Le (Eff.callH (vs := [.agg (bv (readF D (0 : Int))),.slice (Own.a ob) ((jrows D).length) (Own.c ob)]) (fun o : K.Own => .tuple #[.int .u64 ((parN (readF D 0) (jrows D)) : Int),.slice (Own.a o) (parL (readF D 0) (jrows D)).length (Own.c o),.bool (parG (readF D 0) (jrows D))]) [] (fun o => Own.o 36 (jv (parL (readF D 0) (jrows D))) o) (fun o => OwnOk o 513 (parL (readF D 0) (jrows D)).length (jv (parL (readF D 0) (jrows D)))) [(kb,.cells #[.pointer (some ⟨r.r,0,none⟩),.int .u64 0,.int .i64 0] 68 (0,0)),(hb,.cells (bv (readF D (0 : Int))) 25 (0,0))] ([] ++ (rO (toR D) r ++ (Own.o 25 (rows (jrows D)) ob ++ []))) rfl rfl Tryz.func10 rfl rfl kr (fun w1 h _ _ => refParse4 (readF D 0) (Own.a ob) (Own.c ob) (jrows D) (Own.o 25 (rows (jrows D)) ob) w1 (readF_len hg _) (inB_own hob2) (jblk_w hg _) (by rw [hjl]; unfold maxLen; omega) (fun e he => h.own e (List.mem_append_right [(kb,Obj.cells #[.pointer (some ⟨r.r,0,none⟩),.int .u64 0,.int .i64 0] 68 (0,0)),(hb,Obj.cells (bv (readF D (0 : Int))) 25 (0,0))] (List.mem_append_right (rO (toR D) r) (List.mem_append_left _ he)))))) ?_
    rintro oa hoa
    have hPw : WW (parL (readF D 0) (jrows D)) := parL_w (jblk_w hg _)
    have hP96 : (parL (readF D 0) (jrows D)).length ≤ 96 := parL_96
    refine Lp 7 [] (some [0,10,11,12,13]) n0 trivial ?_
    refine CfgL.done rfl ?_
    refine Rg [0,10,11,12,59] [] n0 trivial ?_
    refine Cfg.cond rfl (b := (!(parG (readF D 0) (jrows D)))) kr (fun c3r => ?_) (fun c3r => ?_)
    ·have c3 : ((parG (readF D 0) (jrows D)) = false) := (notT c3r)
     refine Rg [2,3] [] n0 trivial ?_
     refine Cfg.ret rfl (rs := [.tmp 2,.tmp 3]) rfl [.pointer (some ⟨kb,0,none⟩),.int .i64 0] ⟨kr,by kernel_rfl,trivial⟩ (fun w1 hp => ?_)
     have hpg : openG D = false := by show parG _ _ = false; simpa using c3
     have hx : openF D = (0,0,D) := op_no hf0 hpg
     rw [hx]
     have h9 : HP w ((rO (toR D) r).map (·.1)) [] ([(kb,Obj.cells #[.pointer (some ⟨r.r,0,none⟩),.int .u64 (0 : Int),.int .i64 (0 : Int)] 68 (0,0))] ++ (rO (toR D) r ++ [])) w1 := hp.sub (.cons_cons _ (.cons _ (List.Sublist.trans (List.Sublist.append (l₁ := rO (toR D) r) (l₂ := rO (toR D) r) (r₁ := []) (List.Sublist.refl _) (List.nil_sublist _)) (List.sublist_append_right (Own.o 36 (jv (parL (readF D 0) (jrows D))) oa) _))))
     rw [List.append_nil] at h9
     exact .inl ⟨kb,rfl,rfl,_,h9⟩
    ·have c3 : ((parG (readF D 0) (jrows D)) = true) := (notF c3r)
     have hpg : openG D = true := by show parG _ _ = true; simpa using c3
     refine Cfg.begL rfl ?_
     refine Lp 4 [] (some [0,10,12,62,64]) n0 trivial ?_
     refine Le (Eff.store1 (b := kb) (off := 1) (v := .int .u64 ((parN (readF D 0) (jrows D)) : Int)) rfl kr kr rfl kr 0 (cs := #[.pointer (some ⟨r.r,0,none⟩),.int .u64 0,.int .i64 0]) (e := 68) kr (by simp)) ?_
     rintro ⟨⟩ -
     refine CfgL.done rfl ?_
     refine Cg (Γ' := [(12,[],.slice (Own.a oa) ((parL (readF D 0) (jrows D)).length) (Own.c oa)),(10,[],.pointer (some ⟨kb,0,none⟩)),(0,[],.pointer (some ⟨r.r,0,none⟩))]) ?_
     refine Rg [0,10,12,14] [] n0 trivial ?_
     refine Rg [0,10,14,65,66,67] [] n0 trivial ?_
     obtain ⟨lk,hlk⟩ : ∃ lk,lk = Own.a oa := ⟨_,rfl⟩
     have hIk : InW (Own.o 36 (jv (parL (readF D 0) (jrows D))) oa) lk (parL (readF D 0) (jrows D)) := hlk ▸ inW_own hoa
     refine Conv.cfg (Γ' := [(67,[],.int .i64 0),(66,[],.int .i64 ((parL (readF D 0) (jrows D)).length : Int)),(65,[],.slice (Own.a oa) ((parL (readF D 0) (jrows D)).length) (Own.c oa)),(14,[],.slice none 0 0),(10,[],.pointer (some ⟨kb,0,none⟩)),(0,[],.pointer (some ⟨r.r,0,none⟩))]) (Conv.mk kr) ?_
     refine Cfg.setG (Γ' := [(67,[],.int .i64 0),(66,[],.int .i64 ((parL (readF D 0) (jrows D)).length : Int)),(65,[],.slice lk ((parL (readF D 0) (jrows D)).length) ((Own.c oa))),(14,[],.slice none 0 0),(10,[],.pointer (some ⟨kb,0,none⟩)),(0,[],.pointer (some ⟨r.r,0,none⟩))]) (congrArg (fun (xq : Option Addr) => ([(67,[],.int .i64 0),(66,[],.int .i64 ((parL (readF D 0) (jrows D)).length : Int)),(65,[],.slice xq (parL (readF D 0) (jrows D)).length (Own.c oa)),(14,[],.slice none 0 0),(10,[],.pointer (some ⟨kb,0,none⟩)),(0,[],.pointer (some ⟨r.r,0,none⟩))] : Env)) hlk.symm) ?_
     refine Cfg.loop rfl (ι := Nat × K.Own) (fun (xz : Nat × K.Own) => match xz with | (i,on) => [(67,[],.int .i64 (i : Int)),(66,[],.int .i64 ((parL (readF D 0) (jrows D)).length : Int)),(65,[],.slice lk ((parL (readF D 0) (jrows D)).length) ((Own.c oa))),(14,[],.slice (Own.a on) ((kN D (parL (readF D 0) (jrows D)) i).length) (Own.c on)),(10,[],.pointer (some ⟨kb,0,none⟩)),(0,[],.pointer (some ⟨r.r,0,none⟩))]) (fun (xz : Nat × K.Own) => match xz with | (i,on) => ([(kb,.cells (#[.pointer (some ⟨r.r,0,none⟩),.int .u64 0,.int .i64 0].setIfInBounds 1 (.int .u64 ((parN (readF D 0) (jrows D)) : Int))) 68 (0,0))] ++ (Own.o 36 (jv (kN D (parL (readF D 0) (jrows D)) i)) on ++ (Own.o 36 (jv (parL (readF D 0) (jrows D))) oa ++ (rO (toR D) r ++ []))))) (fun (xz : Nat × K.Own) => match xz with | (i,on) => (i ≤ (parL (readF D 0) (jrows D)).length) ∧ (OwnOk on 513 (kN D (parL (readF D 0) (jrows D)) i).length (jv (kN D (parL (readF D 0) (jrows D)) i)))) (fun (xz : Nat × K.Own) => match xz with | (i,on) => (parL (readF D 0) (jrows D)).length - i) (0,none) ?_ (Conv.mk kr) (.cons_cons _ (.cons _ (show List.Sublist (Own.o 36 (jv (parL (readF D 0) (jrows D))) oa ++ (rO (toR D) r ++ [])) (Own.o 36 (jv (parL (readF D 0) (jrows D))) oa ++ (rO (toR D) r ++ (Own.o 25 (rows (jrows D)) ob ++ []))) from (List.Sublist.append (List.Sublist.refl (Own.o 36 (jv (parL (readF D 0) (jrows D))) oa)) (List.Sublist.append (List.Sublist.refl (rO (toR D) r)) (List.nil_sublist _)))))) ?_
     ·exact ⟨Nat.zero_le _,OwnOk.none _⟩
     ·rintro ⟨i,on⟩ ⟨hi,hon⟩
      have hkl := kN_le D (parL (readF D 0) (jrows D)) i
      refine Rg [0,10,14,65,66,67,68] [] n0 trivial ?_
      refine Cfg.cond rfl (b := (decide ((i : Int) < ((parL (readF D 0) (jrows D)).length : Int)))) kr (fun c4r => ?_) (fun c4r => ?_)
      ·have c4 := (of_decide_eq_true c4r)
       obtain ⟨sc,of2,cs2,te2,fr2,rfl,hmem2,hcs2⟩ := hIk om
       refine Conv.cfg (Γ' := [(68,[],.bool (decide ((i : Int) < ((parL (readF D 0) (jrows D)).length : Int)))),(67,[],.int .i64 (i : Int)),(66,[],.int .i64 ((parL (readF D 0) (jrows D)).length : Int)),(65,[],.slice (some ⟨sc,of2,none⟩) (parL (readF D 0) (jrows D)).length (Own.c oa)),(14,[],.slice (Own.a on) ((kN D (parL (readF D 0) (jrows D)) i).length) (Own.c on)),(10,[],.pointer (some ⟨kb,0,none⟩)),(0,[],.pointer (some ⟨r.r,0,none⟩))]) (Conv.mk kr) ?_
       refine Cfg.begL rfl ?_
       refine Lp 2 [dZ,(0,false,some (.agg (jc ((parL (readF D 0) (jrows D)).getD i wz)).toArray))] (some [0,10,14,65,66,67,70]) (fun S => [(0 ≤ (i : Int) ∧ (i : Int) < ((parL (readF D 0) (jrows D)).length : Int)),(∀ w1,S w1 → (loadVar 36 ⟨sc,(addO of2 (i * 513)),none⟩).run Tryz.prog w1 = .ok (.agg (jc ((parL (readF D 0) (jrows D)).getD i wz)).toArray) w1)]) ⟨om,(fun w1 h => load_list Tryz.underlying36 rfl kr (jc_len (hPw.at i)) (fun j v hj => by rw [addO_eq]; exact (cell_cells (h.own _ (List.mem_append_right _ (List.mem_append_right _ (List.mem_append_left _ hmem2))))).trans (wr_cell hPw hcs2 om hj))),trivial⟩ ?_
       refine Le (Eff.alloc (z := (.agg (jc wz).toArray)) rfl kr) ?_
       rintro wb ⟨hwb,nwb⟩
       refine Le (Eff.storeN (b := wb) (off := 0) (vs := (jc ((parL (readF D 0) (jrows D)).getD i wz)).toArray) (n := 513) rfl kr kr kr (by rw [List.size_toArray,jc_len (hPw.at i)]) (jc_all _) 0 (cs := (jc wz).toArray) (e := 36) kr (by show 0 + 513 ≤ (jc wz).toArray.size; rw [List.size_toArray,jc_len zb_len]; decide)) ?_
       rintro ⟨⟩ -
       refine CfgL.setO (congrArg (fun (xq : Array Value) => (([(wb,.cells xq 36 (0,0)),(kb,.cells (#[.pointer (some ⟨r.r,0,none⟩),.int .u64 0,.int .i64 0].setIfInBounds 1 (.int .u64 ((parN (readF D 0) (jrows D)) : Int))) 68 (0,0))] ++ (Own.o 36 (jv (kN D (parL (readF D 0) (jrows D)) i)) on ++ (Own.o 36 (jv (parL (readF D 0) (jrows D))) oa ++ (rO (toR D) r ++ [])))) : List (Nat × Obj))) (show _ = ((jc ((parL (readF D 0) (jrows D)).getD i wz)).toArray) from spl_all (by rw [List.size_toArray,List.size_toArray,jc_len (hPw.at i)]; exact (jc_len zb_len).symm))) ?_
       refine CfgL.done rfl ?_
       refine Cg (Γ' := [(16,[],.pointer (some ⟨wb,0,none⟩)),(67,[],.int .i64 (i : Int)),(66,[],.int .i64 ((parL (readF D 0) (jrows D)).length : Int)),(65,[],.slice (some ⟨sc,of2,none⟩) (parL (readF D 0) (jrows D)).length (Own.c oa)),(14,[],.slice (Own.a on) ((kN D (parL (readF D 0) (jrows D)) i).length) (Own.c on)),(10,[],.pointer (some ⟨kb,0,none⟩)),(0,[],.pointer (some ⟨r.r,0,none⟩))]) ?_
       refine Cfg.regD rfl kr [0,10,14,16,65,66,67,78] [dZ,(0,false,some (.int .i64 (((parL (readF D 0) (jrows D)).getD i wz).1))),dZ,dZ,dZ,(0,false,some (.slice (some ⟨r.lb,0,none⟩) D.last.length D.last.length))] (Γ' := [(78,[],.bool (decide ((((parL (readF D 0) (jrows D)).getD i wz).1) < (D.last.length : Int)))),(16,[],.pointer (some ⟨wb,0,none⟩)),(67,[],.int .i64 (i : Int)),(66,[],.int .i64 ((parL (readF D 0) (jrows D)).length : Int)),(65,[],.slice (some ⟨sc,of2,none⟩) (parL (readF D 0) (jrows D)).length (Own.c oa)),(14,[],.slice (Own.a on) ((kN D (parL (readF D 0) (jrows D)) i).length) (Own.c on)),(10,[],.pointer (some ⟨kb,0,none⟩)),(0,[],.pointer (some ⟨r.r,0,none⟩))]) (nd := (fun S => [(∀ w1,S w1 → w1.cell? ⟨wb,0,none⟩ = some (.int .i64 (((parL (readF D 0) (jrows D)).getD i wz).1))),(∀ w1,S w1 → w1.cell? ⟨r.r,1,none⟩ = some (.slice (some ⟨r.lb,0,none⟩) D.last.length D.last.length))])) kr kr (fun _ => kr) ⟨(fun w1 h => h.ocell 0 rfl rfl),(fun w1 h => by rw [cell_cells (h.own (r.r,.cells (rC (toR D) r) 72 (0,0)) (List.mem_append_right [(wb,Obj.cells ((jc ((parL (readF D 0) (jrows D)).getD i wz)).toArray) 36 (0,0)),(kb,Obj.cells (#[.pointer (some ⟨r.r,0,none⟩),.int .u64 0,.int .i64 0].setIfInBounds 1 (.int .u64 ((parN (readF D 0) (jrows D)) : Int))) 68 (0,0))] (List.mem_append_right (Own.o 36 (jv (kN D (parL (readF D 0) (jrows D)) i)) on) (List.mem_append_right (Own.o 36 (jv (parL (readF D 0) (jrows D))) oa) (List.mem_append_left _ (List.mem_cons_self ..)))))),rC]; rfl),trivial⟩ ?_
       refine Cfg.cond rfl (b := (decide ((((parL (readF D 0) (jrows D)).getD i wz).1) < (D.last.length : Int)))) kr (fun c5r => ?_) (fun c5r => ?_)
       ·have c5 := (of_decide_eq_true c5r)
        refine Cfg.begL rfl ?_
        refine Lp 2 [dZ,(0,false,some (.agg (jc ((parL (readF D 0) (jrows D)).getD i wz)).toArray))] (some [0,10,14,65,66,67,79,80]) (fun S => [(∀ w1,S w1 → (loadVar 36 ⟨wb,0,none⟩).run Tryz.prog w1 = .ok (.agg (jc ((parL (readF D 0) (jrows D)).getD i wz)).toArray) w1)]) ⟨(fun w1 h => load_list Tryz.underlying36 rfl kr (jc_len (hPw.at i)) (fun k v hv => by rw [Nat.zero_add]; exact h.ocell 0 rfl (by rw [List.getElem?_toArray]; exact hv))),trivial⟩ ?_
        refine Le (Eff.buildAgg (vs := (jc ((parL (readF D 0) (jrows D)).getD i wz)).toArray) (n := 513) rfl kr Tryz.underlying29 kr (z := (.agg (jc wz).toArray)) kr (by rw [List.size_toArray]; exact jc_len (hPw.at i)) (by decide) (by decide)) ?_
        rintro sb6 ⟨hsb6,nsb6⟩
        refine Le (Eff.appendF rfl 513 520 Tryz.underlying29 kr (z := (.agg (jc wz).toArray)) kr kr on (xs := (jv (kN D (parL (readF D 0) (jrows D)) i))) hon kr (b2 := sb6) (off2 := 0) (m := 1) (c2 := 1) kr (jc ((parL (readF D 0) (jrows D)).getD i wz)) (jc_len (hPw.at i)) (jc_all _) [(sb6,.cells ((jc ((parL (readF D 0) (jrows D)).getD i wz)).toArray) 36 (0,0)),(wb,.cells ((jc ((parL (readF D 0) (jrows D)).getD i wz)).toArray) 36 (0,0)),(kb,.cells (#[.pointer (some ⟨r.r,0,none⟩),.int .u64 0,.int .i64 0].setIfInBounds 1 (.int .u64 ((parN (readF D 0) (jrows D)) : Int))) 68 (0,0))] ([] ++ (Own.o 36 (jv (parL (readF D 0) (jrows D))) oa ++ (rO (toR D) r ++ []))) (by rfl) (fun w1 h j v hj => by rw [Nat.zero_add]; exact h.ocell 0 rfl (by rw [List.getElem?_toArray]; exact hj)) om om) ?_
        rintro o5 ko5
        refine Lp 1 [] (some [0,10,14,65,66,67]) n0 trivial ?_
        refine CfgL.done rfl ?_
        refine Rg [0,10,14,65,66,67] [] (fun _ => [((-9223372036854775808 : Int) ≤ ((i : Int) + 1) ∧ ((i : Int) + 1) ≤ 9223372036854775807)]) ⟨om,trivial⟩ ?_
        have hky := kN_yes (D := D) (l := (parL (readF D 0) (jrows D))) (j := i) om (by unfold pD; exact decide_eq_false om)
        have hrv : jv (kN D (parL (readF D 0) (jrows D)) i) ++ jc ((parL (readF D 0) (jrows D)).getD i wz) = jv (kN D (parL (readF D 0) (jrows D)) (i + 1)) := by rw [hky,jv_app,jv_one]
        have hln : (kN D (parL (readF D 0) (jrows D)) i).length + 1 = (kN D (parL (readF D 0) (jrows D)) (i + 1)).length := by rw [hky,List.length_append]; rfl
        refine Cfg.setO (congrArg (fun (xq : List Value) => (([(sb6,.cells ((jc ((parL (readF D 0) (jrows D)).getD i wz)).toArray) 36 (0,0)),(wb,.cells ((jc ((parL (readF D 0) (jrows D)).getD i wz)).toArray) 36 (0,0)),(kb,.cells (#[.pointer (some ⟨r.r,0,none⟩),.int .u64 0,.int .i64 0].setIfInBounds 1 (.int .u64 ((parN (readF D 0) (jrows D)) : Int))) 68 (0,0))] ++ (Own.o 36 xq o5 ++ (Own.o 36 (jv (parL (readF D 0) (jrows D))) oa ++ (rO (toR D) r ++ [])))) : List (Nat × Obj))) (show _ = (jv (kN D (parL (readF D 0) (jrows D)) (i + 1))) from hrv)) ?_
        refine Cg (Γ' := [(67,[],.int .i64 ((i : Int) + 1)),(14,[],.slice (Own.a o5) (((kN D (parL (readF D 0) (jrows D)) i).length + 1)) (Own.c o5)),(66,[],.int .i64 ((parL (readF D 0) (jrows D)).length : Int)),(65,[],.slice (some ⟨sc,of2,none⟩) (parL (readF D 0) (jrows D)).length (Own.c oa)),(10,[],.pointer (some ⟨kb,0,none⟩)),(0,[],.pointer (some ⟨r.r,0,none⟩))]) ?_
        refine Cfg.setG (congrArg (fun (xq : Nat) => ([(67,[],.int .i64 ((i : Int) + 1)),(14,[],.slice (Own.a o5) xq (Own.c o5)),(66,[],.int .i64 ((parL (readF D 0) (jrows D)).length : Int)),(65,[],.slice (some ⟨sc,of2,none⟩) (parL (readF D 0) (jrows D)).length (Own.c oa)),(10,[],.pointer (some ⟨kb,0,none⟩)),(0,[],.pointer (some ⟨r.r,0,none⟩))] : Env)) (show _ = ((kN D (parL (readF D 0) (jrows D)) (i + 1)).length) from hln)) ?_
        refine Cfg.again rfl (i + 1,o5) ⟨by omega,(by rw [← hrv,← hln]; exact ko5)⟩ (by show (parL (readF D 0) (jrows D)).length - (i + 1) < (parL (readF D 0) (jrows D)).length - i; omega) (Conv.mk kr) (.cons _ (.cons _ (.cons_cons _ (List.Sublist.refl _))))
       ·have c5 := (of_decide_eq_false c5r)
        refine Rg [0,10,14,65,66,67] [] (fun _ => [((-9223372036854775808 : Int) ≤ ((i : Int) + 1) ∧ ((i : Int) + 1) ≤ 9223372036854775807)]) ⟨om,trivial⟩ ?_
        have hkn := kN_no (D := D) (l := (parL (readF D 0) (jrows D))) (j := i) om (by unfold pD; exact decide_eq_true om)
        refine Cfg.setO (congrArg (fun (xq : List Value) => (([(wb,.cells ((jc ((parL (readF D 0) (jrows D)).getD i wz)).toArray) 36 (0,0)),(kb,.cells (#[.pointer (some ⟨r.r,0,none⟩),.int .u64 0,.int .i64 0].setIfInBounds 1 (.int .u64 ((parN (readF D 0) (jrows D)) : Int))) 68 (0,0))] ++ (Own.o 36 xq on ++ (Own.o 36 (jv (parL (readF D 0) (jrows D))) oa ++ (rO (toR D) r ++ [])))) : List (Nat × Obj))) (show _ = (jv (kN D (parL (readF D 0) (jrows D)) (i + 1))) from by rw [hkn])) ?_
        refine Cg (Γ' := [(67,[],.int .i64 ((i : Int) + 1)),(66,[],.int .i64 ((parL (readF D 0) (jrows D)).length : Int)),(65,[],.slice (some ⟨sc,of2,none⟩) (parL (readF D 0) (jrows D)).length (Own.c oa)),(14,[],.slice (Own.a on) ((kN D (parL (readF D 0) (jrows D)) i).length) (Own.c on)),(10,[],.pointer (some ⟨kb,0,none⟩)),(0,[],.pointer (some ⟨r.r,0,none⟩))]) ?_
        refine Cfg.setG (congrArg (fun (xq : Nat) => ([(67,[],.int .i64 ((i : Int) + 1)),(66,[],.int .i64 ((parL (readF D 0) (jrows D)).length : Int)),(65,[],.slice (some ⟨sc,of2,none⟩) (parL (readF D 0) (jrows D)).length (Own.c oa)),(14,[],.slice (Own.a on) xq (Own.c on)),(10,[],.pointer (some ⟨kb,0,none⟩)),(0,[],.pointer (some ⟨r.r,0,none⟩))] : Env)) (show _ = ((kN D (parL (readF D 0) (jrows D)) (i + 1)).length) from by rw [hkn])) ?_
        refine Cfg.again rfl (i + 1,on) ⟨by omega,(by rw [hkn]; exact hon)⟩ (by show (parL (readF D 0) (jrows D)).length - (i + 1) < (parL (readF D 0) (jrows D)).length - i; omega) (Conv.mk kr) (.cons _ (.cons_cons _ (List.Sublist.refl _)))
      ·have c4 := (of_decide_eq_false c4r)
       obtain rfl : i = (parL (readF D 0) (jrows D)).length := by omega
       have hka : kN D (parL (readF D 0) (jrows D)) (parL (readF D 0) (jrows D)).length = inD D (parL (readF D 0) (jrows D)) := kN_all D _
       rw [hka] at hon
       have hon2 : OwnOk on 513 (inD D (parL (readF D 0) (jrows D))).length (jv (inD D (parL (readF D 0) (jrows D)))) := hon
       refine Cfg.setO (congrArg (fun (xq : List Value) => (([(kb,.cells (#[.pointer (some ⟨r.r,0,none⟩),.int .u64 0,.int .i64 0].setIfInBounds 1 (.int .u64 ((parN (readF D 0) (jrows D)) : Int))) 68 (0,0))] ++ (Own.o 36 xq on ++ (Own.o 36 (jv (parL (readF D 0) (jrows D))) oa ++ (rO (toR D) r ++ [])))) : List (Nat × Obj))) (show _ = (jv (inD D (parL (readF D 0) (jrows D)))) from by rw [hka])) ?_
       refine Conv.cfg (Γ' := [(14,[],.slice (Own.a on) ((kN D (parL (readF D 0) (jrows D)) (parL (readF D 0) (jrows D)).length).length) (Own.c on)),(10,[],.pointer (some ⟨kb,0,none⟩)),(0,[],.pointer (some ⟨r.r,0,none⟩))]) (Conv.mk kr) ?_
       refine Cg (Γ' := [(14,[],.slice (Own.a on) ((kN D (parL (readF D 0) (jrows D)) (parL (readF D 0) (jrows D)).length).length) (Own.c on)),(10,[],.pointer (some ⟨kb,0,none⟩)),(0,[],.pointer (some ⟨r.r,0,none⟩))]) ?_
       refine Cfg.setG (congrArg (fun (xq : Nat) => ([(14,[],.slice (Own.a on) xq (Own.c on)),(10,[],.pointer (some ⟨kb,0,none⟩)),(0,[],.pointer (some ⟨r.r,0,none⟩))] : Env)) (show _ = ((inD D (parL (readF D 0) (jrows D))).length) from by rw [hka])) ?_
       refine Cfg.begL rfl ?_
       refine Lp 2 [] (some [10,84,85]) n0 trivial ?_
       refine Le (assoc3 ([(kb,Obj.cells (#[.pointer (some ⟨r.r,0,none⟩),.int .u64 0,.int .i64 0].setIfInBounds 1 (.int .u64 ((parN (readF D 0) (jrows D)) : Int))) 68 (0,0))]) (Own.o 36 (jv (inD D (parL (readF D 0) (jrows D)))) on) (Own.o 36 (jv (parL (readF D 0) (jrows D))) oa) (Eff.callH (vs := [.pointer (some ⟨r.r,0,none⟩),.slice (Own.a on) ((inD D (parL (readF D 0) (jrows D))).length) (Own.c on)]) (fun _ : Unit => .int .i64 ((layF D (inD D (parL (readF D 0) (jrows D)))).1)) (rO (toR D) r) (fun _ => rO (toR (layF D (inD D (parL (readF D 0) (jrows D)))).2) r) (fun _ => True) (([(kb,Obj.cells (#[.pointer (some ⟨r.r,0,none⟩),.int .u64 0,.int .i64 0].setIfInBounds 1 (.int .u64 ((parN (readF D 0) (jrows D)) : Int))) 68 (0,0))] ++ Own.o 36 (jv (inD D (parL (readF D 0) (jrows D)))) on) ++ Own.o 36 (jv (parL (readF D 0) (jrows D))) oa) [] (r3_eq ([(kb,Obj.cells (#[.pointer (some ⟨r.r,0,none⟩),.int .u64 0,.int .i64 0].setIfInBounds 1 (.int .u64 ((parN (readF D 0) (jrows D)) : Int))) 68 (0,0))]) (Own.o 36 (jv (inD D (parL (readF D 0) (jrows D)))) on) (Own.o 36 (jv (parL (readF D 0) (jrows D))) oa) (rO (toR D) r)) rfl Tryz.func55 rfl rfl kr (fun w1 h hA hd => (rLay r D (Own.a on) (Own.c on) (inD D (parL (readF D 0) (jrows D))) (Own.o 36 (jv (inD D (parL (readF D 0) (jrows D)))) on) w1 hg hA hd (inW_own hon2) (inD_w hPw D) (Nat.le_trans (inD_len D _) (Nat.le_trans hP96 (by decide))) om (fun e he => (r3_own h).1 e (List.mem_append_left _ (List.mem_append_right _ he))) (fun e he => (r3_own h).2 e (List.mem_append_left _ (List.mem_append_right _ he)))).mono fun e w2 hx => ⟨(),trivial,hx⟩))) ?_
       rintro ⟨⟩ -
       refine Lp 1 [] (some [5,10]) n0 trivial ?_
       refine CfgL.done rfl ?_
       refine Rg [5,10,88] [] n0 trivial ?_
       refine Cfg.cond rfl (b := (((layF D (inD D (parL (readF D 0) (jrows D)))).1) != (0 : Int))) kr (fun c6r => ?_) (fun c6r => ?_)
       ·have c6 := (bne_iff_ne.1 c6r)
        refine Rg [2,3] [] n0 trivial ?_
        refine Cfg.ret rfl (rs := [.tmp 2,.tmp 3]) rfl [.pointer none,.int .i64 ((layF D (inD D (parL (readF D 0) (jrows D)))).1)] ⟨kr,by kernel_rfl,trivial⟩ (fun w1 hp => ?_)
        have hx : openF D = ((layF D (openL D)).1,0,(layF D (openL D)).2) := op_err hf0 hpg c6
        rw [hx]
        have h9 : HP w ((rO (toR D) r).map (·.1)) [] (([] : List (Nat × Obj)) ++ (rO (toR ((layF D (inD D (parL (readF D 0) (jrows D)))).2)) r ++ [])) w1 := hp.sub (.cons _ (List.Sublist.trans (List.Sublist.trans (List.Sublist.append (l₁ := rO (toR ((layF D (inD D (parL (readF D 0) (jrows D)))).2)) r) (l₂ := rO (toR ((layF D (inD D (parL (readF D 0) (jrows D)))).2)) r) (r₁ := []) (List.Sublist.refl _) (List.nil_sublist _)) (List.sublist_append_right (Own.o 36 (jv (parL (readF D 0) (jrows D))) oa) _)) (List.sublist_append_right (Own.o 36 (jv (inD D (parL (readF D 0) (jrows D)))) on) _)))
        rw [List.append_nil] at h9
        exact .inr ⟨c6,rfl,_,h9⟩
       ·have c6 := (bne_eq_false_iff_eq.1 c6r)
        refine Rg [2,3] [] n0 trivial ?_
        refine Cfg.ret rfl (rs := [.tmp 2,.tmp 3]) rfl [.pointer (some ⟨kb,0,none⟩),.int .i64 0] ⟨kr,by kernel_rfl,trivial⟩ (fun w1 hp => ?_)
        have hx : openF D = (0,(parN (readF D 0) (jrows D)),(layF D (openL D)).2) := op_ok hf0 hpg c6
        rw [hx]
        have h9 : HP w ((rO (toR D) r).map (·.1)) [] ([(kb,Obj.cells #[.pointer (some ⟨r.r,0,none⟩),.int .u64 ((parN (readF D 0) (jrows D)) : Int),.int .i64 (0 : Int)] 68 (0,0))] ++ (rO (toR ((layF D (inD D (parL (readF D 0) (jrows D)))).2)) r ++ [])) w1 := hp.sub (.cons_cons _ (List.Sublist.trans (List.Sublist.trans (List.Sublist.append (l₁ := rO (toR ((layF D (inD D (parL (readF D 0) (jrows D)))).2)) r) (l₂ := rO (toR ((layF D (inD D (parL (readF D 0) (jrows D)))).2)) r) (r₁ := []) (List.Sublist.refl _) (List.nil_sublist _)) (List.sublist_append_right (Own.o 36 (jv (parL (readF D 0) (jrows D))) oa) _)) (List.sublist_append_right (Own.o 36 (jv (inD D (parL (readF D 0) (jrows D)))) on) _)))
        rw [List.append_nil] at h9
        exact .inl ⟨kb,rfl,rfl,_,h9⟩
theorem rOpenOk (r : RM) (D : DK) (w : World) (hg : DG D) (hs : 0 ≤ D.steps ∧ D.steps ≤ 4611686018426000000) (hA : Has w (rO (toR D) r)) (hd : ((rO (toR D) r).map (·.1)).Nodup) (h0 : (openF D).1 = 0) :
  Calls Tryz.prog 16 #[.pointer (some ⟨r.r,0,none⟩)] w fun e w' => ∃ q : Nat,True ∧ e = .returned (.tuple #[.pointer (some ⟨q,0,none⟩),.int .i64 0]) ∧ ∃ R1,HP w ((rO (toR D) r).map (·.1)) R1 ((q,Obj.cells #[.pointer (some ⟨r.r,0,none⟩),.int .u64 ((openF D).2.1 : Int),.int .i64 (0 : Int)] 68 (0,0)) :: rO (toR (openF D).2.2) r) w' := by
 refine (rOpen r D w hg hs hA hd).mono ?_
 rintro e w' (⟨q,_,h⟩ | ⟨h1,_⟩)
 ·exact ⟨q,trivial,h⟩
 ·exact absurd h0 h1
theorem rOpenNo (r : RM) (D : DK) (w : World) (hg : DG D) (hs : 0 ≤ D.steps ∧ D.steps ≤ 4611686018426000000) (hA : Has w (rO (toR D) r)) (hd : ((rO (toR D) r).map (·.1)).Nodup) (h0 : (openF D).1 ≠ 0) :
  Calls Tryz.prog 16 #[.pointer (some ⟨r.r,0,none⟩)] w fun e w' => ∃ _ : Unit,True ∧ e = .returned (.tuple #[.pointer none,.int .i64 (openF D).1]) ∧ ∃ R1,HP w ((rO (toR D) r).map (·.1)) R1 (rO (toR (openF D).2.2) r) w' := by
 refine (rOpen r D w hg hs hA hd).mono ?_
 rintro e w' (⟨q,h1,_⟩ | ⟨_,h⟩)
 ·exact absurd h1 h0
 ·exact ⟨(),trivial,h⟩
end Go.Proofs.YtohjpggjgomgoaaGreatDoor
namespace Go.Proofs.YtohjpggjgomgoaaGreatDoor
open K
set_option linter.unusedVariables false
theorem commit_D (J : JS) (l : List Wr) : (commitF J l).2.D = J.D ∨ (commitF J l).2.D = (transF J.D ((J.num + 1) % 18446744073709551616) (risF l)).2 := by
 unfold commitF
 repeat' split
 all_goals first | exact .inl rfl | exact .inr rfl
theorem commit_good {J : JS} {l : List Wr} (h : DG J.D) (hw : WW l) : DG (commitF J l).2.D := by
 rcases commit_D J l with e | e
 ·rw [e]; exact h
 ·rw [e]; exact h.lays (stages_w (risF_w hw) _)
theorem commit_steps (J : JS) (l : List Wr) : J.D.steps ≤ (commitF J l).2.D.steps ∧ (commitF J l).2.D.steps ≤ J.D.steps + (2 * l.length + 6 : Nat) := by
 rcases commit_D J l with e | e
 ·rw [e]; omega
 ·rw [e]
  have h1 := laysF_steps (stagesF ((J.num + 1) % 18446744073709551616) (risF l)) J.D
  rw [stages_tot] at h1
  have h2 := lastM_len l l.length
  rw [← risF_len] at h2
  unfold transF
  omega
theorem open_D (D : DK) : (openF D).2.2 = D ∨ (openF D).2.2 = (layF D (openL D)).2 := by
 unfold openF
 repeat' split
 all_goals first | exact .inl rfl | exact .inr rfl
theorem openL_w {D : DK} (h : DG D) : WW (openL D) := inD_w (parL_w (jblk_w h _)) D
theorem open_good {D : DK} (h : DG D) : DG (openF D).2.2 := by
 rcases open_D D with e | e
 ·rw [e]; exact h
 ·rw [e]; exact h.lay (openL_w h)
theorem open_steps (D : DK) : D.steps ≤ (openF D).2.2.steps ∧ (openF D).2.2.steps ≤ D.steps + 97 := by
 rcases open_D D with e | e
 ·rw [e]; omega
 ·rw [e]
  have h1 := layF_steps (openL D) D
  have h2 : (openL D).length ≤ 96 := Nat.le_trans (inD_len D _) parL_96
  omega
theorem open_new {n : Nat} (hn : 64 ≤ n) : openF (newD n) = (0,0,newD n) := by
 have h0 : readF (newD n) 0 = zb := by
  unfold readF
  split
  ·show (List.replicate n zb).getD (0 : Int).toNat zb = zb
   rw [List.getD_eq_getElem?_getD,List.getElem?_replicate]
   split <;> rfl
  ·rfl
 refine op_no ?_ ?_
 ·show fltF (newD n) 0 = 0
  unfold fltF
  rw [if_neg (by show ¬ false = true; decide),if_pos (by show (0 : Int) ≤ 0 ∧ (0 : Int) < ((List.replicate n zb).length : Int); rw [List.length_replicate]; omega)]
 ·unfold openG
  rw [h0]
  exact par_no1 (by decide)
end Go.Proofs.YtohjpggjgomgoaaGreatDoor
namespace Go.Proofs.YtohjpggjgomgoaaGreatDoor
open K
set_option linter.unusedVariables false
def digT : ByteArray := ⟨#[48,49,50,51,52,53,54,55,56,57,97,98,99,100,101,102]⟩
def hexD (n : Nat) : UInt8 := digT.data.toList.getD n 0
def hexL (l : List UInt8) : List UInt8 := l.flatMap fun b => [hexD (b.toNat / 16),hexD (b.toNat % 16)]
def hexS (l : List UInt8) : ByteArray := ⟨(hexL l).toArray⟩
def hexRow (l : List UInt8) (k : Nat) : List UInt8 := hexL (l.take k) ++ List.replicate (64 - 2 * k) 0
theorem hexL_len (l : List UInt8) : (hexL l).length = 2 * l.length := by
 induction l with
 | nil => rfl
 | cons x l ih => simp only [hexL,List.flatMap_cons,List.length_append,List.length_cons,List.length_nil] at *; omega
theorem hexRow_len {l : List UInt8} (hl : l.length = 32) {k : Nat} (hk : k ≤ 32) : (hexRow l k).length = 64 := by
 simp [hexRow,hexL_len]; omega
theorem hexRow_end {l : List UInt8} (hl : l.length = 32) : hexRow l 32 = hexL l := by
 simp [hexRow,List.take_of_length_le (show l.length ≤ 32 by omega)]
theorem byte_lt (b : UInt8) : b.toNat < 256 := UInt8.toNat_lt b
theorem set_two (A : List UInt8) (n : Nat) (x y : UInt8) (hn : 2 ≤ n) : ((A ++ List.replicate n 0).set A.length x).set (A.length + 1) y = A ++ [x,y] ++ List.replicate (n - 2) 0 := by
 obtain ⟨m,rfl⟩ : ∃ m,n = m + 2 := ⟨n - 2,by omega⟩
 simp [List.replicate_succ]
theorem u8_back (b : UInt8) : UInt8.ofNat ((b.toNat : Int)).toNat = b := by simp
theorem hexRow_step {l : List UInt8} (hl : l.length = 32) {k : Nat} (hk : k < 32) {x y : Int} (hx : x = ((hexD ((l.getD k 0).toNat / 16)).toNat : Int)) (hy : y = ((hexD ((l.getD k 0).toNat % 16)).toNat : Int)) :
  ((bv (hexRow l k)).setIfInBounds (2 * k) (.int .u8 x)).setIfInBounds (2 * k + 1) (.int .u8 y) = bv (hexRow l (k + 1)) := by
 subst hx hy
 have b1 := byte_lt (hexD ((l.getD k 0).toNat / 16))
 have b2 := byte_lt (hexD ((l.getD k 0).toNat % 16))
 rw [bv_set om om,bv_set om om,u8_back,u8_back]
 congr 1
 have hlen : (hexL (l.take k)).length = 2 * k := by rw [hexL_len]; simp; omega
 have ht : l.take (k + 1) = l.take k ++ [l.getD k 0] := by
  rw [List.take_succ_eq_append_getElem om]; simp [List.getElem?_eq_getElem (show k < l.length by omega)]
 have := set_two (hexL (l.take k)) (64 - 2 * k) (hexD ((l.getD k 0).toNat / 16)) (hexD ((l.getD k 0).toNat % 16)) om
 rw [hlen] at this
 unfold hexRow
 rw [this,ht]
 simp only [hexL,List.flatMap_append,List.flatMap_cons,List.flatMap_nil,List.append_nil]
 rw [show 64 - 2 * k - 2 = 64 - 2 * (k + 1) by omega]
theorem and15 (x : Nat) : x &&& 15 = x % 16 := Nat.and_two_pow_sub_one_eq_mod x 4
theorem hex_str {P : Program} {l : List UInt8} {w0 w : World} {M : List Nat} {R O : List (Nat × Obj)} {b k : Nat} {t : TypeId} (hl : l.length = 32) (hk : k = 32) (h : HP w0 M R O w) (ho : O[0]? = some (b,.cells (bv (hexRow l k)) t (0,0))) :
  (Conv.bytesToString (.slice (some ⟨b,0,none⟩) 64 64)).run P w = .ok (.string (hexS l)) w := by
 subst hk
 have hr := h.ostr (P := P) (c := 64) 0 ho (hexRow_len hl om)
 rw [hexRow_end hl] at hr; exact hr
set_option maxRecDepth 100000 in
theorem shaHex (l : List UInt8) (w : World) (hl : l.length = 32) :
  Calls Tryz.prog 100 #[.agg (bv l)] w fun e w' => e = .returned (.string (hexS l)) ∧ Ext [] w w' := by
 refine enter (vs := [.agg (bv l)]) [] [] [] Tryz.func100 rfl kr (HP.start w) ?_
 refine Cfg.begL rfl ?_
 refine Le (Eff.box (v := .agg (bv l)) rfl kr) ?_
 rintro d ⟨hd,nd⟩
 refine Lp 1 [] (some [1]) n0 trivial ?_
 refine CfgL.done rfl ?_
 refine Cfg.begL rfl ?_
 refine Le (Eff.alloc (z := (.agg (bv (List.replicate 64 0)))) rfl kr) ?_
 rintro t ⟨ht,nt⟩
 refine CfgL.done rfl ?_
 refine Rg [3,6,7] [(0,false,some (.agg (bv l)))] (fun S => [(∀ w1,S w1 → (loadVar 95 ⟨d,0,none⟩).run Tryz.prog w1 = .ok (.agg (bv l)) w1)]) ⟨(fun w1 h => h.oload 1 rfl Tryz.underlying95 rfl (n := 32) kr ((bv_size l).trans hl)),trivial⟩ ?_
 refine Cfg.loop rfl (ι := Nat) (fun (k : Nat) => [(7,[],.int .i64 (k : Int)),(6,[],.agg (bv l)),(3,[],.pointer (some ⟨t,0,none⟩))]) (fun (k : Nat) => [(t,.cells (bv (hexRow l k)) 174 (0,0)),(d,.cells (bv l) 95 (0,0))]) (fun (k : Nat) => (k ≤ 32)) (fun (k : Nat) => 32 - k) 0 ?_ (Conv.mk kr) (List.Sublist.refl _) ?_
 ·exact Nat.zero_le _
 ·rintro k hk
  refine Rg [3,6,7,8] [] n0 trivial ?_
  refine Cfg.cond rfl (b := (decide ((k : Int) < (32 : Int)))) kr (fun c1r => ?_) (fun c1r => ?_)
  ·have c1 := (of_decide_eq_true c1r)
   refine Rg [3,4,5,6,7] [dZ,(0,false,some (.int .u8 ((l.getD k 0).toNat : Int)))] (fun _ => [(0 ≤ (k : Int) ∧ (k : Int) < (32 : Int)),(((bv l))[k]? = some (.int .u8 ((l.getD k 0).toNat : Int)))]) ⟨(by have hb := byte_lt (l.getD k 0); have h15 := and15 (l.getD k 0).toNat; omega),(bv_get hl om),trivial⟩ ?_
   refine Cfg.begL rfl ?_
   refine Lp 6 [] (some [3,4,5,6,7,15,16]) (fun _ => [((-9223372036854775808 : Int) ≤ (2 * (k : Int)) ∧ (2 * (k : Int)) ≤ 9223372036854775807),(0 ≤ (4 : Int) ∧ 4 ≤ 8),(0 ≤ (((l.getD k 0).toNat : Int) / 16) ∧ (((l.getD k 0).toNat : Int) / 16) < (16 : Int)),(0 ≤ (2 * (k : Int)) ∧ (2 * (k : Int)) < (64 : Int))]) ⟨(by have hb := byte_lt (l.getD k 0); have h15 := and15 (l.getD k 0).toNat; omega),(by have hb := byte_lt (l.getD k 0); have h15 := and15 (l.getD k 0).toNat; omega),(by have hb := byte_lt (l.getD k 0); have h15 := and15 (l.getD k 0).toNat; omega),(by have hb := byte_lt (l.getD k 0); have h15 := and15 (l.getD k 0).toNat; omega),trivial⟩ ?_
   refine Le (Eff.store1 (b := t) (off := (2 * k)) (v := .int .u8 (sbyte ⟨#[48,49,50,51,52,53,54,55,56,57,97,98,99,100,101,102]⟩ (((l.getD k 0).toNat : Int) / 16))) rfl kr kr rfl kr 0 (cs := (bv (hexRow l k))) (e := 174) kr (by simp [bv_size,hexRow_len hl (show k ≤ 32 by omega)]; omega)) ?_
   rintro ⟨⟩ -
   refine CfgL.done rfl ?_
   refine Cg (Γ' := [(5,[],.int .u8 ((l.getD k 0).toNat : Int)),(4,[],.int .i64 (k : Int)),(7,[],.int .i64 (k : Int)),(6,[],.agg (bv l)),(3,[],.pointer (some ⟨t,0,none⟩))]) ?_
   refine Cfg.begL rfl ?_
   refine Lp 7 [] (some [3,6,7,22,23]) (fun _ => [((-9223372036854775808 : Int) ≤ (2 * (k : Int)) ∧ (2 * (k : Int)) ≤ 9223372036854775807),((-9223372036854775808 : Int) ≤ ((2 * (k : Int)) + 1) ∧ ((2 * (k : Int)) + 1) ≤ 9223372036854775807),((0 ≤ ((l.getD k 0).toNat : Int) ∧ ((l.getD k 0).toNat : Int) ≤ 255) ∧ 0 ≤ (15 : Int) ∧ (15 : Int) ≤ 255),(0 ≤ ((((l.getD k 0).toNat) &&& 15 : Nat) : Int) ∧ ((((l.getD k 0).toNat) &&& 15 : Nat) : Int) < (16 : Int)),(0 ≤ ((2 * (k : Int)) + 1) ∧ ((2 * (k : Int)) + 1) < (64 : Int))]) ⟨(by have hb := byte_lt (l.getD k 0); have h15 := and15 (l.getD k 0).toNat; omega),(by have hb := byte_lt (l.getD k 0); have h15 := and15 (l.getD k 0).toNat; omega),(by have hb := byte_lt (l.getD k 0); have h15 := and15 (l.getD k 0).toNat; omega),(by have hb := byte_lt (l.getD k 0); have h15 := and15 (l.getD k 0).toNat; omega),(by have hb := byte_lt (l.getD k 0); have h15 := and15 (l.getD k 0).toNat; omega),trivial⟩ ?_
   refine Le (Eff.store1 (b := t) (off := ((2 * k) + 1)) (v := .int .u8 (sbyte ⟨#[48,49,50,51,52,53,54,55,56,57,97,98,99,100,101,102]⟩ ((((l.getD k 0).toNat) &&& 15 : Nat) : Int))) rfl kr kr rfl kr 0 (cs := ((bv (hexRow l k)).setIfInBounds (2 * k) (.int .u8 (sbyte ⟨#[48,49,50,51,52,53,54,55,56,57,97,98,99,100,101,102]⟩ (((l.getD k 0).toNat : Int) / 16))))) (e := 174) kr (by simp [bv_size,hexRow_len hl (show k ≤ 32 by omega)]; omega)) ?_
   rintro ⟨⟩ -
   refine CfgL.done rfl ?_
   refine Cg (Γ' := [(7,[],.int .i64 (k : Int)),(6,[],.agg (bv l)),(3,[],.pointer (some ⟨t,0,none⟩))]) ?_
   refine Rg [3,6,7] [] (fun _ => [((-9223372036854775808 : Int) ≤ ((k : Int) + 1) ∧ ((k : Int) + 1) ≤ 9223372036854775807)]) ⟨(by have hb := byte_lt (l.getD k 0); have h15 := and15 (l.getD k 0).toNat; omega),trivial⟩ ?_
   refine Cfg.setO (congrArg (fun (xq : Array Value) => ([(t,.cells xq 174 (0,0)),(d,.cells (bv l) 95 (0,0))] : List (Nat × Obj))) (show _ = (bv (hexRow l (k + 1))) from hexRow_step hl om rfl (by rw [and15]; rfl))) ?_
   refine Cfg.again rfl (k + 1) (show k + 1 ≤ 32 by omega) om (Conv.mk kr) (.cons_cons _ (.cons_cons _ .slnil))
  ·have c1 := (of_decide_eq_false c1r)
   refine Rg [2] [dZ,(0,false,some (.string (hexS l)))] (fun S => [(64 ≤ 64),(∀ w1,S w1 → (Conv.bytesToString (.slice (some ⟨t,0,none⟩) 64 64)).run Tryz.prog w1 = .ok (.string (hexS l)) w1)]) ⟨(by have hb := byte_lt (l.getD k 0); have h15 := and15 (l.getD k 0).toNat; omega),(fun w1 h => hex_str hl om h rfl),trivial⟩ ?_
   refine Cfg.ret rfl (rs := [.tmp 2]) rfl [.string (hexS l)] ⟨kr,trivial⟩ (fun w1 hp => ?_)
   exact ⟨rfl,hp.ext⟩
end Go.Proofs.YtohjpggjgomgoaaGreatDoor
namespace Go.Proofs.YtohjpggjgomgoaaGreatDoor
open K
set_option linter.unusedVariables false
def abcD : List UInt8 := [186,120,22,191,143,1,207,234,65,65,64,222,93,174,34,35,176,3,97,163,150,23,122,156,180,16,255,97,242,0,21,173]
set_option maxRecDepth 100000 in
theorem shaD_abc : shaD (scat [⟨#[97,98,99]⟩]) = abcD := by kernel_rfl
theorem sinS_lit (bk : Nat) (t : TypeId) (fr : Nat × Nat) (ss : List ByteArray) : InS [(bk,.cells (ss.map Value.string).toArray t fr)] (some ⟨bk,0,none⟩) ss.length (fun j => .string (ssat ss j)) := by
 intro _
 refine ⟨bk,0,_,t,fr,rfl,List.mem_singleton.2 rfl,fun j hj => ?_⟩
 rw [Nat.zero_add]
 simp [ssat,List.getElem?_eq_getElem hj]
theorem has_two {w w0 : World} {M : List Nat} {R O : List (Nat × Obj)} (h : HP w0 M R O w) {x y : Nat × Obj} (hx : x ∈ R) (hy : y ∈ O) : Has w (x :: [y]) := by
 intro e he
 rcases List.mem_cons.1 he with rfl | he
 ·exact h.ro _ hx
 ·rw [List.mem_singleton.1 he]; exact h.own _ hy
set_option maxRecDepth 100000 in
theorem shaAwake {t0 : TypeId} {fr0 : Nat × Nat} (w : World) (hR : Has w [(0,.cells (wv Kc) t0 fr0)]) :
  Calls Tryz.prog 72 #[] w fun e w' => e = .returned (.bool true) ∧ Ext [] w w' := by
 have hK : KT (wv Kc) := fun t h => kget h
 refine enter (vs := []) [] [(0,.cells (wv Kc) t0 fr0)] [] Tryz.func72 rfl kr (HP.ofHas hR) ?_
 refine Rg [] [] n0 trivial ?_
 refine Cfg.begL rfl ?_
 refine Le (Eff.buildSlice (e := 9) (cells := #[.string ⟨#[97,98,99]⟩]) (parts := #[(0,.string ⟨#[97,98,99]⟩)]) rfl kr (fun _ => kr)) ?_
 rintro bs ⟨hbs,nbs⟩
 refine Le (Eff.callA (vs := [.slice (some ⟨bs,0,none⟩) 1 1]) (.agg (bv abcD)) rfl Tryz.func36 rfl rfl kr (fun w1 h => shaD_abc ▸ shaSum (some ⟨bs,0,none⟩) 1 [⟨#[97,98,99]⟩] [(bs,.cells (List.map Value.string [⟨#[97,98,99]⟩]).toArray 9 (0,0))] w1 (sinS_lit bs 9 (0,0) [⟨#[97,98,99]⟩]) (Nat.le_of_ble_eq_true rfl) (has_two h (List.mem_cons_self ..) (List.mem_of_getElem? (i := 0) rfl)))) ?_
 rintro ⟨⟩ -
 refine Le (Eff.alloc (z := (.agg (bv (List.replicate 32 0)))) rfl kr) ?_
 rintro d ⟨hd,nd⟩
 refine Le (Eff.storeN (b := d) (off := 0) (vs := (bv abcD)) (n := 32) rfl kr kr kr rfl (all_bv _) 0 (cs := (bv (List.replicate 32 0))) (e := 95) kr (Nat.le_refl 32)) ?_
 rintro ⟨⟩ -
 refine CfgL.setO (congrArg (fun (xq : Array Value) => ([(d,.cells xq 95 (0,0)),(bs,.cells #[.string ⟨#[97,98,99]⟩] 9 (0,0))] : List (Nat × Obj))) (show _ = (bv abcD) from spl_all rfl)) ?_
 refine CfgL.done rfl ?_
 refine Cg (Γ' := [(1,[],.pointer (some ⟨d,0,none⟩))]) ?_
 refine Cfg.begL rfl ?_
 refine Lp 20 [dZ,(0,false,some (.int .u8 186)),dZ,dZ,(1,false,none),(1,false,some (.int .u8 120)),(1,false,none),dZ,dZ,(1,false,none),(1,false,some (.int .u8 22)),(1,false,none),dZ,dZ,(1,false,none),(1,false,some (.int .u8 191)),(1,false,none),dZ,dZ,(1,false,some (.agg (bv abcD)))] (some [22,23]) (fun S => [(0 ≤ (0 : Int) ∧ (0 : Int) < (32 : Int)),(∀ w1,S w1 → w1.cell? ⟨d,0,none⟩ = some (.int .u8 186)),((.bool true : Value) = .bool true),(0 ≤ (1 : Int) ∧ (1 : Int) < (32 : Int)),((.bool true : Value) = .bool true),(∀ w1,S w1 → w1.cell? ⟨d,1,none⟩ = some (.int .u8 120)),((.bool true : Value) = .bool true),((.bool true : Value) = .bool true),(0 ≤ (2 : Int) ∧ (2 : Int) < (32 : Int)),((.bool true : Value) = .bool true),(∀ w1,S w1 → w1.cell? ⟨d,2,none⟩ = some (.int .u8 22)),((.bool true : Value) = .bool true),((.bool true : Value) = .bool true),(0 ≤ (3 : Int) ∧ (3 : Int) < (32 : Int)),((.bool true : Value) = .bool true),(∀ w1,S w1 → w1.cell? ⟨d,3,none⟩ = some (.int .u8 191)),((.bool true : Value) = .bool true),((.bool true : Value) = .bool true),(∀ w1,S w1 → (loadVar 95 ⟨d,0,none⟩).run Tryz.prog w1 = .ok (.agg (bv abcD)) w1)]) ⟨om,(fun w1 h => h.ocell 0 rfl rfl),rfl,om,rfl,(fun w1 h => h.ocell 0 rfl rfl),rfl,rfl,om,rfl,(fun w1 h => h.ocell 0 rfl rfl),rfl,rfl,om,rfl,(fun w1 h => h.ocell 0 rfl rfl),rfl,rfl,(fun w1 h => h.oload 0 rfl Tryz.underlying95 rfl (n := 32) kr ((bv_size _).trans rfl)),trivial⟩ ?_
 refine Le (Eff.callA (vs := [.agg (bv abcD)]) (.string (hexS abcD)) rfl Tryz.func100 rfl rfl kr (fun w1 h => shaHex abcD w1 rfl)) ?_
 rintro ⟨⟩ -
 refine Lp 4 [(1,false,none),(1,false,none)] (some [0]) (fun _ => [((.bool true : Value) = .bool true),((.bool true : Value) = .bool true)]) ⟨rfl,rfl,trivial⟩ ?_
 refine CfgL.done rfl ?_
 refine Cfg.ret rfl (rs := [.tmp 0]) rfl [.bool (((hexS abcD).size : Int) == (64 : Int))] ⟨kr,trivial⟩ (fun w1 hp => ?_)
 exact ⟨congrArg (fun b => Ending.returned (.bool b)) kr,hp.ext⟩
end Go.Proofs.YtohjpggjgomgoaaGreatDoor
namespace Go.Proofs.YtohjpggjgomgoaaGreatDoor
open K
set_option linter.unusedVariables false
def w2 : List Wr := [(100,bk1 1),(150,bk1 2)]
theorem w2_w : WW w2 := fun x hx => by
 rcases List.mem_cons.1 hx with rfl | hx
 ·exact bk1_len 1
 ·rw [List.mem_singleton.1 hx]; exact bk1_len 2
def l200 : List (List UInt8) := List.replicate 200 zb
def aD4 (H : List UInt8) : DK := { fuse := -1,steps := 10,down := false,last := (((((l200.set 0 zb).set 1 (bk1 1)).set 2 (bk1 2)).set 0 H).set 100 (bk1 1)).set 150 (bk1 2),wait := [] }
theorem srt2 {a b : Int} (h : a ≤ b) : srt [a,b] = [a,b] := List.mergeSort_of_pairwise (by simp [leI,h])
theorem keys2 {q r : Int} (h : q ≤ r) (b c : List UInt8) : keysW [(q,b),(r,c)] = [q,r] := by unfold keysW wv2; exact srt2 h
theorem bar1 (s : Int) (l : List (List UInt8)) (q : Nat) (b : List UInt8) : barF (aDk s l [((q : Int),b)]) = (0,aDk (s + 1) (l.set q b) []) := by
 have h1 : spF (aDk s l [((q : Int),b)]) = (true,aDk (s + 1) l [((q : Int),b)]) := rfl
 unfold barF
 rw [h1]
 show ((0 : Int),({ fuse := -1,steps := s + 1,down := false,last := setl _ _ 0 (keysW [((q : Int),b)]) l,wait := [] } : DK)) = _
 rw [keys1]
 simp [setl,aDk,wget]
theorem bar2 (s : Int) (l : List (List UInt8)) (q r : Nat) (b c : List UInt8) (hq : q < r) : barF (aDk s l [((q : Int),b),((r : Int),c)]) = (0,aDk (s + 1) ((l.set q b).set r c) []) := by
 have h1 : spF (aDk s l [((q : Int),b),((r : Int),c)]) = (true,aDk (s + 1) l [((q : Int),b),((r : Int),c)]) := rfl
 unfold barF
 rw [h1]
 show ((0 : Int),({ fuse := -1,steps := s + 1,down := false,last := setl _ _ 0 (keysW [((q : Int),b),((r : Int),c)]) l,wait := [] } : DK)) = _
 rw [keys2 om]
 simp [setl,aDk,wget,show ¬ ((r : Int) = (q : Int)) by omega]
theorem flt0 (s : Int) (l : List (List UInt8)) (W : Wt) (q : Nat) (hq : q < l.length) : fltF (aDk s l W) (q : Int) = 0 := by
 unfold fltF
 rw [if_neg (by show ¬ (false = true); decide),if_pos]
 show (0 : Int) ≤ (q : Int) ∧ (q : Int) < (l.length : Int)
 omega
theorem wr0 (s : Int) (l : List (List UInt8)) (W : Wt) (q : Nat) (b : List UInt8) (hq : q < l.length) : writeF (aDk s l W) (q : Int) b = (0,aDk (s + 1) l (wset W q b)) := by
 have h1 : spF (aDk s l W) = (true,aDk (s + 1) l W) := rfl
 unfold writeF
 rw [if_neg (by rw [flt0 s l W q hq]; decide),h1]; rfl
theorem lay1 (s : Int) (l : List (List UInt8)) (q : Nat) (b : List UInt8) (hq : q < l.length) : layF (aDk s l []) [((q : Int),b)] = (0,aDk (s + 2) (l.set q b) []) := by
 have h0 := wr0 s l [] q b hq
 unfold layF
 rw [h0,if_neg (fun e => e rfl)]
 show barF (aDk (s + 1) l [((q : Int),b)]) = _
 rw [bar1,show s + 1 + 1 = s + 2 by omega]
theorem lay2 (s : Int) (l : List (List UInt8)) (q r : Nat) (b c : List UInt8) (hq : q < r) (hr : r < l.length) : layF (aDk s l []) [((q : Int),b),((r : Int),c)] = (0,aDk (s + 3) ((l.set q b).set r c) []) := by
 have h0 := wr0 s l [] q b om
 have h1 := wr0 (s + 1) l [((q : Int),b)] r c hr
 have e : wset [((q : Int),b)] (r : Int) c = [((q : Int),b),((r : Int),c)] := by
  simp [wset,show ¬ ((r : Int) = (q : Int)) by omega]
 rw [e] at h1
 unfold layF
 rw [h0,if_neg (fun e => e rfl)]
 show layF (aDk (s + 1) l [((q : Int),b)]) [((r : Int),c)] = _
 unfold layF
 rw [h1,if_neg (fun e => e rfl)]
 show barF (aDk (s + 1 + 1) l [((q : Int),b),((r : Int),c)]) = _
 rw [bar2 _ _ _ _ _ _ hq,show s + 1 + 1 + 1 = s + 3 by omega]
theorem laysC (D D' : DK) (l : List Wr) (ls : List (List Wr)) (h : layF D l = (0,D')) : laysF D (l :: ls) = laysF D' ls := by
 conv => lhs; unfold laysF
 rw [h,if_neg (fun e => e rfl)]
theorem lays_w2 (H : List UInt8) : laysF (newD 200) [[((0 : Int),zb)],[((1 : Int),bk1 1),((2 : Int),bk1 2)],[((0 : Int),H)],w2] = (0,aD4 H) := by
 have hl : l200.length = 200 := List.length_replicate
 have h1 := lay1 0 l200 0 zb om
 have h2 := lay2 (0 + 2) (l200.set 0 zb) 1 2 (bk1 1) (bk1 2) (by decide) (by rw [List.length_set]; omega)
 have h3 := lay1 (0 + 2 + 3) (((l200.set 0 zb).set 1 (bk1 1)).set 2 (bk1 2)) 0 H (by rw [List.length_set,List.length_set,List.length_set]; omega)
 have h4 := lay2 (0 + 2 + 3 + 2) ((((l200.set 0 zb).set 1 (bk1 1)).set 2 (bk1 2)).set 0 H) 100 150 (bk1 1) (bk1 2) (by decide) (by rw [List.length_set,List.length_set,List.length_set,List.length_set]; omega)
 exact (laysC _ _ _ _ h1).trans ((laysC _ _ _ _ h2).trans ((laysC _ _ _ _ h3).trans ((laysC _ _ _ _ h4).trans rfl)))
theorem ris_w2 : risF w2 = w2 := by
 have h : lastM w2 w2.length = [((100 : Int),0),((150 : Int),1)] := rfl
 unfold risF
 rw [h]
 unfold keysN
 show List.map _ (srt [100,150]) = _
 rw [srt2 (by decide)]
 rfl
theorem trans_w2 : transF (newD 200) 1 w2 = (0,aD4 (headF 1 w2)) := by
 unfold transF stagesF
 generalize headF 1 w2 = H
 exact lays_w2 H
theorem com_w2 : commitF ⟨0,0,newD 200⟩ w2 = (0,⟨0,1,aD4 (headF 1 w2)⟩) := by
 have h := com_ok (why := 0) (num := 0) (D := newD 200) (l := w2) rfl kr (by rw [ris_w2]; decide) (by rw [ris_w2]; decide) (by rw [ris_w2]; show (transF (newD 200) 1 w2).1 = 0; rw [trans_w2])
 rw [ris_w2] at h
 have e : transF (newD 200) ((0 + 1) % 18446744073709551616) w2 = (0,aD4 (headF 1 w2)) := trans_w2
 rw [e] at h
 exact h
theorem g200 : DG (newD 200) := DG.new (by decide)
theorem gD4 : DG (aD4 (headF 1 w2)) := by
 have h := commit_good (J := ⟨0,0,newD 200⟩) g200 w2_w
 rw [com_w2] at h; exact h
set_option maxRecDepth 100000 in
theorem last100 (H : List UInt8) : lastsF (aD4 H) 100 = bk1 1 := by kernel_rfl
set_option maxRecDepth 100000 in
theorem last150 (H : List UInt8) : lastsF (aD4 H) 150 = bk1 2 := by kernel_rfl
theorem inW_lit (b : Nat) (l : List Wr) (h : WW l) (t : TypeId) : InW [(b,.cells (jv l).toArray t (0,0))] (some ⟨b,0,none⟩) l := by
 intro _
 refine ⟨b,0,_,t,(0,0),rfl,List.mem_singleton.2 rfl,fun j hj => ?_⟩
 rw [Nat.zero_add,List.getElem?_toArray]
 have hl : (jv l).length = l.length * 513 := jv_len h
 show (jv l)[j]? = some ((jv l).getD j undef)
 rw [List.getD_eq_getElem?_getD,List.getElem?_eq_getElem om]; rfl
theorem jv_w2 : jc ((100 : Int),bk1 1) ++ jc ((150 : Int),bk1 2) = jv w2 := by show _ = [((100 : Int),bk1 1),((150 : Int),bk1 2)].flatMap jc; simp
set_option maxRecDepth 100000 in
theorem shaAwake1 {t0 : TypeId} {fr0 : Nat × Nat} (w : World) (hR : Has w [(0,.cells (wv Kc) t0 fr0)]) :
  Calls Tryz.prog 26 #[] w fun e w' => e = .returned (.bool true) ∧ Ext [] w w' := by
 refine enter (vs := []) [] [(0,.cells (wv Kc) t0 fr0)] [] Tryz.func26 rfl kr (HP.ofHas hR) ?_
 refine Rg [] [] n0 trivial ?_
 refine Cfg.begL rfl ?_
 refine Le (Eff.callA (vs := []) (.bool true) rfl Tryz.func72 rfl rfl kr (fun w1 h => shaAwake w1 (h.hasR (fun e he => he)))) ?_
 rintro ⟨⟩ -
 refine Lp 1 [] (some [0]) n0 trivial ?_
 refine CfgL.done rfl ?_
 refine Cfg.ret rfl (rs := [.tmp 0]) rfl [.bool true] ⟨kr,trivial⟩ (fun w1 hp => ?_)
 exact ⟨rfl,hp.ext⟩
set_option maxRecDepth 100000 in
theorem dAwake1 (w : World) :
  Calls Tryz.prog 27 #[] w fun e w' => e = .returned (.bool true) ∧ Ext [] w w' := by
 refine enter (vs := []) [] [] [] Tryz.func27 rfl kr (HP.start w) ?_
 refine Rg [] [] n0 trivial ?_
 refine Cfg.begL rfl ?_
 refine Le (Eff.callA (vs := []) (.bool true) rfl Tryz.func73 rfl rfl kr (fun w1 _ => dAwake w1)) ?_
 rintro ⟨⟩ -
 refine Lp 1 [] (some [0]) n0 trivial ?_
 refine CfgL.done rfl ?_
 refine Cfg.ret rfl (rs := [.tmp 0]) rfl [.bool true] ⟨kr,trivial⟩ (fun w1 hp => ?_)
 exact ⟨rfl,hp.ext⟩
set_option maxRecDepth 100000 in
set_option maxHeartbeats 8000000 in
theorem awakeW {t0 : TypeId} {fr0 : Nat × Nat} (w : World) (hb : w.heap[0]? = some (.cells (wv Kc) t0 fr0)) :
  Calls Tryz.prog 5 #[] w fun e w' => e = .returned (.bool true) ∧ Ext [] w w' := by
 have hR : Has w [(0,Obj.cells (wv Kc) t0 fr0)] := fun e he => by rw [List.mem_singleton.1 he]; exact hb
 have hop := open_new (n := 200) (by decide)
 refine enter (vs := []) [] [(0,Obj.cells (wv Kc) t0 fr0)] [] Tryz.func5 rfl kr (HP.ofHas hR) ?_
 refine Rg [] [] n0 trivial ?_
 refine Cfg.begL rfl ?_
 refine Le (Eff.callH (vs := [.int .i64 200]) (fun y : DM × MX => .tuple #[.pointer (some ⟨y.1.d,0,none⟩),.int .i64 0]) [] (fun y => dO (newD 200) y.1 y.2) (fun y => MapOk y.2.1 y.2.2 []) [] [] rfl rfl Tryz.func13 rfl rfl kr (fun w1 h _ _ => dNew 200 w1 (by decide))) ?_
 rintro ⟨m,x⟩ hmo
 refine Lp 5 [] (some [1]) n0 trivial ?_
 refine CfgL.done rfl ?_
 refine Cfg.begL rfl ?_
 refine Lp 1 [] none n0 trivial ?_
 refine Le (Eff.callH (vs := [.pointer (some ⟨m.d,0,none⟩)]) (fun z : MX × Nat => .tuple #[.pointer (some ⟨z.2,0,none⟩),.int .i64 0]) (dO (newD 200) m x) (fun z => (z.2,Obj.cells #[.int .i64 (0 : Int),.pointer (some ⟨m.d,0,none⟩),.int .u64 (0 : Int)] 121 (0,0)) :: dO (newD 200) m z.1) (fun z => MapOk z.1.1 z.1.2 (wv2 (newD 200).wait)) [] [] rfl rfl Tryz.func15 rfl rfl kr (fun w1 h hA1 hd1 => by have h9 := jOpenOk m x (newD 200) t0 fr0 w1 g200 hmo ⟨Int.le_refl 0,by show (0 : Int) ≤ 4611686018426000000; decide⟩ hA1 hd1 (h.hasR (fun e he => he)) (apart (Fl := []) (A := dO (newD 200) m x) (T := []) h (fun e he => he)) (by rw [hop]); rw [hop] at h9; exact h9)) ?_
 rintro ⟨x2,jb⟩ hmo_x2
 refine Lp 5 [] (some [1,3,4]) n0 trivial ?_
 refine CfgL.done rfl ?_
 refine Cfg.begL rfl ?_
 refine Lp 7 [dZ,dZ,dZ,(1,false,none),(1,false,none)] (some [1,3,21]) (fun _ => [((.bool false : Value) = .bool false),((.bool false : Value) = .bool false)]) ⟨rfl,rfl,trivial⟩ ?_
 refine Le (Eff.callA (vs := []) (.bool true) rfl Tryz.func26 rfl rfl kr (fun w1 h => shaAwake1 w1 (h.hasR (fun e he => he)))) ?_
 rintro ⟨⟩ -
 refine Lp 3 [(1,false,none)] (some [1,3,25]) (fun _ => [((.bool false : Value) = .bool false)]) ⟨rfl,trivial⟩ ?_
 refine Le (Eff.callA (vs := []) (.bool true) rfl Tryz.func27 rfl rfl kr (fun w1 _ => dAwake1 w1)) ?_
 rintro ⟨⟩ -
 refine Lp 2 [(1,false,none)] (some [1,3,28]) (fun _ => [((.bool false : Value) = .bool false)]) ⟨rfl,trivial⟩ ?_
 refine CfgL.done rfl ?_
 refine Cfg.condF rfl (b := false) kr rfl ?_
 refine Cfg.begL rfl ?_
 refine CfgL.pure 5 [dZ,(0,false,some (.agg (bv (bk1 1)))),(0,false,some (.agg (jc ((100 : Int),bk1 1)).toArray)),(0,false,some (.agg (bv (bk1 2)))),(0,false,some (.agg (jc ((150 : Int),bk1 2)).toArray))] (some [1,3,29,31,33]) (Γ' := [(33,[],.agg (jc ((150 : Int),bk1 2)).toArray),(31,[],.agg (jc ((100 : Int),bk1 1)).toArray),(29,[],.pointer (some ⟨jb,0,none⟩)),(3,[],.pointer (some ⟨jb,0,none⟩)),(1,[],.pointer (some ⟨m.d,0,none⟩))]) (nd := (fun S => [(∀ w1,S w1 → (Instr.build 25 #[(0,.int .u8 1)]).run Tryz.prog w1 = .ok (.agg (bv (bk1 1))) w1),(∀ w1,S w1 → (Instr.build 79 #[(0,.int .i64 100),(1,.agg (bv (bk1 1)))]).run Tryz.prog w1 = .ok (.agg (jc ((100 : Int),bk1 1)).toArray) w1),(∀ w1,S w1 → (Instr.build 25 #[(0,.int .u8 2)]).run Tryz.prog w1 = .ok (.agg (bv (bk1 2))) w1),(∀ w1,S w1 → (Instr.build 79 #[(0,.int .i64 150),(1,.agg (bv (bk1 2)))]).run Tryz.prog w1 = .ok (.agg (jc ((150 : Int),bk1 2)).toArray) w1)])) kr (fun _ => kr) ⟨(fun _ _ => kr),(fun w1 _ => build_wr 100 (bk1_len 1) w1),(fun _ _ => kr),(fun w1 _ => build_wr 150 (bk1_len 2) w1),trivial⟩ ?_
 refine Le (Eff.buildAgg2 (u := (jc ((100 : Int),bk1 1)).toArray) (v := (jc ((150 : Int),bk1 2)).toArray) rfl kr kr Tryz.underlying28 kr (z := (.agg (jc wz).toArray)) kr (show (jc ((100 : Int),bk1 1)).toArray.size = 513 from List.size_toArray.trans (jc_len (bk1_len 1))) (show (jc ((150 : Int),bk1 2)).toArray.size = 513 from List.size_toArray.trans (jc_len (bk1_len 2))) (by decide) (by decide)) ?_
 rintro kb ⟨hkb,nkb⟩
 refine CfgL.setO (O' := ([(kb,Obj.cells ((jv w2).toArray) 79 (0,0))] ++ (((jb,Obj.cells #[.int .i64 (0 : Int),.pointer (some ⟨m.d,0,none⟩),.int .u64 (0 : Int)] 121 (0,0)) :: dO (newD 200) m x2) ++ []))) (congrArg (fun q : List Value => (([(kb,Obj.cells q.toArray 79 (0,0))] ++ (((jb,Obj.cells #[.int .i64 (0 : Int),.pointer (some ⟨m.d,0,none⟩),.int .u64 (0 : Int)] 121 (0,0)) :: dO (newD 200) m x2) ++ [])) : List (Nat × Obj))) jv_w2) ?_
 refine Le (Eff.callH (vs := [.pointer (some ⟨jb,0,none⟩),.slice (some ⟨kb,0,none⟩) 2 2]) (fun _ : MX => .int .i64 0) ((jb,Obj.cells #[.int .i64 (0 : Int),.pointer (some ⟨m.d,0,none⟩),.int .u64 (0 : Int)] 121 (0,0)) :: dO (newD 200) m x2) (fun z => (jb,Obj.cells #[.int .i64 (0 : Int),.pointer (some ⟨m.d,0,none⟩),.int .u64 (1 : Int)] 121 (0,0)) :: dO (aD4 (headF 1 w2)) m z) (fun z => MapOk z.1 z.2 (wv2 (aD4 (headF 1 w2)).wait)) [(kb,.cells ((jv w2).toArray) 79 (0,0))] [] rfl rfl Tryz.func18 rfl rfl kr (fun w1 h hA1 hd1 => by have h9 := jCommit jb 0 0 m x2 (newD 200) (some ⟨kb,0,none⟩) 2 w2 [(kb,Obj.cells (jv w2).toArray 79 (0,0))] t0 fr0 w1 g200 hmo_x2 hA1 hd1 (inW_lit kb w2 w2_w 79) w2_w (by decide) ⟨Int.le_refl 0,by show (0 : Int) ≤ 4611686018425000000; decide⟩ (fun e he => (List.mem_cons.1 he).elim (fun h1 => h1 ▸ h.ro _ (List.mem_cons_self ..)) (fun h1 => h.own e (List.mem_append_left _ h1))) (fun e he => (List.mem_cons.1 he).elim (fun h1 => h1 ▸ apart (Fl := [(kb,Obj.cells ((jv w2).toArray) 79 (0,0))]) (A := ((jb,Obj.cells #[.int .i64 (0 : Int),.pointer (some ⟨m.d,0,none⟩),.int .u64 (0 : Int)] 121 (0,0)) :: dO (newD 200) m x2)) (T := []) (L := [(0,Obj.cells (wv Kc) t0 fr0)]) h (fun e he => he) _ (List.mem_singleton.2 rfl)) (fun h1 => mid_apart (F := [(kb,Obj.cells ((jv w2).toArray) 79 (0,0))]) (A := ((jb,Obj.cells #[.int .i64 (0 : Int),.pointer (some ⟨m.d,0,none⟩),.int .u64 (0 : Int)] 121 (0,0)) :: dO (newD 200) m x2)) (T := []) h e (.inl h1))); rw [com_w2] at h9; exact h9)) ?_
 rintro x3 hmo_x3
 refine Lp 1 [] (some [1,3,5]) n0 trivial ?_
 refine CfgL.done rfl ?_
 refine Cfg.begL rfl ?_
 refine Lp 4 [dZ,dZ,dZ,(1,false,none)] (some [1,3,38,39]) (fun _ => [((.bool true : Value) = .bool true)]) ⟨rfl,trivial⟩ ?_
 refine Le (Eff.callA (vs := [.pointer (some ⟨m.d,0,none⟩)]) (.int .i64 10) rfl Tryz.func28 rfl rfl kr (fun w1 h => dSteps m x3 (aD4 (headF 1 w2)) w1 (fun e he => h.own e (List.mem_append_right [(kb,Obj.cells ((jv w2).toArray) 79 (0,0))] (List.mem_append_left _ (List.mem_cons_of_mem _ he)))))) ?_
 rintro ⟨⟩ -
 refine Lp 4 [(1,false,none),dZ,dZ,(1,false,none)] (some [1,3,43,44]) (fun _ => [((.bool true : Value) = .bool true),((.bool true : Value) = .bool true)]) ⟨rfl,rfl,trivial⟩ ?_
 refine Le (Eff.callA (vs := [.pointer (some ⟨m.d,0,none⟩),.int .i64 100]) (.agg (bv (bk1 1))) rfl Tryz.func29 rfl rfl kr (fun w1 h => by have h9 := dLasts m x3 (aD4 (headF 1 w2)) 100 w1 gD4 hmo_x3 (fun e he => h.own e (List.mem_append_right [(kb,Obj.cells ((jv w2).toArray) 79 (0,0))] (List.mem_append_left _ (List.mem_cons_of_mem _ he)))); rw [last100] at h9; exact h9)) ?_
 rintro ⟨⟩ -
 refine Lp 5 [(1,false,some (.int .u8 1)),(1,false,none),dZ,dZ,(1,false,none)] (some [3,49,50]) (fun _ => [((.bool true : Value) = .bool true),(0 ≤ (0 : Int) ∧ (0 : Int) < (512 : Int)),(((bv (bk1 1)))[0]? = some (.int .u8 1)),((.bool true : Value) = .bool true),((.bool true : Value) = .bool true)]) ⟨rfl,om,kr,rfl,rfl,trivial⟩ ?_
 refine Le (Eff.callA (vs := [.pointer (some ⟨m.d,0,none⟩),.int .i64 150]) (.agg (bv (bk1 2))) rfl Tryz.func29 rfl rfl kr (fun w1 h => by have h9 := dLasts m x3 (aD4 (headF 1 w2)) 150 w1 gD4 hmo_x3 (fun e he => h.own e (List.mem_append_right [(kb,Obj.cells ((jv w2).toArray) 79 (0,0))] (List.mem_append_left _ (List.mem_cons_of_mem _ he)))); rw [last150] at h9; exact h9)) ?_
 rintro ⟨⟩ -
 refine Lp 5 [(1,false,some (.int .u8 2)),(1,false,none),dZ,dZ,(1,false,none)] (some [55,56]) (fun _ => [((.bool true : Value) = .bool true),(0 ≤ (0 : Int) ∧ (0 : Int) < (512 : Int)),(((bv (bk1 2)))[0]? = some (.int .u8 2)),((.bool true : Value) = .bool true),((.bool true : Value) = .bool true)]) ⟨rfl,om,kr,rfl,rfl,trivial⟩ ?_
 refine Le (Eff.callA (vs := [.pointer (some ⟨jb,0,none⟩)]) (.int .u64 1) rfl Tryz.func20 rfl rfl kr (fun w1 h => jNumber jb 0 1 m x3 (aD4 (headF 1 w2)) w1 (fun e he => h.own e (List.mem_append_right [(kb,Obj.cells ((jv w2).toArray) 79 (0,0))] (List.mem_append_left _ he))))) ?_
 rintro ⟨⟩ -
 refine Lp 3 [(1,false,none)] (some [0]) (fun _ => [((.bool true : Value) = .bool true)]) ⟨rfl,trivial⟩ ?_
 refine CfgL.done rfl ?_
 refine Cfg.ret rfl (rs := [.tmp 0]) rfl [.bool true] ⟨kr,trivial⟩ (fun w1 hp => ?_)
 exact ⟨by simp [resOf],hp.ext⟩
end Go.Proofs.YtohjpggjgomgoaaGreatDoor
