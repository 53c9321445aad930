/- Texts on which the proof of this claim stands: Jp6, Fl5, K25, Fl6, Fl7, Fl8, Fl9, K37, Fl10. -/
import Derived.Test.YtfgdepggdiibdaaGreatDoorP5
import Derived.Test.YtfgdepggdiibdaaGreatDoorP2
import Derived.Test.YtfgdepggdiibdaaGreatDoorP4
import Derived.Test.YtfgdepggdiibdaaGreatDoorP3
import Derived.Test.YtfgdepggdiibdaaGreatDoorP1
namespace Go.Proofs.YtfgdepggdiibdaaGreatDoor
open K
set_option linter.unusedVariables false
theorem mem_has {w0 w : World} {M : List Nat} {R O L : List (Nat × Obj)} (h : HP w0 M R O w) (hL : L.Sublist O) : Has w L := fun e he => h.own e (hL.subset he)
theorem rows_app (a b : List (List UInt8)) : rows (a ++ b) = rows a ++ rows b := by simp [rows]
theorem rows_one (b : List UInt8) : rows [b] = (bv b).toList := by simp [rows]
theorem parL_w {H : List UInt8} {bs : List (List UInt8)} (h : W5 bs) : WW (parL H bs) := by
 unfold parL; split
 ·exact rowP_w h _ _
 ·exact WW.nil
theorem inB_own {o : K.Own} {e : TypeId} {l : List (List UInt8)} (hok : OwnOk o 512 l.length (rows l)) : InB (o.o e (rows l)) o.a l := by
 intro hn
 obtain ⟨p,rfl⟩ := own_some hok om
 refine ⟨p.1,0,_,e,(0,0),rfl,mH,fun j hj => ?_⟩
 have hl := hok.len
 rw [Nat.zero_add]
 simp only [List.getElem?_toArray]
 rw [List.getElem?_append_left om,List.getD_eq_getElem?_getD,List.getElem?_eq_getElem om]; rfl
theorem mid_apart {w0 w : World} {M : List Nat} {R F A T : List (Nat × Obj)} (h : HP w0 M R (F ++ (A ++ T)) w) : ∀ e,(e ∈ F ∨ e ∈ T) → e.1 ∉ A.map (·.1) := fun e he hm => by
 obtain ⟨e2,h2,h3⟩ := List.mem_map.1 hm
 have hd := h.dist
 rw [List.map_append,List.map_append] at hd
 have h4 := List.nodup_append.1 hd
 rcases he with he | he
 ·exact h4.2.2 e.1 (List.mem_map.2 ⟨e,he,rfl⟩) e2.1 (mL (List.mem_map.2 ⟨e2,h2,rfl⟩)) h3.symm
 ·have h5 := List.nodup_append.1 h4.2.1
  exact h5.2.2 e2.1 (List.mem_map.2 ⟨e2,h2,rfl⟩) e.1 (List.mem_map.2 ⟨e,he,rfl⟩) h3
theorem jblk_w {D : DK} (h : DG D) (i : Nat) : W5 (jblk D i) := fun x hx => by
 obtain ⟨k,_,rfl⟩ := List.mem_map.1 hx
 exact readF_len h _
theorem jblk_rows (D : DK) (i : Nat) : rows (jblk D i) ++ (bv (readF D ((i + 1 : Nat) : Int))).toList = rows (jblk D (i + 1)) := by
 rw [jblk_next,rows_app,rows_one]
theorem flt_pos {D : DK} (h : fltF D 0 = 0) : 0 < D.last.length := by
 have := fltF_in h; omega
theorem inD_w {l : List Wr} (h : WW l) (D : DK) : WW (inD D l) := fun x hx => h x (List.mem_filter.1 hx).1
theorem inD_len (D : DK) (l : List Wr) : (inD D l).length ≤ l.length := List.length_filter_le _ _
theorem parL_96 {H : List UInt8} {bs : List (List UInt8)} : (parL H bs).length ≤ 96 := by
 unfold parL; split
 ·rename_i hg
  rw [rowP_len]
  unfold parG at hg
  simp only [Bool.and_eq_true,decide_eq_true_eq] at hg
  omega
 ·exact Nat.zero_le _
theorem op_flt {D : DK} (h : fltF D 0 ≠ 0) : openF D = (fltF D 0,0,D) := if_pos h
theorem op_no {D : DK} (h : fltF D 0 = 0) (h2 : openG D = false) : openF D = (0,0,D) := (if_neg (fun e => e h)).trans (if_pos h2)
theorem op_err {D : DK} (h : fltF D 0 = 0) (h2 : openG D = true) (h3 : (layF D (openL D)).1 ≠ 0) : openF D = ((layF D (openL D)).1,0,(layF D (openL D)).2) := (if_neg (fun e => e h)).trans ((if_neg (by rw [h2]; decide)).trans (if_pos h3))
theorem op_ok {D : DK} (h : fltF D 0 = 0) (h2 : openG D = true) (h3 : (layF D (openL D)).1 = 0) : openF D = (0,parN (readF D 0) (jrows D),(layF D (openL D)).2) := (if_neg (fun e => e h)).trans ((if_neg (by rw [h2]; decide)).trans (if_neg (fun e => e h3)))
theorem op_has {w0 w : World} {M : List Nat} {R L S T A : List (Nat × Obj)} {jb : Nat × Obj} (h : HP w0 M R (L ++ (S ++ (A ++ T))) w) (hj : jb ∈ L) : Has w (jb :: S) := fun e he => by
 rcases List.mem_cons.1 he with rfl | he
 ·exact h.own _ (mL hj)
 ·exact h.own _ (mR (mL he))
theorem op_apart {w0 w : World} {M : List Nat} {R L S T A : List (Nat × Obj)} {jb : Nat × Obj} (h : HP w0 M R (L ++ (S ++ (A ++ T))) w) (hj : jb ∈ L) : ∀ e ∈ jb :: S,e.1 ∉ A.map (·.1) := fun e he => by
 have h9 : HP w0 M R ((L ++ S) ++ (A ++ T)) w := by rw [List.append_assoc]; exact h
 refine mid_apart h9 e (.inl ?_)
 rcases List.mem_cons.1 he with rfl | he
 ·exact mL hj
 ·exact mR he
set_option maxRecDepth 100000 in
set_option maxHeartbeats 8000000 in
theorem jOpen (m : DM) (x : MX) (D : DK) (t0 : TypeId) (fr0 : Nat × Nat) (w : World) (hg : DG D) (hmo : MapOk x.1 x.2 (wv2 D.wait)) (hs : 0 ≤ D.steps ∧ D.steps ≤ 4611686018426000000) (hA : Has w (dO D m x)) (hd : ((dO D m x).map (·.1)).Nodup) (hR : Has w [(1,Obj.cells (wv Kc) t0 fr0)]) (hnr : ∀ e ∈ [(1,Obj.cells (wv Kc) t0 fr0)],e.1 ∉ (dO D m x).map (·.1)) :
  Calls Tryz.prog 30 #[.pointer (some ⟨m.d,0,none⟩)] w fun e w' => (∃ z : MX × Nat,(openF D).1 = 0 ∧ MapOk z.1.1 z.1.2 (wv2 (openF D).2.2.wait) ∧ e = .returned (.tuple #[.pointer (some ⟨z.2,0,none⟩),.int .i64 0]) ∧ ∃ R1,HP w ((dO D m x).map (·.1)) R1 ((z.2,Obj.cells #[.int .i64 (0 : Int),.pointer (some ⟨m.d,0,none⟩),.int .u64 ((openF D).2.1 : Int)] 143 (0,0)) :: dO (openF D).2.2 m z.1) w') ∨ (∃ y : MX,(openF D).1 ≠ 0 ∧ MapOk y.1 y.2 (wv2 (openF D).2.2.wait) ∧ e = .returned (.tuple #[.pointer none,.int .i64 (openF D).1]) ∧ ∃ R1,HP w ((dO D m x).map (·.1)) R1 (dO (openF D).2.2 m y) w') := by
 have hnl := hg.n
 obtain ⟨nB,hnB⟩ : ∃ n,n = min 97 D.last.length - 1 := ⟨_,rfl⟩
 obtain ⟨mn,hmn⟩ : ∃ q : Nat,q = min 97 D.last.length := ⟨_,rfl⟩
 have hmm : (if (D.last.length : Int) < (97 : Int) then (D.last.length : Int) else (97 : Int)) = (mn : Int) := by rw [hmn]; split <;> omega
 refine enter (vs := [.pointer (some ⟨m.d,0,none⟩)]) ((dO D m x).map (·.1)) [(1,Obj.cells (wv Kc) t0 fr0)] ([] ++ (dO D m x ++ [])) Tryz.func30 rfl kr (by rw [List.append_nil]; exact HP.ofL hA hd hR hnr) ?_
 refine Cfg.begL rfl ?_
 refine Le (Eff.box (v := .pointer (some ⟨m.d,0,none⟩)) rfl kr) ?_
 rintro kb ⟨hkb,nkb⟩
 refine Lp 2 [] (some [1]) n0 trivial ?_
 refine CfgL.done rfl ?_
 refine Cfg.begL rfl ?_
 refine Lp 1 [(dS (.pointer (some ⟨m.d,0,none⟩)))] none (fun S => [(cE S kb 0 (.pointer (some ⟨m.d,0,none⟩)))]) ⟨(oC 0 rfl rfl),trivial⟩ ?_
 refine Le (Eff.callA (vs := [.pointer (some ⟨m.d,0,none⟩),.int .i64 0]) (.tuple #[.agg (bv (readF D 0)),.int .i64 (fltF D 0)]) rfl Tryz.func10 rfl rfl kr (fun w1 h => dRead m x D 0 w1 hg hmo (mem_has h (List.Sublist.trans (List.sublist_append_left (dO D m x) _) (List.sublist_append_right [(kb,Obj.cells #[.pointer (some ⟨m.d,0,none⟩)] 26 (0,0))] _))))) ?_
 rintro ⟨⟩ -
 refine Lp 3 [] (some [1,18,19]) n0 trivial ?_
 refine Le (Eff.alloc (z := (.agg (bv (List.replicate 512 0)))) rfl kr) ?_
 rintro hb ⟨hhb,nhb⟩
 refine Le (Eff.storeN (b := hb) (off := 0) (vs := (bv (readF D 0))) (n := 512) rfl kr kr kr ((bv_size _).trans (readF_len hg _)) (all_bv _) 0 (cs := (bv (List.replicate 512 0))) (e := 37) kr (by rw [zsz512]; omega)) ?_
 rintro ⟨⟩ -
 refine CfgL.setO (congrArg (fun (xq : Array Value) => (([(hb,.cells xq 37 (0,0)),(kb,.cells #[.pointer (some ⟨m.d,0,none⟩)] 26 (0,0))] ++ (dO D m x ++ [])) : LO)) (show _ = (bv (readF D 0)) from spl_all (((bv_size _).trans (readF_len hg _)).trans zsz512.symm))) ?_
 refine Lp 1 [] (some [1,4,5]) n0 trivial ?_
 refine CfgL.done rfl ?_
 refine Rg [1,4,5,21] [] n0 trivial ?_
 refine Cfg.cond rfl (b := ((fltF D 0) != (0 : Int))) kr (fun c1r => ?_) (fun c1r => ?_)
 ·have c1 := (bne_iff_ne.1 c1r)
  refine Rg [2,3] [] n0 trivial ?_
  refine Cfg.ret rfl (rs := [.tmp 2,.tmp 3]) rfl [.pointer none,.int .i64 (fltF D 0)] ⟨kr,by kernel_rfl,trivial⟩ (fun w1 hp => ?_)
  have hx : openF D = (fltF D 0,0,D) := op_flt c1
  rw [hx]
  have h9 : HP w ((dO D m x).map (·.1)) [(1,Obj.cells (wv Kc) t0 fr0)] (([] : LO) ++ (dO D m x ++ [])) w1 := hp.sub (.cons _ (.cons _ (List.Sublist.append (l₁ := dO D m x) (l₂ := dO D m x) (r₁ := []) slr (List.nil_sublist _))))
  rw [List.append_nil] at h9
  exact .inr ⟨x,c1,hmo,rfl,_,h9⟩
 ·have c1 := (bne_eq_false_iff_eq.1 c1r)
  have hf0 : fltF D 0 = 0 := c1
  have hlp := flt_pos hf0
  refine Rg [1,4,6] [] n0 trivial ?_
  refine Cfg.reg rfl [1,4,6,7] [] (Γ' := [(7,[],.int .i64 1),(6,[],.slice none 0 0),(4,[],pT hb),(1,[],pT kb)]) (nd := (fun _ => [])) (fun _ => kr) trivial ?_
  refine Cfg.setS 7 (congrArg (fun (xq : Int) => (.int .i64 xq : Value)) (show 1 = (((0 + 1) : Nat) : Int) from rfl)) ?_
  refine Cfg.loop rfl (ι := Nat × K.Own) (fun (xz : Nat × K.Own) => match xz with | (i,ob) => [(7,[],.int .i64 (((i + 1) : Nat) : Int)),(6,[],.slice (Own.a ob) i (Own.c ob)),(4,[],pT hb),(1,[],pT kb)]) (fun (xz : Nat × K.Own) => match xz with | (i,ob) => ([(hb,.cells (bv (readF D 0)) 37 (0,0)),(kb,.cells #[.pointer (some ⟨m.d,0,none⟩)] 26 (0,0))] ++ (dO D m x ++ (Own.o 37 (rows (jblk D i)) ob ++ [])))) (fun (xz : Nat × K.Own) => match xz with | (i,ob) => (i ≤ nB) ∧ (OwnOk ob 512 i (rows (jblk D i)))) (fun (xz : Nat × K.Own) => match xz with | (i,ob) => nB - i) (0,none) ?_ (Conv.mk kr) slr ?_
  ·exact ⟨Nat.zero_le _,OwnOk.none _⟩
  ·rintro ⟨i,ob⟩ ⟨hi,hob⟩
   refine Cfg.begL rfl ?_
   refine Lp 2 [dZ,(dS (.pointer (some ⟨m.d,0,none⟩)))] none (fun S => [(cE S kb 0 (.pointer (some ⟨m.d,0,none⟩)))]) ⟨(oC 1 rfl rfl),trivial⟩ ?_
   refine Le (Eff.callA (vs := [.pointer (some ⟨m.d,0,none⟩)]) (.int .i64 (D.last.length : Int)) rfl Tryz.func60 rfl rfl kr (fun w1 h => dSectors m x D w1 (mem_has h (List.Sublist.trans (List.sublist_append_left (dO D m x) _) (List.sublist_append_right [(hb,Obj.cells (bv (readF D 0)) 37 (0,0)),(kb,Obj.cells #[.pointer (some ⟨m.d,0,none⟩)] 26 (0,0))] _))))) ?_
   rintro ⟨⟩ -
   refine Le (Eff.minI2 (k := .i64) (a := (97 : Int)) (b := (D.last.length : Int)) (mn : Int) hmm rfl kr kr) ?_
   rintro ⟨⟩ -
   refine Lp 1 [] (some [1,4,6,7,27]) n0 trivial ?_
   refine CfgL.done rfl ?_
   refine Cfg.cond rfl (b := (decide ((((i + 1) : Nat) : Int) < (mn : Int)))) kr (fun c2r => ?_) (fun c2r => ?_)
   ·have c2 := (dT c2r)
    refine Cfg.begL rfl ?_
    refine Lp 2 [(dS (.pointer (some ⟨m.d,0,none⟩)))] (some [1,4,6,7,31,32]) (fun S => [(cE S kb 0 (.pointer (some ⟨m.d,0,none⟩)))]) ⟨(oC 1 rfl rfl),trivial⟩ ?_
    refine Le (Eff.callA (vs := [.pointer (some ⟨m.d,0,none⟩),.int .i64 (((i + 1) : Nat) : Int)]) (.tuple #[.agg (bv (readF D ((i + 1 : Nat) : Int))),.int .i64 0]) rfl Tryz.func10 rfl rfl kr (fun w1 h => by have h9 := dRead m x D ((i + 1 : Nat) : Int) w1 hg hmo (mem_has h (List.Sublist.trans (List.sublist_append_left (dO D m x) _) (List.sublist_append_right [(hb,Obj.cells (bv (readF D 0)) 37 (0,0)),(kb,Obj.cells #[.pointer (some ⟨m.d,0,none⟩)] 26 (0,0))] _))); rw [flt_all hf0 om] at h9; exact h9)) ?_
    rintro ⟨⟩ -
    refine Lp 3 [] (some [1,4,6,7,34,35]) n0 trivial ?_
    refine Le (Eff.alloc (z := (.agg (bv (List.replicate 512 0)))) rfl kr) ?_
    rintro xb ⟨hxb,nxb⟩
    refine Le (Eff.storeN (b := xb) (off := 0) (vs := (bv (readF D ((i + 1 : Nat) : Int)))) (n := 512) rfl kr kr kr ((bv_size _).trans (readF_len hg _)) (all_bv _) 0 (cs := (bv (List.replicate 512 0))) (e := 37) kr (by rw [zsz512]; omega)) ?_
    rintro ⟨⟩ -
    refine CfgL.setO (congrArg (fun (xq : Array Value) => (([(xb,.cells xq 37 (0,0)),(hb,.cells (bv (readF D 0)) 37 (0,0)),(kb,.cells #[.pointer (some ⟨m.d,0,none⟩)] 26 (0,0))] ++ (dO D m x ++ (Own.o 37 (rows (jblk D i)) ob ++ []))) : LO)) (show _ = (bv (readF D ((i + 1 : Nat) : Int))) from spl_all (((bv_size _).trans (readF_len hg _)).trans zsz512.symm))) ?_
    refine Lp 1 [] (some [1,4,6,7,8,9]) n0 trivial ?_
    refine CfgL.done rfl ?_
    refine Rg [1,4,6,7,8,9,37] [] n0 trivial ?_
    refine Cfg.condF rfl (b := false) kr rfl ?_
    refine Cfg.begL rfl ?_
    refine Lp 2 [dZ,(dS (.agg (bv (readF D ((i + 1 : Nat) : Int)))))] (some [1,4,6,7,39,40]) (fun S => [(∀ w1,S w1 → (loadVar 37 ⟨xb,0,none⟩).run Tryz.prog w1 = .ok (.agg (bv (readF D ((i + 1 : Nat) : Int)))) w1)]) ⟨(fun w1 h => h.oload 0 rfl Tryz.underlying37 rfl (n := 512) kr ((bv_size _).trans (readF_len hg _))),trivial⟩ ?_
    refine Le (Eff.buildAgg (vs := (bv (readF D ((i + 1 : Nat) : Int)))) (n := 512) rfl kr Tryz.underlying71 kr (z := (.agg (bv (List.replicate 512 0)))) kr ((bv_size _).trans (readF_len hg _)) (by decide) (by decide)) ?_
    rintro sb4 ⟨hsb4,nsb4⟩
    refine Le (Eff.appendF rfl 512 512 Tryz.underlying71 kr (z := (.agg (bv (List.replicate 512 0)))) kr kr ob (xs := (rows (jblk D i))) hob kr (b2 := sb4) (off2 := 0) (m := 1) (c2 := 1) kr ((bv (readF D ((i + 1 : Nat) : Int))).toList) (by rw [Array.length_toList,bv_size,readF_len hg _]) (all_bv _) ([(sb4,.cells (bv (readF D ((i + 1 : Nat) : Int))) 37 (0,0)),(xb,.cells (bv (readF D ((i + 1 : Nat) : Int))) 37 (0,0)),(hb,.cells (bv (readF D 0)) 37 (0,0)),(kb,.cells #[.pointer (some ⟨m.d,0,none⟩)] 26 (0,0))] ++ dO D m x) [] (by rfl) (fun w1 h j v hj => by rw [Nat.zero_add]; exact h.ocell 0 rfl (by rw [← Array.getElem?_toList]; exact hj)) om om) ?_
    rintro o5 ko5
    refine CfgL.pure 1 [] (some [1,4,6,7]) (Γ' := [(6,[],.slice (Own.a o5) ((i + 1)) (Own.c o5)),(7,[],.int .i64 (((i + 1) : Nat) : Int)),(4,[],pT hb),(1,[],pT kb)]) (nd := (fun _ => [])) kr (fun _ => kr) trivial ?_
    refine CfgL.done rfl ?_
    refine Rg [1,4,6,7] [] (fun _ => [(i6 ((((i + 1) : Nat) : Int) + 1))]) ⟨om,trivial⟩ ?_
    have hrv := jblk_rows D i
    refine Cfg.setO (congrArg (fun (xq : List Value) => (([(sb4,.cells (bv (readF D ((i + 1 : Nat) : Int))) 37 (0,0)),(xb,.cells (bv (readF D ((i + 1 : Nat) : Int))) 37 (0,0)),(hb,.cells (bv (readF D 0)) 37 (0,0)),(kb,.cells #[.pointer (some ⟨m.d,0,none⟩)] 26 (0,0))] ++ (dO D m x ++ (Own.o 37 xq o5 ++ []))) : LO)) (show _ = (rows (jblk D (i + 1))) from hrv)) ?_
    refine Cfg.again rfl (i + 1,o5) ⟨by omega,hrv ▸ ko5⟩ (by show nB - (i + 1) < nB - i; omega) (Conv.mk kr) (.cons _ (.cons _ slr))
   ·have c2 := (dF c2r)
    obtain rfl : i = nB := by omega
    have hjl : (jrows D).length = i := by unfold jrows; rw [jblk_len]; exact hnB.symm
    have hji : jblk D i = jrows D := by unfold jrows; rw [← hnB]
    rw [hji] at hob
    have hob2 : OwnOk ob 512 (jrows D).length (rows (jrows D)) := by rw [hjl]; exact hob
    refine Cfg.setO (congrArg (fun (xq : List Value) => (([(hb,.cells (bv (readF D 0)) 37 (0,0)),(kb,.cells #[.pointer (some ⟨m.d,0,none⟩)] 26 (0,0))] ++ (dO D m x ++ (Own.o 37 xq ob ++ []))) : LO)) (show _ = (rows (jrows D)) from by rw [hji])) ?_
    refine Conv.cfg (Γ' := [(6,[],.slice (Own.a ob) i (Own.c ob)),(4,[],pT hb),(1,[],pT kb)]) (Conv.mk kr) ?_
    refine Cfg.setS 6 (congrArg (fun (xq : Nat) => (.slice (Own.a ob) xq (Own.c ob) : Value)) (show i = ((jrows D).length) from hjl.symm)) ?_
    refine Cfg.begL rfl ?_
    refine Lp 2 [(dS (.pointer (some ⟨m.d,0,none⟩))),(dS (.agg #[.int .i64 0,.pointer (some ⟨m.d,0,none⟩),.int .u64 0]))] (some [1,4,6,44]) (fun S => [(cE S kb 0 (.pointer (some ⟨m.d,0,none⟩))),(∀ w1,S w1 → (Instr.build 143 #[(1,.pointer (some ⟨m.d,0,none⟩))]).run Tryz.prog w1 = .ok (.agg #[.int .i64 0,.pointer (some ⟨m.d,0,none⟩),.int .u64 0]) w1)]) ⟨(oC 1 rfl rfl),(fun _ _ => kr),trivial⟩ ?_
    refine Le (Eff.box (v := .agg #[.int .i64 0,.pointer (some ⟨m.d,0,none⟩),.int .u64 0]) rfl kr) ?_
    rintro jb ⟨hjb,njb⟩
    refine Lp 1 [] (some [1,4,6,10]) n0 trivial ?_
    refine CfgL.done rfl ?_
    refine Cfg.begL rfl ?_
    refine Lp 2 [(dS (.agg (bv (readF D 0))))] (some [1,10,47,48]) (fun S => [(∀ w1,S w1 → (loadVar 37 ⟨hb,0,none⟩).run Tryz.prog w1 = .ok (.agg (bv (readF D 0))) w1)]) ⟨(fun w1 h => h.oload 1 rfl Tryz.underlying37 rfl (n := 512) kr ((bv_size _).trans (readF_len hg _))),trivial⟩ ?_
    refine Le (Eff.callH (vs := [.agg (bv (readF D 0)),.slice (Own.a ob) ((jrows D).length) (Own.c ob)]) (fun o : K.Own => .tuple #[.int .u64 ((parN (readF D 0) (jrows D)) : Int),.slice (Own.a o) (parL (readF D 0) (jrows D)).length (Own.c o),.bool (parG (readF D 0) (jrows D))]) [] (fun o => Own.o 101 (jv (parL (readF D 0) (jrows D))) o) (fun o => OwnOk o 513 (parL (readF D 0) (jrows D)).length (jv (parL (readF D 0) (jrows D)))) [(jb,.cells #[.int .i64 0,.pointer (some ⟨m.d,0,none⟩),.int .u64 0] 143 (0,0)),(hb,.cells (bv (readF D 0)) 37 (0,0)),(kb,.cells #[.pointer (some ⟨m.d,0,none⟩)] 26 (0,0))] ([] ++ (dO D m x ++ (Own.o 37 (rows (jrows D)) ob ++ []))) rfl rfl Tryz.func61 rfl rfl kr (fun w1 h _ _ => by have h9 := jParse (readF D 0) (Own.a ob) (Own.c ob) (jrows D) (Own.o 37 (rows (jrows D)) ob) w1 (readF_len hg _) (inB_own hob2) (jblk_w hg _) (by rw [hjl]; unfold maxLen; omega) (fun e he => (List.mem_cons.1 he).elim (fun h1 => h1 ▸ h.ro _ mH) (fun h1 => h.own e (List.mem_append_right [(jb,Obj.cells #[.int .i64 0,.pointer (some ⟨m.d,0,none⟩),.int .u64 0] 143 (0,0)),(hb,Obj.cells (bv (readF D 0)) 37 (0,0)),(kb,Obj.cells #[.pointer (some ⟨m.d,0,none⟩)] 26 (0,0))] (List.mem_append_right (dO D m x) (mL h1))))) ktK; exact h9)) ?_
    rintro oa hoa
    refine Lp 7 [] (some [1,10,11,12,13]) n0 trivial ?_
    refine CfgL.done rfl ?_
    refine Rg [1,10,11,12,54] [] n0 trivial ?_
    refine Cfg.cond rfl (b := (!(parG (readF D 0) (jrows D)))) kr (fun c4r => ?_) (fun c4r => ?_)
    ·have c4 : ((parG (readF D 0) (jrows D)) = false) := (notT c4r)
     refine Rg [2,3] [] n0 trivial ?_
     refine Cfg.ret rfl (rs := [.tmp 2,.tmp 3]) rfl [pT jb,.int .i64 0] ⟨kr,by kernel_rfl,trivial⟩ (fun w1 hp => ?_)
     have hpg : openG D = false := by show parG _ _ = false; simpa using c4
     have hx : openF D = (0,0,D) := op_no hf0 hpg
     rw [hx]
     have h9 : HP w ((dO D m x).map (·.1)) [(1,Obj.cells (wv Kc) t0 fr0)] ([(jb,Obj.cells #[.int .i64 (0 : Int),.pointer (some ⟨m.d,0,none⟩),.int .u64 (0 : Int)] 143 (0,0))] ++ (dO D m x ++ [])) w1 := hp.sub (.cons_cons _ (.cons _ (.cons _ (List.Sublist.trans (List.Sublist.append (l₁ := dO D m x) (l₂ := dO D m x) (r₁ := []) slr (List.nil_sublist _)) (List.sublist_append_right (Own.o 101 (jv (parL (readF D 0) (jrows D))) oa) _)))))
     rw [List.append_nil] at h9
     exact .inl ⟨(x,jb),rfl,hmo,rfl,_,h9⟩
    ·have c4 : ((parG (readF D 0) (jrows D)) = true) := (notF c4r)
     have hpg : openG D = true := by show parG _ _ = true; simpa using c4
     refine Cfg.begL rfl ?_
     refine Lp 2 [] (some [10,11,12,56,57]) n0 trivial ?_
     refine Le (Eff.callH (vs := [.slice (Own.a oa) ((parL (readF D 0) (jrows D)).length) (Own.c oa),.func (.func 63) #[] #[pT kb]]) (fun o : K.Own => .slice (Own.a o) (inD D (parL (readF D 0) (jrows D))).length (Own.c o)) (Own.o 101 (jv (parL (readF D 0) (jrows D))) oa) (fun o => Own.o 101 (jv (inD D (parL (readF D 0) (jrows D)))) o) (fun o => OwnOk o 513 (inD D (parL (readF D 0) (jrows D))).length (jv (inD D (parL (readF D 0) (jrows D))))) [(jb,.cells #[.int .i64 0,.pointer (some ⟨m.d,0,none⟩),.int .u64 0] 143 (0,0)),(hb,.cells (bv (readF D 0)) 37 (0,0)),(kb,.cells #[.pointer (some ⟨m.d,0,none⟩)] 26 (0,0))] (dO D m x ++ (Own.o 37 (rows (jrows D)) ob ++ [])) rfl rfl Tryz.func62 rfl rfl kr (fun w1 h hA hd => jDel kb m x D oa (parL (readF D 0) (jrows D)) w1 hoa (parL_w (jblk_w hg _)) (Nat.le_trans parL_96 (by decide)) hA hd (fun e he => (List.mem_cons.1 he).elim (fun h1 => h1 ▸ h.own (kb,_) (mL (mG 2 rfl))) (fun h1 => (mem_has h (List.Sublist.trans (List.Sublist.trans (List.sublist_append_left (dO D m x) _) (List.sublist_append_right (Own.o 101 (jv (parL (readF D 0) (jrows D))) oa) _)) (List.sublist_append_right [(jb,Obj.cells #[.int .i64 0,.pointer (some ⟨m.d,0,none⟩),.int .u64 0] 143 (0,0)),(hb,Obj.cells (bv (readF D 0)) 37 (0,0)),(kb,Obj.cells #[.pointer (some ⟨m.d,0,none⟩)] 26 (0,0))] _))) e h1)) (fun e he => mid_apart (F := [(jb,Obj.cells #[.int .i64 0,.pointer (some ⟨m.d,0,none⟩),.int .u64 0] 143 (0,0)),(hb,Obj.cells (bv (readF D 0)) 37 (0,0)),(kb,Obj.cells #[.pointer (some ⟨m.d,0,none⟩)] 26 (0,0))]) (A := Own.o 101 (jv (parL (readF D 0) (jrows D))) oa) (T := (dO D m x ++ (Own.o 37 (rows (jrows D)) ob ++ []))) h e ((List.mem_cons.1 he).elim (fun h1 => .inl (h1 ▸ mG 2 rfl)) (fun h1 => .inr (mL h1)))))) ?_
     rintro o2 ho2
     refine CfgL.pure 1 [] (some [10,11,12]) (Γ' := [(12,[],.slice (Own.a o2) ((inD D (parL (readF D 0) (jrows D))).length) (Own.c o2)),(11,[],.int .u64 ((parN (readF D 0) (jrows D)) : Int)),(10,[],pT jb)]) (nd := (fun _ => [])) kr (fun _ => kr) trivial ?_
     refine CfgL.done rfl ?_
     refine Cfg.begL rfl ?_
     refine Lp 2 [] (some [10,11,59,60]) n0 trivial ?_
     refine Le (Eff.callH (vs := [pT jb,.slice (Own.a o2) ((inD D (parL (readF D 0) (jrows D))).length) (Own.c o2)]) (fun _ : MX => .int .i64 ((layF D (inD D (parL (readF D 0) (jrows D)))).1)) (dO D m x) (fun z => dO (layF D (inD D (parL (readF D 0) (jrows D)))).2 m z) (fun z => MapOk z.1 z.2 (wv2 (layF D (inD D (parL (readF D 0) (jrows D)))).2.wait)) ([(jb,.cells #[.int .i64 0,.pointer (some ⟨m.d,0,none⟩),.int .u64 0] 143 (0,0)),(hb,.cells (bv (readF D 0)) 37 (0,0)),(kb,.cells #[.pointer (some ⟨m.d,0,none⟩)] 26 (0,0))] ++ (Own.o 101 (jv (inD D (parL (readF D 0) (jrows D)))) o2)) (Own.o 37 (rows (jrows D)) ob ++ []) rfl rfl Tryz.func64 rfl rfl kr (fun w1 h hA hd => jLay jb 0 0 m x D (Own.a o2) (Own.c o2) (inD D (parL (readF D 0) (jrows D))) (Own.o 101 (jv (inD D (parL (readF D 0) (jrows D)))) o2) w1 hg hA hd (inW_own1 ho2) (inD_w (parL_w (jblk_w hg _)) D) (Nat.le_trans (inD_len D _) (Nat.le_trans parL_96 (by decide))) om hmo (op_has (L := [(jb,Obj.cells #[.int .i64 0,.pointer (some ⟨m.d,0,none⟩),.int .u64 0] 143 (0,0)),(hb,Obj.cells (bv (readF D 0)) 37 (0,0)),(kb,Obj.cells #[.pointer (some ⟨m.d,0,none⟩)] 26 (0,0))]) (S := Own.o 101 (jv (inD D (parL (readF D 0) (jrows D)))) o2) (T := (Own.o 37 (rows (jrows D)) ob ++ [])) (A := dO D m x) h (mG 0 rfl)) (op_apart (L := [(jb,Obj.cells #[.int .i64 0,.pointer (some ⟨m.d,0,none⟩),.int .u64 0] 143 (0,0)),(hb,Obj.cells (bv (readF D 0)) 37 (0,0)),(kb,Obj.cells #[.pointer (some ⟨m.d,0,none⟩)] 26 (0,0))]) (S := Own.o 101 (jv (inD D (parL (readF D 0) (jrows D)))) o2) (T := (Own.o 37 (rows (jrows D)) ob ++ [])) (A := dO D m x) h (mG 0 rfl)))) ?_
     rintro x2 hmo2
     refine Lp 1 [] (some [10,11,14]) n0 trivial ?_
     refine CfgL.done rfl ?_
     refine Rg [10,11,14,63] [] n0 trivial ?_
     refine Cfg.cond rfl (b := (((layF D (inD D (parL (readF D 0) (jrows D)))).1) != (0 : Int))) kr (fun c5r => ?_) (fun c5r => ?_)
     ·have c5 := (bne_iff_ne.1 c5r)
      refine Rg [2,3] [] n0 trivial ?_
      refine Cfg.ret rfl (rs := [.tmp 2,.tmp 3]) rfl [.pointer none,.int .i64 ((layF D (inD D (parL (readF D 0) (jrows D)))).1)] ⟨kr,by kernel_rfl,trivial⟩ (fun w1 hp => ?_)
      have hx : openF D = ((layF D (openL D)).1,0,(layF D (openL D)).2) := op_err hf0 hpg c5
      rw [hx]
      have h9 : HP w ((dO D m x).map (·.1)) [(1,Obj.cells (wv Kc) t0 fr0)] (([] : LO) ++ (dO ((layF D (inD D (parL (readF D 0) (jrows D)))).2) m x2 ++ [])) w1 := hp.sub (.cons _ (.cons _ (.cons _ (List.Sublist.trans (List.Sublist.append (l₁ := dO ((layF D (inD D (parL (readF D 0) (jrows D)))).2) m x2) (l₂ := dO ((layF D (inD D (parL (readF D 0) (jrows D)))).2) m x2) (r₁ := []) slr (List.nil_sublist _)) (List.sublist_append_right (Own.o 101 (jv (inD D (parL (readF D 0) (jrows D)))) o2) _)))))
      rw [List.append_nil] at h9
      exact .inr ⟨x2,c5,hmo2,rfl,_,h9⟩
     ·have c5 := (bne_eq_false_iff_eq.1 c5r)
      refine Cfg.begL rfl ?_
      refine Lp 4 [] (some [10,66,68]) n0 trivial ?_
      refine Le (Eff.store1 (b := jb) (off := 2) (v := .int .u64 ((parN (readF D 0) (jrows D)) : Int)) rfl kr kr rfl kr 0 (cs := #[.int .i64 0,.pointer (some ⟨m.d,0,none⟩),.int .u64 0]) (e := 143) kr (by simp)) ?_
      rintro ⟨⟩ -
      refine CfgL.done rfl ?_
      refine Cg (Γ' := [(10,[],pT jb)]) ?_
      refine Rg [2,3] [] n0 trivial ?_
      refine Cfg.ret rfl (rs := [.tmp 2,.tmp 3]) rfl [pT jb,.int .i64 0] ⟨kr,by kernel_rfl,trivial⟩ (fun w1 hp => ?_)
      have hx : openF D = (0,(parN (readF D 0) (jrows D)),(layF D (openL D)).2) := op_ok hf0 hpg c5
      rw [hx]
      have h9 : HP w ((dO D m x).map (·.1)) [(1,Obj.cells (wv Kc) t0 fr0)] ([(jb,Obj.cells #[.int .i64 (0 : Int),.pointer (some ⟨m.d,0,none⟩),.int .u64 ((parN (readF D 0) (jrows D)) : Int)] 143 (0,0))] ++ (dO ((layF D (inD D (parL (readF D 0) (jrows D)))).2) m x2 ++ [])) w1 := hp.sub (.cons_cons _ (.cons _ (.cons _ (List.Sublist.trans (List.Sublist.append (l₁ := dO ((layF D (inD D (parL (readF D 0) (jrows D)))).2) m x2) (l₂ := dO ((layF D (inD D (parL (readF D 0) (jrows D)))).2) m x2) (r₁ := []) slr (List.nil_sublist _)) (List.sublist_append_right (Own.o 101 (jv (inD D (parL (readF D 0) (jrows D)))) o2) _)))))
      rw [List.append_nil] at h9
      exact .inl ⟨(x2,jb),rfl,hmo2,rfl,_,h9⟩
theorem jOpenOk (m : DM) (x : MX) (D : DK) (t0 : TypeId) (fr0 : Nat × Nat) (w : World) (hg : DG D) (hmo : MapOk x.1 x.2 (wv2 D.wait)) (hs : 0 ≤ D.steps ∧ D.steps ≤ 4611686018426000000) (hA : Has w (dO D m x)) (hd : ((dO D m x).map (·.1)).Nodup) (hR : Has w [(1,Obj.cells (wv Kc) t0 fr0)]) (hnr : ∀ e ∈ [(1,Obj.cells (wv Kc) t0 fr0)],e.1 ∉ (dO D m x).map (·.1)) (h0 : (openF D).1 = 0) :
  Calls Tryz.prog 30 #[.pointer (some ⟨m.d,0,none⟩)] w fun e w' => ∃ z : MX × Nat,MapOk z.1.1 z.1.2 (wv2 (openF D).2.2.wait) ∧ e = .returned (.tuple #[.pointer (some ⟨z.2,0,none⟩),.int .i64 0]) ∧ ∃ R1,HP w ((dO D m x).map (·.1)) R1 ((z.2,Obj.cells #[.int .i64 (0 : Int),.pointer (some ⟨m.d,0,none⟩),.int .u64 ((openF D).2.1 : Int)] 143 (0,0)) :: dO (openF D).2.2 m z.1) w' := by
 refine (jOpen m x D t0 fr0 w hg hmo hs hA hd hR hnr).mono ?_
 rintro e w' (⟨z,_,h⟩ | ⟨y,h1,_⟩)
 ·exact ⟨z,h⟩
 ·exact absurd h0 h1
end Go.Proofs.YtfgdepggdiibdaaGreatDoor
namespace Go.Proofs.YtfgdepggdiibdaaGreatDoor
open K
set_option linter.unusedVariables false
structure FM where
 fb : Nat
 jb : Nat
 tb : Nat
 nr : Nat
 rm : Nat
 o : K.Own
 x : Array MapEntry × Nat
def T00 : Tb := ⟨List.replicate 144 plz,[],newF 121 200⟩
def opL (D : DK) : Nat → Tb → Bool × Tb
 | 0,T => (true,T)
 | j + 1,T => if (entL (readF D (97 + ((23 - j : Nat) : Int))) (23 - j) 6 T).1 = true then opL D j (entL (readF D (97 + ((23 - j : Nat) : Int))) (23 - j) 6 T).2 else (false,(entL (readF D (97 + ((23 - j : Nat) : Int))) (23 - j) 6 T).2)
theorem opL_step {D : DK} {k : Nat} {T : Tb} (hk : k < 24) (h : (entL (readF D (97 + (k : Int))) k 6 T).1 = true) : opL D (24 - k) T = opL D (24 - (k + 1)) (entL (readF D (97 + (k : Int))) k 6 T).2 := by
 rw [show 24 - k = (24 - (k + 1)) + 1 by omega,opL,show 23 - (24 - (k + 1)) = k by omega,if_pos h]
theorem opL_stop {D : DK} {k : Nat} {T : Tb} (hk : k < 24) (h : ¬ (entL (readF D (97 + (k : Int))) k 6 T).1 = true) : opL D (24 - k) T = (false,(entL (readF D (97 + (k : Int))) k 6 T).2) := by
 rw [show 24 - k = (24 - (k + 1)) + 1 by omega,opL,show 23 - (24 - (k + 1)) = k by omega,if_neg h]
theorem T00_ok : TbOk T00 := ⟨List.length_replicate,fun p hp => by rw [List.eq_of_mem_replicate hp]; exact PlOk.z,newF_len 121 200⟩
def fO (z : FM) (num : Nat) (m : DM) (T : Tb) : List (Nat × Obj) := (z.fb,.cells #[.pointer (some ⟨z.jb,0,none⟩),.pointer (some ⟨z.tb,0,none⟩)] 91 (0,0)) :: (z.jb,.cells #[.int .i64 0,.pointer (some ⟨m.d,0,none⟩),.int .u64 (num : Int)] 143 (0,0)) :: tabO z.tb z.nr z.rm T z.o z.x
theorem flt_ok {D : DK} (hN : D.last.length = 200) (hd : D.down = false) {q : Int} (hq : 0 ≤ q ∧ q < 200) : fltF D q = 0 := by
 unfold fltF
 rw [if_neg (by rw [hd]; decide),if_pos (by rw [hN]; exact hq)]
set_option maxRecDepth 100000 in
set_option maxHeartbeats 8000000 in
theorem fOpen (m : DM) (x : MX) (D : DK) (t0 : TypeId) (fr0 : Nat × Nat) (w : World) (hg : DG D) (hmo : MapOk x.1 x.2 (wv2 D.wait)) (hs : 0 ≤ D.steps ∧ D.steps ≤ 4611686018426000000) (hA : Has w (dO D m x)) (hd : ((dO D m x).map (·.1)).Nodup) (hR : Has w [(1,Obj.cells (wv Kc) t0 fr0)]) (hnr : ∀ e ∈ [(1,Obj.cells (wv Kc) t0 fr0)],e.1 ∉ (dO D m x).map (·.1)) (hO : openF D = (0,0,D)) (hN : D.last.length = 200) (hdn : D.down = false) :
  Calls Tryz.prog 8 #[.pointer (some ⟨m.d,0,none⟩)] w fun e w' => ((opL D 24 T00).1 = true ∧ ∃ (z : FM) (y : MX),(TbOk (opL D 24 T00).2 ∧ Good z.o (opL D 24 T00).2.fr ∧ SMapOk z.x.1 z.x.2 (opL D 24 T00).2.W ∧ MapOk y.1 y.2 (wv2 D.wait)) ∧ e = .returned (.tuple #[.pointer (some ⟨z.fb,0,none⟩),.int .i64 0]) ∧ ∃ R1,HP w ((dO D m x).map (·.1)) R1 (fO z 0 m (opL D 24 T00).2 ++ dO D m y) w') ∨ ((opL D 24 T00).1 = false ∧ ∃ y : MX,MapOk y.1 y.2 (wv2 D.wait) ∧ e = .returned (.tuple #[.pointer none,.int .i64 18]) ∧ ∃ R1,HP w ((dO D m x).map (·.1)) R1 (dO D m y) w') := by
 refine enter (vs := [.pointer (some ⟨m.d,0,none⟩)]) ((dO D m x).map (·.1)) [(1,Obj.cells (wv Kc) t0 fr0)] ([] ++ (dO D m x ++ [])) Tryz.func8 rfl kr (by rw [List.append_nil]; exact HP.ofL hA hd hR hnr) ?_
 refine Rg [0] [] n0 trivial ?_
 refine Cfg.begL rfl ?_
 refine Lp 1 [] (some [11]) n0 trivial ?_
 refine Le (Eff.callH (vs := [.pointer (some ⟨m.d,0,none⟩)]) (fun z : MX × Nat => .tuple #[.pointer (some ⟨z.2,0,none⟩),.int .i64 0]) (dO D m x) (fun z => (z.2,Obj.cells #[.int .i64 (0 : Int),.pointer (some ⟨m.d,0,none⟩),.int .u64 (0 : Int)] 143 (0,0)) :: dO D m z.1) (fun z => MapOk z.1.1 z.1.2 (wv2 D.wait)) [] [] rfl rfl Tryz.func30 rfl rfl kr (fun w1 h hA1 hd1 => by have h9 := jOpenOk m x D t0 fr0 w1 hg hmo hs hA1 hd1 (fun e he => h.ro e he) hnr (by rw [hO]); rw [hO] at h9; exact h9)) ?_
 rintro ⟨y,jb⟩ hy
 refine Lp 5 [] (some [4,5]) n0 trivial ?_
 refine CfgL.done rfl ?_
 refine Rg [4,5,16] [] n0 trivial ?_
 refine Cfg.condF rfl (b := false) kr rfl ?_
 refine Cfg.begL rfl ?_
 refine Lp 1 [] (some [4,18]) n0 trivial ?_
 refine Le (Eff.callA (vs := [pT jb]) (.int .i64 (D.last.length : Int)) rfl Tryz.func31 rfl rfl kr (fun w1 h => jSectors jb 0 0 m y D w1 (fun e he => (List.mem_cons.1 he).elim (fun h1 => h1 ▸ (h.own (jb,Obj.cells #[.int .i64 (0 : Int),.pointer (some ⟨m.d,0,none⟩),.int .u64 (0 : Int)] 143 (0,0)) (show (jb,Obj.cells #[.int .i64 (0 : Int),.pointer (some ⟨m.d,0,none⟩),.int .u64 (0 : Int)] 143 (0,0)) ∈ ([(jb,Obj.cells #[.int .i64 (0 : Int),.pointer (some ⟨m.d,0,none⟩),.int .u64 (0 : Int)] 143 (0,0))] ++ (dO D m y ++ [])) from (mL (mG 0 rfl))))) (fun h1 => h.own e (show _ ∈ (([(jb,Obj.cells #[.int .i64 (0 : Int),.pointer (some ⟨m.d,0,none⟩),.int .u64 (0 : Int)] 143 (0,0))] ++ (dO D m y ++ [])) : LO) from (mR (mL h1))))))) ?_
 rintro ⟨⟩ -
 refine Lp 1 [] (some [4,20]) n0 trivial ?_
 refine CfgL.done rfl ?_
 refine Cfg.condF rfl (b := (decide ((D.last.length : Int) ≤ (121 : Int)))) kr (decide_eq_false om) ?_
 refine Cfg.begL rfl ?_
 refine Le (Eff.mapNew rfl) ?_
 rintro nr ⟨hnr2,nnr⟩
 refine Lp 1 [] (some [4,21,22]) n0 trivial ?_
 refine Le (Eff.callA (vs := [pT jb]) (.int .i64 (D.last.length : Int)) rfl Tryz.func31 rfl rfl kr (fun w1 h => jSectors jb 0 0 m y D w1 (fun e he => (List.mem_cons.1 he).elim (fun h1 => h1 ▸ (h.own (jb,Obj.cells #[.int .i64 (0 : Int),.pointer (some ⟨m.d,0,none⟩),.int .u64 (0 : Int)] 143 (0,0)) (show (jb,Obj.cells #[.int .i64 (0 : Int),.pointer (some ⟨m.d,0,none⟩),.int .u64 (0 : Int)] 143 (0,0)) ∈ ([(nr,Obj.map #[] 0),(jb,Obj.cells #[.int .i64 (0 : Int),.pointer (some ⟨m.d,0,none⟩),.int .u64 (0 : Int)] 143 (0,0))] ++ (dO D m y ++ [])) from (mL (mG 1 rfl))))) (fun h1 => h.own e (show _ ∈ (([(nr,Obj.map #[] 0),(jb,Obj.cells #[.int .i64 (0 : Int),.pointer (some ⟨m.d,0,none⟩),.int .u64 (0 : Int)] 143 (0,0))] ++ (dO D m y ++ [])) : LO) from (mR (mL h1))))))) ?_
 rintro ⟨⟩ -
 refine Le (Eff.callH (vs := [.int .i64 121,.int .i64 (D.last.length : Int)]) (fun z : Nat × K.Own => .pointer (some ⟨z.1,0,none⟩)) [] (fun z => spO z.1 121 z.2 (newF 121 200)) (fun z => Good z.2 (newF 121 200)) [(nr,.map #[] 0),(jb,.cells #[.int .i64 (0 : Int),.pointer (some ⟨m.d,0,none⟩),.int .u64 (0 : Int)] 143 (0,0))] ((dO D m y ++ [])) rfl rfl Tryz.func32 rfl rfl kr (fun w1 h _ _ => by have h9 := newU 121 (D.last.length : Int) w1 (by unfold I64; omega) (by unfold I64; omega); rw [hN] at h9 ⊢; exact h9)) ?_
 rintro ⟨rm,o⟩ hgo
 refine CfgL.pure 1 [(dS (.agg (tbC T00.ps nr rm)))] (some [4,25]) (Γ' := [(25,[],.agg (tbC T00.ps nr rm)),(4,[],pT jb)]) (nd := (fun S => [(∀ w1,S w1 → (Instr.build 88 #[(1,.map (some nr)),(2,pT rm)]).run Tryz.prog w1 = .ok (.agg (tbC T00.ps nr rm)) w1)])) kr (fun _ => kr) ⟨(fun w1 _ => kr),trivial⟩ ?_
 refine Le (Eff.box (v := .agg (tbC T00.ps nr rm)) rfl kr) ?_
 rintro tb ⟨htb,ntb⟩
 refine Lp 1 [] (some [4,6]) n0 trivial ?_
 refine CfgL.done rfl ?_
 refine Cfg.permO (O' := ([(jb,.cells #[.int .i64 (0 : Int),.pointer (some ⟨m.d,0,none⟩),.int .u64 (0 : Int)] 143 (0,0)),(tb,.cells (tbC T00.ps nr rm) 88 (0,0)),(nr,.map #[] 0)] ++ (spO rm 121 o (newF 121 200) ++ (dO D m y ++ [])))) (List.Perm.append_right _ (List.perm_append_comm (l₁ := [(tb,Obj.cells (tbC T00.ps nr rm) 88 (0,0)),(nr,Obj.map #[] 0)]) (l₂ := [(jb,Obj.cells #[.int .i64 (0 : Int),.pointer (some ⟨m.d,0,none⟩),.int .u64 (0 : Int)] 143 (0,0))]))) ?_
 refine Rg [4,6,27] [] n0 trivial ?_
 refine Cfg.loop rfl (ι := Nat × Tb × K.Own × Array MapEntry × Nat) (fun (xz : Nat × Tb × K.Own × Array MapEntry × Nat) => match xz with | (k,T,o,z) => [(27,[],.int .i64 (k : Int)),(6,[],pT tb),(4,[],pT jb)]) (fun (xz : Nat × Tb × K.Own × Array MapEntry × Nat) => match xz with | (k,T,o,z) => ([(jb,.cells #[.int .i64 (0 : Int),.pointer (some ⟨m.d,0,none⟩),.int .u64 (0 : Int)] 143 (0,0)),(tb,.cells (tbC T.ps nr rm) 88 (0,0)),(nr,.map z.1 z.2)] ++ (spO rm 121 o T.fr ++ (dO D m y ++ [])))) (fun (xz : Nat × Tb × K.Own × Array MapEntry × Nat) => match xz with | (k,T,o,z) => (k ≤ 24) ∧ (opL D (24 - k) T = opL D 24 T00) ∧ (TbOk T) ∧ (Good o T.fr) ∧ (SMapOk z.1 z.2 T.W)) (fun (xz : Nat × Tb × K.Own × Array MapEntry × Nat) => match xz with | (k,T,o,z) => 24 - k) (0,T00,o,(#[],0)) ?_ (Conv.mk kr) slr ?_
 ·exact ⟨Nat.zero_le _,rfl,T00_ok,hgo,SMapOk.empty 0⟩
 ·rintro ⟨k,T,o,z⟩ ⟨hk,hra,ht,hgd,hsm⟩
  refine Rg [4,6,27,28] [] n0 trivial ?_
  refine Cfg.cond rfl (b := (decide ((k : Int) < (24 : Int)))) kr (fun c3r => ?_) (fun c3r => ?_)
  ·have c3 := (dT c3r)
   refine Rg [4,6,7,27] [] n0 trivial ?_
   refine Cfg.begL rfl ?_
   refine Lp 3 [] (some [4,6,7,27,31,33]) (fun _ => [(i6 (97 + (k : Int)))]) ⟨om,trivial⟩ ?_
   refine Le (Eff.callA (vs := [pT jb,.int .i64 (97 + (k : Int))]) (.tuple #[.agg (bv (readF D (97 + (k : Int)))),.int .i64 0]) rfl Tryz.func33 rfl rfl kr (fun w1 h => by have h9 := jRead jb 0 0 m y D (97 + (k : Int)) w1 hg hy (fun e he => (List.mem_cons.1 he).elim (fun h1 => h1 ▸ (h.own (jb,Obj.cells #[.int .i64 (0 : Int),.pointer (some ⟨m.d,0,none⟩),.int .u64 (0 : Int)] 143 (0,0)) (show (jb,Obj.cells #[.int .i64 (0 : Int),.pointer (some ⟨m.d,0,none⟩),.int .u64 (0 : Int)] 143 (0,0)) ∈ ([(jb,Obj.cells #[.int .i64 (0 : Int),.pointer (some ⟨m.d,0,none⟩),.int .u64 (0 : Int)] 143 (0,0)),(tb,Obj.cells (tbC T.ps nr rm) 88 (0,0)),(nr,Obj.map z.1 z.2)] ++ (spO rm 121 o T.fr ++ (dO D m y ++ []))) from (mL (mG 0 rfl))))) (fun h1 => h.own e (show _ ∈ (([(jb,Obj.cells #[.int .i64 (0 : Int),.pointer (some ⟨m.d,0,none⟩),.int .u64 (0 : Int)] 143 (0,0)),(tb,Obj.cells (tbC T.ps nr rm) 88 (0,0)),(nr,Obj.map z.1 z.2)] ++ (spO rm 121 o T.fr ++ (dO D m y ++ []))) : LO) from (mR (mR (mL h1)))))); rw [if_neg (by decide),if_neg (by decide),flt_ok hN hdn om] at h9; exact h9)) ?_
   rintro ⟨⟩ -
   refine Lp 3 [] (some [4,6,7,27,35,36]) n0 trivial ?_
   refine Le (Eff.alloc (z := (.agg (bv (List.replicate 512 0)))) rfl kr) ?_
   rintro hb ⟨hhb,nhb⟩
   refine Le (Eff.storeN (b := hb) (off := 0) (vs := (bv (readF D (97 + (k : Int))))) (n := 512) rfl kr kr kr ((bv_size _).trans (readF_len hg _)) (all_bv _) 0 (cs := (bv (List.replicate 512 0))) (e := 37) kr (by rw [zsz512]; omega)) ?_
   rintro ⟨⟩ -
   refine CfgL.setO (congrArg (fun (xq : Array Value) => (([(hb,.cells xq 37 (0,0)),(jb,.cells #[.int .i64 (0 : Int),.pointer (some ⟨m.d,0,none⟩),.int .u64 (0 : Int)] 143 (0,0)),(tb,.cells (tbC T.ps nr rm) 88 (0,0)),(nr,.map z.1 z.2)] ++ (spO rm 121 o T.fr ++ (dO D m y ++ []))) : LO)) (show _ = (bv (readF D (97 + (k : Int)))) from spl_all (((bv_size _).trans (readF_len hg _)).trans zsz512.symm))) ?_
   refine Lp 1 [] (some [4,6,7,8,9,27]) n0 trivial ?_
   refine CfgL.done rfl ?_
   refine Cfg.reg rfl [4,6,7,8,9,27,38] [] (Γ' := [(38,[],.bool false),(9,[],.int .i64 0),(8,[],pT hb),(7,[],.int .i64 (k : Int)),(27,[],.int .i64 (k : Int)),(6,[],pT tb),(4,[],pT jb)]) (nd := (fun _ => [])) (fun _ => kr) trivial ?_
   refine Cfg.condF rfl (b := false) kr rfl ?_
   refine Cfg.begL rfl ?_
   refine Lp 3 [dZ,dZ,(dS (.agg (bv (readF D (97 + (k : Int))))))] (some [4,6,27,40,41,42]) (fun S => [(∀ w1,S w1 → (loadVar 37 ⟨hb,0,none⟩).run Tryz.prog w1 = .ok (.agg (bv (readF D (97 + (k : Int))))) w1)]) ⟨(fun w1 h => h.oload 0 rfl Tryz.underlying37 rfl (n := 512) kr ((bv_size _).trans (readF_len hg _))),trivial⟩ ?_
   refine Le (Eff.callH (vs := [pT tb,.int .i64 (k : Int),.agg (bv (readF D (97 + (k : Int))))]) (fun _ : K.Own × (Array MapEntry × Nat) => .bool (entL (readF D (97 + (k : Int))) k 6 T).1) (tabO tb nr rm T o z) (fun q => tabO tb nr rm (entL (readF D (97 + (k : Int))) k 6 T).2 q.1 q.2) (fun q => TbOk (entL (readF D (97 + (k : Int))) k 6 T).2 ∧ Good q.1 (entL (readF D (97 + (k : Int))) k 6 T).2.fr ∧ SMapOk q.2.1 q.2.2 (entL (readF D (97 + (k : Int))) k 6 T).2.W) [(hb,.cells (bv (readF D (97 + (k : Int)))) 37 (0,0)),(jb,.cells #[.int .i64 (0 : Int),.pointer (some ⟨m.d,0,none⟩),.int .u64 (0 : Int)] 143 (0,0))] ((dO D m y ++ [])) rfl rfl Tryz.func34 rfl rfl kr (fun w1 h hA1 hd1 => (fEnter tb nr rm T o z k (readF D (97 + (k : Int))) w1 hA1 hd1 ht hgd hsm (readF_len hg _) om).mono fun _ _ ⟨q,a1,a2,a3⟩ => ⟨q,a1,a2,a3⟩)) ?_
   rintro ⟨o2,z2⟩ ⟨ht2,hg2,hs2⟩
   refine Lp 1 [] (some [4,6,27,44]) n0 trivial ?_
   refine CfgL.done rfl ?_
   refine Cfg.cond rfl (b := (!(entL (readF D (97 + (k : Int))) k 6 T).1)) kr (fun c5r => ?_) (fun c5r => ?_)
   ·have c5 : ((entL (readF D (97 + (k : Int))) k 6 T).1 = false) := (notT c5r)
    have hent : ¬ (entL (readF D (97 + (k : Int))) k 6 T).1 = true := by simpa using c5
    refine Rg [2,3] [] n0 trivial ?_
    refine Cfg.ret rfl (rs := [.tmp 2,.tmp 3]) rfl [.pointer none,.int .i64 18] ⟨kr,by kernel_rfl,trivial⟩ (fun w1 hp => ?_)
    have hfin : opL D 24 T00 = (false,(entL (readF D (97 + (k : Int))) k 6 T).2) := hra.symm.trans (opL_stop om hent)
    have h9 : HP w ((dO D m x).map (·.1)) _ (dO D m y ++ []) w1 := hp.sub (.cons _ (.cons _ (.cons _ (.cons _ (show List.Sublist (dO D m y ++ []) (spO rm 121 o2 ((entL (readF D (97 + (k : Int))) k 6 T).2.fr) ++ (dO D m y ++ [])) from (List.Sublist.trans (List.Sublist.append (List.Sublist.refl (dO D m y)) (List.nil_sublist _)) (List.sublist_append_right (spO rm 121 o2 ((entL (readF D (97 + (k : Int))) k 6 T).2.fr)) _)))))))
    rw [List.append_nil] at h9
    exact .inr ⟨by rw [hfin],y,hy,rfl,_,h9⟩
   ·have c5 : ((entL (readF D (97 + (k : Int))) k 6 T).1 = true) := (notF c5r)
    have hent : (entL (readF D (97 + (k : Int))) k 6 T).1 = true := by simpa using c5
    refine Rg [4,6,27] [] (fun _ => [(i6 ((k : Int) + 1))]) ⟨om,trivial⟩ ?_
    refine Cfg.again rfl (k + 1,(entL (readF D (97 + (k : Int))) k 6 T).2,o2,z2) ⟨by omega,(opL_step om hent).symm.trans hra,ht2,hg2,hs2⟩ (by show 24 - (k + 1) < 24 - k; omega) (Conv.mk kr) (.cons _ slr)
  ·have c3 := (dF c3r)
   refine Cfg.begL rfl ?_
   refine Lp 3 [dZ,dZ,(dS (.agg #[pT jb,pT tb]))] (some [48]) (fun S => [(∀ w1,S w1 → (Instr.build 91 #[(0,pT jb),(1,pT tb)]).run Tryz.prog w1 = .ok (.agg #[pT jb,pT tb]) w1)]) ⟨(fun w1 _ => kr),trivial⟩ ?_
   refine Le (Eff.box (v := .agg #[pT jb,pT tb]) rfl kr) ?_
   rintro fb ⟨hfb,nfb⟩
   refine Lp 2 [] (some [2,3]) n0 trivial ?_
   refine CfgL.done rfl ?_
   refine Cfg.ret rfl (rs := [.tmp 2,.tmp 3]) rfl [pT fb,.int .i64 0] ⟨kr,by kernel_rfl,trivial⟩ (fun w1 hp => ?_)
   have hk4 : k = 24 := by omega
   subst hk4
   have hfin : opL D 24 T00 = (true,T) := hra.symm
   rw [hfin]
   have h9 : HP w ((dO D m x).map (·.1)) [(1,Obj.cells (wv Kc) t0 fr0)] (fO ⟨fb,jb,tb,nr,rm,o,z⟩ 0 m T ++ dO D m y) w1 := by
    have h8 := hp
    rw [List.append_nil] at h8
    exact h8
   exact .inl ⟨rfl,⟨fb,jb,tb,nr,rm,o,z⟩,y,⟨ht,hgd,hsm,hy⟩,rfl,_,h9⟩
end Go.Proofs.YtfgdepggdiibdaaGreatDoor
namespace Go.Proofs.YtfgdepggdiibdaaGreatDoor
namespace K
theorem foldl_splK (off : Nat) : ∀ (vs : List Value) (k : Nat) (cs : Array Value),(vs.zipIdx k).foldl (fun (cs : Array Value) (p : Value × Nat) => cs.setIfInBounds (off + p.2) p.1) cs = spl cs (off + k) vs
 | [],k,cs => rfl
 | v :: vs,k,cs => by
  rw [List.zipIdx_cons,List.foldl_cons,foldl_splK off vs (k + 1),spl]
  rfl
theorem foldl_arr (off : Nat) (vs cs : Array Value) : vs.zipIdx.foldl (fun (cs : Array Value) (p : Value × Nat) => cs.setIfInBounds (off + p.2) p.1) cs = spl cs off vs.toList := by
 rw [← Array.foldl_toList,Array.toList_zipIdx,foldl_splK off vs.toList 0]; rfl
theorem fill_two {X u v : Array Value} {n : Nat} (hX : X.size = 2 * n) (hu : u.size = n) (hv : v.size = n) : Instr.fill (fun i => some (i * n,n)) X [(0,.agg u),(1,.agg v)] = some (u.toList ++ v.toList).toArray := by
 have hul : u.toList.length = n := by rw [Array.length_toList]; exact hu
 have hvl : v.toList.length = n := by rw [Array.length_toList]; exact hv
 have hXl : X.toList.length = 2 * n := by rw [Array.length_toList]; exact hX
 have a1 : spl X (0 * n) u.toList = (u.toList ++ X.toList.drop n).toArray := by
  have h := spl_at (L := X.toList) (A := []) (B := X.toList.take n) (T := X.toList.drop n) (vs := u.toList) (off := 0) (by rw [List.nil_append,List.take_append_drop]) rfl (by rw [List.length_take]; omega)
  rw [Nat.zero_mul]
  simpa using h
 have a2 : spl (u.toList ++ X.toList.drop n).toArray (1 * n) v.toList = (u.toList ++ v.toList).toArray := by
  have h := spl_at (L := u.toList ++ X.toList.drop n) (A := u.toList) (B := X.toList.drop n) (T := []) (vs := v.toList) (off := n) (by rw [List.append_nil]) hul (by rw [List.length_drop]; omega)
  rw [Nat.one_mul,h,List.append_nil]
 have e1 := (foldl_arr (0 * n) u X).trans a1
 have e2 := (foldl_arr (1 * n) v (u.toList ++ X.toList.drop n).toArray).trans a2
 have hYs : (u.toList ++ X.toList.drop n).toArray.size = 2 * n := by rw [List.size_toArray,List.length_append,List.length_drop]; omega
 have h3 : ¬ (u.size ≠ n) := by omega
 have h4 : ¬ (0 * n + u.size > X.size) := by omega
 have h5 : ¬ (v.size ≠ n) := by omega
 have h6 : ¬ (1 * n + v.size > (u.toList ++ X.toList.drop n).toArray.size) := by omega
 unfold Instr.fill
 simp only [Value.cells,h3,h4,decide_false,Bool.or_self,Bool.false_eq_true,if_false]
 rw [show Array.foldl (fun cs x => match x with | (c,j) => cs.setIfInBounds (0 * n + j) c) X u.zipIdx = (u.toList ++ X.toList.drop n).toArray from e1]
 unfold Instr.fill
 simp only [Value.cells,h5,h6,decide_false,Bool.or_self,Bool.false_eq_true,if_false]
 rw [show Array.foldl (fun cs x => match x with | (c,j) => cs.setIfInBounds (1 * n + j) c) (u.toList ++ X.toList.drop n).toArray v.zipIdx = (u.toList ++ v.toList).toArray from e2]
 rfl
theorem run_buildSlice_agg2 {P : Program} {w : World} {t e : TypeId} {u v : Array Value} {inf : TypeInfo} {z : Value} (ht : P.underlying t = some (.slice e)) (hi : P.info? e = some inf) (hz : inf.zero = some z) (hu : u.size = inf.size) (hv : v.size = inf.size) (h0 : 0 < inf.size) (h1 : inf.size ≤ 8388608) :
  (Instr.buildSlice t 2 #[(0,.agg u),(1,.agg v)]).run P w = .ok (.slice (some ⟨w.heap.size,0,none⟩) 2 2) (w.alloc (.cells (u.toList ++ v.toList).toArray e (0,0))) := by
 have hn : ¬ 2 * inf.size > 2 ^ 24 := by omega
 have hn0 : ¬ 2 * inf.size = 0 := by omega
 have hf := fill_two (X := (Array.range (2 * inf.size)).map (z.cells[· % z.cells.size]!)) (u := u) (v := v) (n := inf.size) (by simp) hu hv
 have e : (u.toList ++ v.toList).toArray = u ++ v := by apply Array.ext'; simp
 rw [e] at hf ⊢
 simp [Instr.buildSlice,run_underlying' ht,run_sizeOf' hi,hn,hn0,zeroValue,typeInfo,program,Sem.run,hi,hz,hf,newRow,newObj]
theorem Eff.buildAgg2 {C : Cx} {R O : List (Nat × Obj)} {Γ : Env} {op : Oper} {t e : TypeId} {x y : Operand} {u v : Array Value} (ho : op.op = .buildSlice t 2 #[(0,x),(1,y)]) (hx : opd Γ [] x = some (.agg u)) (hy : opd Γ [] y = some (.agg v)) (ht : C.P.underlying t = some (.slice e)) {n : Nat} (hsz : (C.P.info? e).map (·.size) = some n) {z : Value} (hz0 : (C.P.info? e).bind (·.zero) = some z)
  (hu : u.size = n) (hv : v.size = n) (h0 : 0 < n) (h1 : n ≤ 8388608) :
  Eff C R O Γ op Nat (fun b => .slice (some ⟨b,0,none⟩) 2 2) (fun b => (b,.cells (u.toList ++ v.toList).toArray e (0,0)) :: O) (fun b => C.w0.heap.size ≤ b ∧ b ∉ O.map (·.1)) := by
 refine Eff.of_run fun a w hs hp => ⟨w.heap.size,w.alloc (.cells (u.toList ++ v.toList).toArray e (0,0)),⟨hp.ext.size,hp.fresh (Nat.le_refl _)⟩,?_,hp.alloc _⟩
 obtain ⟨inf,hi,hse⟩ := Option.map_eq_some_iff.1 hsz
 obtain ⟨inf',hi',hz⟩ := Option.bind_eq_some_iff.1 hz0
 rw [hi] at hi'
 simp only [Option.some.injEq] at hi'
 subst hi'
 subst hse
 have hr := run_buildSlice_agg2 (P := C.P) (w := w) ht hi hz hu hv h0 h1
 have e : (u.toList ++ v.toList).toArray = u ++ v := by apply Array.ext'; simp
 rw [e] at hr ⊢
 simp [execOp,ho,opd_ok hs (holds_nil _) hx,opd_ok hs (holds_nil _) hy,hr]
end K
end Go.Proofs.YtfgdepggdiibdaaGreatDoor
namespace Go.Proofs.YtfgdepggdiibdaaGreatDoor
open K
set_option linter.unusedVariables false
def gO (z : FM) (why : Int) (num : Nat) (m : DM) (T : Tb) : List (Nat × Obj) := (z.fb,.cells #[.pointer (some ⟨z.jb,0,none⟩),.pointer (some ⟨z.tb,0,none⟩)] 91 (0,0)) :: (z.jb,.cells #[.int .i64 why,.pointer (some ⟨m.d,0,none⟩),.int .u64 (num : Int)] 143 (0,0)) :: tabO z.tb z.nr z.rm T z.o z.x
structure FA where
 k : Int
 nm : ByteArray
 t2 : ByteArray
 da : ByteArray
def acC (a : FA) : Array Value := #[.int .i64 a.k,.string a.nm,.string a.t2,.string a.da]
structure FaOk (a : FA) : Prop where
 n : a.nm.size ≤ 200
 t : a.t2.size ≤ 200
 d : a.da.size ≤ 6000
def chkF (a : FA) : Int :=
 if a.k < 1 ∨ a.k > 3 then 11 else if namB a.nm = false then 12 else if a.k = 3 ∧ namB a.t2 = false then 12 else if a.k = 1 ∧ a.da.size > 32768 then 5 else 0
theorem chk_k {a : FA} (h : a.k < 1 ∨ a.k > 3) : chkF a = 11 := if_pos h
theorem chk_n {a : FA} (h : ¬ (a.k < 1 ∨ a.k > 3)) (h1 : namB a.nm = false) : chkF a = 12 := (if_neg h).trans (if_pos h1)
theorem chk_t {a : FA} (h : ¬ (a.k < 1 ∨ a.k > 3)) (h2 : a.k = 3 ∧ namB a.t2 = false) : chkF a = 12 := (if_neg h).trans (by rw [if_pos h2]; split <;> rfl)
theorem chk_d {a : FA} (h : ¬ (a.k < 1 ∨ a.k > 3)) (h1 : ¬ namB a.nm = false) (h2 : ¬ (a.k = 3 ∧ namB a.t2 = false)) (h3 : a.k = 1 ∧ a.da.size > 32768) : chkF a = 5 := (if_neg h).trans ((if_neg h1).trans ((if_neg h2).trans (if_pos h3)))
theorem chk_0 {a : FA} (h : ¬ (a.k < 1 ∨ a.k > 3)) (h1 : ¬ namB a.nm = false) (h2 : ¬ (a.k = 3 ∧ namB a.t2 = false)) (h3 : ¬ (a.k = 1 ∧ a.da.size > 32768)) : chkF a = 0 := (if_neg h).trans ((if_neg h1).trans ((if_neg h2).trans (if_neg h3)))
def zt0 : List Value := (List.replicate 144 plz).flatMap plc
set_option maxRecDepth 100000 in
theorem build_tb {ps : List Pl} {nr rm : Nat} (hl : ps.length = 144) (w : World) : (Instr.build 88 #[(0,.agg (ps.flatMap plc).toArray),(1,.map (some nr)),(2,.pointer (some ⟨rm,0,none⟩))]).run Tryz.prog w = .ok (.agg (tbC ps nr rm)) w := by
 refine run_build w 88 _ _ ?_
 have hz : Tryz.prog.built 88 [(0,.agg (ps.flatMap plc).toArray),(1,.map (some nr)),(2,pT rm)] = Instr.fill ((#[(0,432),(432,1),(433,1)] : Array (Nat × Nat))[·]?) (zt0 ++ [Value.map none,Value.pointer none]).toArray [(0,.agg (ps.flatMap plc).toArray),(1,.map (some nr)),(2,pT rm)] := by kernel_rfl
 have hs : (ps.flatMap plc).length = 432 := by rw [plf_len,hl]
 have h1 : ((Value.agg (ps.flatMap plc).toArray).cells).size = 432 := by show (ps.flatMap plc).toArray.size = 432; rw [List.size_toArray,hs]
 have z0 : zt0.length = 432 := by unfold zt0; rw [plf_len,List.length_replicate]
 have e0 : (Value.agg (ps.flatMap plc).toArray).cells.zipIdx.foldl (fun cs x => match x with | (c,j) => cs.setIfInBounds (0 + j) c) (zt0 ++ [Value.map none,Value.pointer none]).toArray = (ps.flatMap plc ++ [Value.map none,Value.pointer none]).toArray := by
  refine (foldl_arr 0 (ps.flatMap plc).toArray _).trans ?_
  have := spl_at (L := zt0 ++ [Value.map none,Value.pointer none]) (A := []) (B := zt0) (T := [Value.map none,Value.pointer none]) (vs := ps.flatMap plc) (off := 0) rfl rfl (by rw [hs,z0])
  exact this
 have e1 : (Value.map (some nr)).cells.zipIdx.foldl (fun cs x => match x with | (c,j) => cs.setIfInBounds (432 + j) c) (ps.flatMap plc ++ [Value.map none,Value.pointer none]).toArray = (ps.flatMap plc ++ [Value.map (some nr),Value.pointer none]).toArray := by
  show (ps.flatMap plc ++ [Value.map none,Value.pointer none]).toArray.setIfInBounds 432 (Value.map (some nr)) = _
  rw [List.setIfInBounds_toArray,List.set_append_right _ _ om,hs]; rfl
 have e2 : (pT rm).cells.zipIdx.foldl (fun cs x => match x with | (c,j) => cs.setIfInBounds (433 + j) c) (ps.flatMap plc ++ [Value.map (some nr),Value.pointer none]).toArray = tbC ps nr rm := by
  show (ps.flatMap plc ++ [Value.map (some nr),Value.pointer none]).toArray.setIfInBounds 433 (Value.pointer (some ⟨rm,0,none⟩)) = _
  rw [List.setIfInBounds_toArray,List.set_append_right _ _ om,hs]; rfl
 have s0 : (zt0 ++ [Value.map none,Value.pointer none]).toArray.size = 434 := by rw [List.size_toArray,List.length_append,z0]; rfl
 have s1 : (ps.flatMap plc ++ [Value.map none,Value.pointer none]).toArray.size = 434 := by rw [List.size_toArray,List.length_append,hs]; rfl
 have s2 : (ps.flatMap plc ++ [Value.map (some nr),Value.pointer none]).toArray.size = 434 := by rw [List.size_toArray,List.length_append,hs]; rfl
 have q0 : (decide ((Value.agg (ps.flatMap plc).toArray).cells.size ≠ 432) || decide (0 + (Value.agg (ps.flatMap plc).toArray).cells.size > (zt0 ++ [Value.map none,Value.pointer none]).toArray.size)) = false := by rw [h1,s0]; rfl
 have q1 : (decide ((Value.map (some nr)).cells.size ≠ 1) || decide (432 + (Value.map (some nr)).cells.size > (ps.flatMap plc ++ [Value.map none,Value.pointer none]).toArray.size)) = false := by rw [s1]; rfl
 have q2 : (decide ((pT rm).cells.size ≠ 1) || decide (433 + (pT rm).cells.size > (ps.flatMap plc ++ [Value.map (some nr),Value.pointer none]).toArray.size)) = false := by rw [s2]; rfl
 show Tryz.prog.built 88 [(0,.agg (ps.flatMap plc).toArray),(1,.map (some nr)),(2,.pointer (some ⟨rm,0,none⟩))] = _
 rw [hz,Instr.fill]
 show (if (decide ((Value.agg (ps.flatMap plc).toArray).cells.size ≠ 432) || decide (0 + (Value.agg (ps.flatMap plc).toArray).cells.size > (zt0 ++ [Value.map none,Value.pointer none]).toArray.size)) = true then none else _) = _
 rw [q0,if_neg (by decide),e0,Instr.fill]
 show (if (decide ((Value.map (some nr)).cells.size ≠ 1) || decide (432 + (Value.map (some nr)).cells.size > (ps.flatMap plc ++ [Value.map none,Value.pointer none]).toArray.size)) = true then none else _) = _
 rw [q1,if_neg (by decide),e1,Instr.fill]
 show (if (decide ((Value.pointer (some ⟨rm,0,none⟩)).cells.size ≠ 1) || decide (433 + (Value.pointer (some ⟨rm,0,none⟩)).cells.size > (ps.flatMap plc ++ [Value.map (some nr),Value.pointer none]).toArray.size)) = true then none else _) = _
 rw [q2,if_neg (by decide),e2]; rfl
theorem tb_row {ps : List Pl} {nr rm q : Nat} {v : Value} (h : (ps.flatMap plc)[q]? = some v) : (tbC ps nr rm)[q]? = some v := by
 unfold tbC
 rw [List.getElem?_toArray,List.getElem?_append_left (List.getElem?_eq_some_iff.1 h).1]; exact h
set_option maxRecDepth 100000 in
theorem fErr (z : FM) (why : Int) (num : Nat) (m : DM) (y : MX) (D : DK) (T : Tb) (w : World) (hR : Has w (gO z why num m T ++ dO D m y)) :
  Calls Tryz.prog 24 #[.pointer (some ⟨z.fb,0,none⟩)] w fun e w' => e = .returned (.int .i64 why) ∧ Ext [] w w' := by
 refine enter (vs := [.pointer (some ⟨z.fb,0,none⟩)]) [] (gO z why num m T ++ dO D m y) [] Tryz.func24 rfl kr (HP.ofHas hR) ?_
 refine Rg [0] [] n0 trivial ?_
 refine Rg [0,4] [] n0 trivial ?_
 refine Cfg.condF rfl (b := false) kr rfl ?_
 refine Cfg.begL rfl ?_
 refine Lp 4 [dZ,dZ,dZ,(dS (.pointer (some ⟨z.jb,0,none⟩)))] (some [8]) (fun S => [(∀ w1,S w1 → w1.cell? ⟨z.fb,0,none⟩ = some (.pointer (some ⟨z.jb,0,none⟩)))]) ⟨(rC 0 rfl rfl),trivial⟩ ?_
 refine Le (Eff.callA (vs := [.pointer (some ⟨z.jb,0,none⟩)]) (.int .i64 why) rfl Tryz.func57 rfl rfl kr (fun w1 h => jErr z.jb why num m y D w1 (h.hasR (fun e he => (List.mem_cons.1 he).elim (fun h1 => h1 ▸ mG 1 rfl) (fun h1 => mR h1))))) ?_
 rintro ⟨⟩ -
 refine Lp 1 [] (some [2]) n0 trivial ?_
 refine CfgL.done rfl ?_
 refine Cfg.ret rfl (rs := [.tmp 2]) rfl [.int .i64 why] ⟨kr,trivial⟩ (fun w1 hp => ?_)
 exact ⟨rfl,hp.ext⟩
set_option maxRecDepth 100000 in
theorem fFree (z : FM) (why : Int) (num : Nat) (m : DM) (y : MX) (D : DK) (T : Tb) (w : World) (hR : Has w (gO z why num m T ++ dO D m y)) (ho : TbOk T) (hg : Good z.o T.fr) (hm : SMapOk z.x.1 z.x.2 T.W) :
  Calls Tryz.prog 15 #[.pointer (some ⟨z.fb,0,none⟩)] w fun e w' => e = .returned (.int .i64 (suml (runsAt T.fr 0) : Int)) ∧ Ext [] w w' := by
 have hf9 := ho.f
 refine enter (vs := [.pointer (some ⟨z.fb,0,none⟩)]) [] (gO z why num m T ++ dO D m y) [] Tryz.func15 rfl kr (HP.ofHas hR) ?_
 refine Rg [0] [] n0 trivial ?_
 refine Rg [0,4] [] n0 trivial ?_
 refine Cfg.condF rfl (b := false) kr rfl ?_
 refine Cfg.begL rfl ?_
 refine Lp 7 [dZ,dZ,dZ,(dS (.pointer (some ⟨z.tb,0,none⟩))),dZ,dZ,(dS (.pointer (some ⟨z.rm,0,none⟩)))] (some [11]) (fun S => [(∀ w1,S w1 → w1.cell? ⟨z.fb,1,none⟩ = some (.pointer (some ⟨z.tb,0,none⟩))),(∀ w1,S w1 → w1.cell? ⟨z.tb,433,none⟩ = some (.pointer (some ⟨z.rm,0,none⟩)))]) ⟨(rC 0 rfl rfl),(fun w1 h => h.rcell 2 rfl (tb_room ho.l)),trivial⟩ ?_
 refine Le (Eff.callA (vs := [.pointer (some ⟨z.rm,0,none⟩)]) (.int .i64 ((suml (runsAt T.fr 0)) : Int)) rfl Tryz.func47 rfl rfl kr (fun w1 h => freeU z.rm 121 z.o T.fr w1 om ho.f hg (h.hasR (fun e he => mL (List.mem_cons_of_mem _ (List.mem_cons_of_mem _ (List.mem_cons_of_mem _ (List.mem_cons_of_mem _ he)))))))) ?_
 rintro ⟨⟩ -
 refine Lp 1 [] (some [2]) n0 trivial ?_
 refine CfgL.done rfl ?_
 refine Cfg.ret rfl (rs := [.tmp 2]) rfl [.int .i64 ((suml (runsAt T.fr 0)) : Int)] ⟨kr,trivial⟩ (fun w1 hp => ?_)
 exact ⟨rfl,hp.ext⟩
set_option maxRecDepth 100000 in
theorem fHas (z : FM) (why : Int) (num : Nat) (m : DM) (y : MX) (D : DK) (T : Tb) (s : ByteArray) (w : World) (hR : Has w (gO z why num m T ++ dO D m y)) (ho : TbOk T) (hg : Good z.o T.fr) (hm : SMapOk z.x.1 z.x.2 T.W) :
  Calls Tryz.prog 25 #[.pointer (some ⟨z.fb,0,none⟩),.string s] w fun e w' => e = .returned (.bool (smget T.W s).isSome) ∧ Ext [] w w' := by
 refine enter (vs := [.pointer (some ⟨z.fb,0,none⟩),.string s]) [] (gO z why num m T ++ dO D m y) [] Tryz.func25 rfl kr (HP.ofHas hR) ?_
 refine Rg [0,1] [] n0 trivial ?_
 refine Rg [0,1,8] [] n0 trivial ?_
 refine Cfg.condF rfl (b := false) kr rfl ?_
 refine Cfg.begL rfl ?_
 refine Lp 8 [dZ,dZ,dZ,(dS (.pointer (some ⟨z.tb,0,none⟩))),dZ,dZ,(dS (.map (some z.nr)))] (some [16,17]) (fun S => [(∀ w1,S w1 → w1.cell? ⟨z.fb,1,none⟩ = some (.pointer (some ⟨z.tb,0,none⟩))),(∀ w1,S w1 → w1.cell? ⟨z.tb,432,none⟩ = some (.map (some z.nr)))]) ⟨(rC 0 rfl rfl),(fun w1 h => h.rcell 2 rfl (tb_names ho.l)),trivial⟩ ?_
 refine Le (Eff.sGet (z := .int .i64 0) (r := z.nr) (k := s) (es := z.x.1) (ck := z.x.2) (W := T.W) rfl Tryz.underlying81 Tryz.underlying9 kr kr kr hm (fun w1 h => (h.ro _ (mG 3 rfl)))) ?_
 rintro ⟨⟩ -
 refine Lp 5 [] (some [6]) n0 trivial ?_
 refine CfgL.done rfl ?_
 refine Rg [4] [] n0 trivial ?_
 refine Cfg.ret rfl (rs := [.tmp 4]) rfl [.bool (smget T.W s).isSome] ⟨kr,trivial⟩ (fun w1 hp => ?_)
 exact ⟨rfl,hp.ext⟩
set_option maxRecDepth 100000 in
theorem fCheck (a : FA) (w : World) (ha : a.nm.size ≤ maxLen ∧ a.t2.size ≤ maxLen) :
  Calls Tryz.prog 75 #[.agg (acC a)] w fun e w' => e = .returned (.int .i64 (chkF a)) ∧ Ext [] w w' := by
 refine enter (vs := [.agg (acC a)]) [] [] [] Tryz.func75 rfl kr (HP.start w) ?_
 refine Cfg.begL rfl ?_
 refine Le (Eff.box (v := .agg (acC a)) rfl kr) ?_
 rintro ab ⟨hab,nab⟩
 refine Lp 1 [] (some [1]) n0 trivial ?_
 refine CfgL.done rfl ?_
 refine Rg [1,3] [dZ,(dS (.int .i64 a.k)),dZ,dZ,dZ,(dS (.int .i64 a.k))] (fun S => [(cE S ab 0 (.int .i64 a.k)),((.bool (decide (a.k < (1 : Int))) : Value) = .bool false → (cE S ab 0 (.int .i64 a.k)))]) ⟨(oC 0 rfl rfl),(fun g0 => have q0 : (¬ (a.k < (1 : Int))) := (dF (boolV g0)); (oC 0 rfl rfl)),trivial⟩ ?_
 refine Cfg.cond rfl (b := ((decide (a.k < (1 : Int))) || (decide (a.k > (3 : Int))))) kr (fun c1r => ?_) (fun c1r => ?_)
 ·have c1 : ((a.k < (1 : Int)) ∨ (a.k > (3 : Int))) := ((orT c1r).elim (fun h => Or.inl (dT h)) (fun h => Or.inr (dT h)))
  refine Rg [2] [] n0 trivial ?_
  refine Cfg.ret rfl (rs := [.tmp 2]) rfl [.int .i64 11] ⟨kr,trivial⟩ (fun w1 hp => ?_)
  exact ⟨congrArg (fun q => Ending.returned (.int .i64 q)) (chk_k c1).symm,hp.ext⟩
 ·have c1 : ((¬ (a.k < (1 : Int))) ∧ (¬ (a.k > (3 : Int)))) := ⟨(dF (orF1 c1r)),(dF (orF2 c1r))⟩
  refine Cfg.begL rfl ?_
  refine Lp 2 [dZ,(dS (.string a.nm))] (some [1,14]) (fun S => [(cE S ab 1 (.string a.nm))]) ⟨(oC 0 rfl rfl),trivial⟩ ?_
  refine Le (Eff.callA (vs := [.string a.nm]) (.bool (namB a.nm)) rfl Tryz.func14 rfl rfl kr (fun w1 _ => fNamed a.nm w1 ha.1)) ?_
  rintro ⟨⟩ -
  refine Lp 2 [] (some [1,12]) n0 trivial ?_
  refine CfgL.done rfl ?_
  refine Cfg.cond rfl (b := (!(namB a.nm))) kr (fun c2r => ?_) (fun c2r => ?_)
  ·have c2 : ((namB a.nm) = false) := (notT c2r)
   refine Cfg.cond rfl (b := (!(namB a.nm))) kr (fun c3r => ?_) (fun c3r => ?_)
   ·have c3 : ((namB a.nm) = false) := (notT c3r)
    refine Rg [2] [] n0 trivial ?_
    refine Cfg.ret rfl (rs := [.tmp 2]) rfl [.int .i64 12] ⟨kr,trivial⟩ (fun w1 hp => ?_)
    exact ⟨congrArg (fun q => Ending.returned (.int .i64 q)) (chk_n om c3).symm,hp.ext⟩
   ·have c3 : ((namB a.nm) = true) := (notF c3r)
    refine Rg [26] [dZ,(dS (.int .i64 a.k)),dZ,dZ,dZ,(dS (.string a.da))] (fun S => [(cE S ab 0 (.int .i64 a.k)),((.bool (a.k == (1 : Int)) : Value) = .bool true → (cE S ab 3 (.string a.da)))]) ⟨(oC 0 rfl rfl),(fun g0 => have q0 : (a.k = (1 : Int)) := (beq_iff_eq.1 (boolV g0)); (oC 0 rfl rfl)),trivial⟩ ?_
    refine Cfg.cond rfl (b := ((a.k == (1 : Int)) && (decide ((a.da.size : Int) > (32768 : Int))))) kr (fun c4r => ?_) (fun c4r => ?_)
    ·have c4 : ((a.k = (1 : Int)) ∧ ((a.da.size : Int) > (32768 : Int))) := ⟨(beq_iff_eq.1 (andT1 c4r)),(dT (andT2 c4r))⟩
     refine Cfg.reg rfl [2] [] (Γ' := [(2,[],.int .i64 5)]) (nd := (fun _ => [])) (fun _ => kr) trivial ?_
     refine Cfg.ret rfl (rs := [.tmp 2]) rfl [.int .i64 5] ⟨kr,trivial⟩ (fun w1 hp => ?_)
     rw [c2] at c3
     cases c3
    ·have c4 : ((a.k ≠ (1 : Int)) ∨ (¬ ((a.da.size : Int) > (32768 : Int)))) := ((andF c4r).elim (fun h => Or.inl (beq_eq_false_iff_ne.1 h)) (fun h => Or.inr (dF h)))
     refine Rg [2] [] n0 trivial ?_
     refine Cfg.ret rfl (rs := [.tmp 2]) rfl [.int .i64 0] ⟨kr,trivial⟩ (fun w1 hp => ?_)
     rw [c2] at c3
     cases c3
  ·have c2 : ((namB a.nm) = true) := (notF c2r)
   refine Cfg.begL rfl ?_
   refine Lp 4 [dZ,(dS (.int .i64 a.k))] (some [1,12,20]) (fun S => [(cE S ab 0 (.int .i64 a.k))]) ⟨(oC 0 rfl rfl),trivial⟩ ?_
   by_cases c5 : (a.k == (3 : Int)) = true
   ·have c5k : (a.k == (3 : Int)) = true := c5
    have c5q := (beq_iff_eq.1 c5k)
    refine CfgL.known 20 (b := (a.k == (3 : Int))) kr true c5k ?_
    refine Lp 2 [(1,false,none),(1,false,some (.string a.t2))] (some [1,12,20,22]) (fun S => [((.bool true : Value) = .bool true),((.bool true : Value) = .bool true),(cE S ab 2 (.string a.t2))]) ⟨rfl,rfl,(oC 0 rfl rfl),trivial⟩ ?_
    refine Le (Eff.callA (vs := [.string a.t2]) (.bool (namB a.t2)) rfl Tryz.func14 rfl rfl kr (fun w1 _ => fNamed a.t2 w1 ha.2)) ?_
    rintro ⟨⟩ -
    refine Lp 3 [(1,false,none)] (some [1,12]) (fun _ => [((.bool true : Value) = .bool true)]) ⟨rfl,trivial⟩ ?_
    refine CfgL.done rfl ?_
    refine Cfg.cond rfl (b := (!(namB a.t2))) kr (fun c6r => ?_) (fun c6r => ?_)
    ·have c6 : ((namB a.t2) = false) := (notT c6r)
     refine Rg [2] [] n0 trivial ?_
     refine Cfg.ret rfl (rs := [.tmp 2]) rfl [.int .i64 12] ⟨kr,trivial⟩ (fun w1 hp => ?_)
     exact ⟨congrArg (fun q => Ending.returned (.int .i64 q)) (chk_t om ⟨c5q,c6⟩).symm,hp.ext⟩
    ·have c6 : ((namB a.t2) = true) := (notF c6r)
     refine Rg [26] [dZ,(dS (.int .i64 a.k)),dZ,dZ,dZ,(dS (.string a.da))] (fun S => [(cE S ab 0 (.int .i64 a.k)),((.bool (a.k == (1 : Int)) : Value) = .bool true → (cE S ab 3 (.string a.da)))]) ⟨(oC 0 rfl rfl),(fun g0 => have q0 : (a.k = (1 : Int)) := (beq_iff_eq.1 (boolV g0)); (oC 0 rfl rfl)),trivial⟩ ?_
     refine Cfg.cond rfl (b := ((a.k == (1 : Int)) && (decide ((a.da.size : Int) > (32768 : Int))))) kr (fun c7r => ?_) (fun c7r => ?_)
     ·have c7 : ((a.k = (1 : Int)) ∧ ((a.da.size : Int) > (32768 : Int))) := ⟨(beq_iff_eq.1 (andT1 c7r)),(dT (andT2 c7r))⟩
      refine Rg [2] [] n0 trivial ?_
      refine Cfg.ret rfl (rs := [.tmp 2]) rfl [.int .i64 5] ⟨kr,trivial⟩ (fun w1 hp => ?_)
      exact ⟨congrArg (fun q => Ending.returned (.int .i64 q)) (chk_d om (by rw [c2]; decide) (fun h => by rw [c6] at h; cases h.2) ⟨c7.1,by omega⟩).symm,hp.ext⟩
     ·have c7 : ((a.k ≠ (1 : Int)) ∨ (¬ ((a.da.size : Int) > (32768 : Int)))) := ((andF c7r).elim (fun h => Or.inl (beq_eq_false_iff_ne.1 h)) (fun h => Or.inr (dF h)))
      refine Cfg.reg rfl [2] [] (Γ' := [(2,[],.int .i64 0)]) (nd := (fun _ => [])) (fun _ => kr) trivial ?_
      refine Cfg.ret rfl (rs := [.tmp 2]) rfl [.int .i64 0] ⟨kr,trivial⟩ (fun w1 hp => ?_)
      exact ⟨congrArg (fun q => Ending.returned (.int .i64 q)) (chk_0 om (by rw [c2]; decide) (fun h => by rw [c6] at h; cases h.2) om).symm,hp.ext⟩
   ·have c5k : (a.k == (3 : Int)) = false := (by simpa using c5)
    have c5q := (beq_eq_false_iff_ne.1 c5k)
    refine CfgL.known 20 (b := (a.k == (3 : Int))) kr false c5k ?_
    refine Lp 6 [(2,false,none),(2,false,none),(2,false,none),(2,false,none)] (some [1,12]) (fun _ => [((.bool false : Value) ≠ .bool true),((.bool false : Value) ≠ .bool true),((.bool false : Value) ≠ .bool true),((.bool false : Value) ≠ .bool true)]) ⟨(by simp),(by simp),(by simp),(by simp),trivial⟩ ?_
    refine CfgL.done rfl ?_
    refine Cfg.condF rfl (b := false) kr rfl ?_
    refine Rg [26] [dZ,(dS (.int .i64 a.k)),dZ,dZ,dZ,(dS (.string a.da))] (fun S => [(cE S ab 0 (.int .i64 a.k)),((.bool (a.k == (1 : Int)) : Value) = .bool true → (cE S ab 3 (.string a.da)))]) ⟨(oC 0 rfl rfl),(fun g0 => have q0 : (a.k = (1 : Int)) := (beq_iff_eq.1 (boolV g0)); (oC 0 rfl rfl)),trivial⟩ ?_
    refine Cfg.cond rfl (b := ((a.k == (1 : Int)) && (decide ((a.da.size : Int) > (32768 : Int))))) kr (fun c9r => ?_) (fun c9r => ?_)
    ·have c9 : ((a.k = (1 : Int)) ∧ ((a.da.size : Int) > (32768 : Int))) := ⟨(beq_iff_eq.1 (andT1 c9r)),(dT (andT2 c9r))⟩
     refine Rg [2] [] n0 trivial ?_
     refine Cfg.ret rfl (rs := [.tmp 2]) rfl [.int .i64 5] ⟨kr,trivial⟩ (fun w1 hp => ?_)
     exact ⟨congrArg (fun q => Ending.returned (.int .i64 q)) (chk_d om (by rw [c2]; decide) (fun h => c5q h.1) ⟨c9.1,by omega⟩).symm,hp.ext⟩
    ·have c9 : ((a.k ≠ (1 : Int)) ∨ (¬ ((a.da.size : Int) > (32768 : Int)))) := ((andF c9r).elim (fun h => Or.inl (beq_eq_false_iff_ne.1 h)) (fun h => Or.inr (dF h)))
     refine Rg [2] [] n0 trivial ?_
     refine Cfg.ret rfl (rs := [.tmp 2]) rfl [.int .i64 0] ⟨kr,trivial⟩ (fun w1 hp => ?_)
     exact ⟨congrArg (fun q => Ending.returned (.int .i64 q)) (chk_0 om (by rw [c2]; decide) (fun h => c5q h.1) om).symm,hp.ext⟩
set_option maxRecDepth 100000 in
set_option maxHeartbeats 2000000 in
theorem fCopied (z : FM) (why : Int) (num : Nat) (m : DM) (y : MX) (D : DK) (T : Tb) (w : World) (hR : Has w (gO z why num m T ++ dO D m y)) (ho : TbOk T) (hg : Good z.o T.fr) (hm : SMapOk z.x.1 z.x.2 T.W) :
  Calls Tryz.prog 35 #[.pointer (some ⟨z.tb,0,none⟩)] w fun e w' => ∃ q : Nat × Nat × Nat × K.Own,Good q.2.2.2 T.fr ∧ e = .returned (.pointer (some ⟨q.1,0,none⟩)) ∧ ∃ R1,HP w [] R1 (tabO q.1 q.2.1 q.2.2.1 T q.2.2.2 z.x) w' := by
 have hf9 := ho.f
 refine enter (vs := [.pointer (some ⟨z.tb,0,none⟩)]) [] (gO z why num m T ++ dO D m y) [] Tryz.func35 rfl kr (HP.ofHas hR) ?_
 refine Rg [0] [] n0 trivial ?_
 refine Cfg.begA rfl kr [] ?_
 refine Ap [0,1,2,3,4,5,6,7,9,10,11,12] [dZ,dZ,dZ,(dS (.agg (T.ps.flatMap plc).toArray)),dZ,dZ,dZ,(dS (.map (some z.nr))),dZ,dZ,dZ,(dS (.pointer (some ⟨z.rm,0,none⟩)))] (some [6,10,15]) (bF 7935 17) .slnil 5 (fun S => [(∀ w1,S w1 → (loadVar 86 ⟨z.tb,0,none⟩).run Tryz.prog w1 = .ok (.agg (T.ps.flatMap plc).toArray) w1),(∀ w1,S w1 → w1.cell? ⟨z.tb,432,none⟩ = some (.map (some z.nr))),(∀ w1,S w1 → w1.cell? ⟨z.tb,433,none⟩ = some (.pointer (some ⟨z.rm,0,none⟩)))]) ⟨(fun w1 h => load_list (vs := T.ps.flatMap plc) Tryz.underlying86 rfl kr (by rw [plf_len,ho.l]) (fun q9 v hq9 => h.rcell 2 rfl (by rw [Nat.zero_add]; exact tb_row hq9))),(fun w1 h => h.rcell 2 rfl (tb_names ho.l)),(fun w1 h => h.rcell 2 rfl (tb_room ho.l)),trivial⟩ ?_
 refine Ae 8 rfl 4  (Eff.callN (vs := [.map (some z.nr)]) (fun r2 : Nat => .map (some r2)) (fun r2 => r2) (fun _ => .map z.x.1 z.x.2) (fun _ => True) rfl Tryz.func73 rfl rfl kr (fun w1 h => mClone z.nr z.x.1 z.x.2 w1 (fun e he => by rw [List.mem_singleton.1 he]; exact (h.ro _ (mG 3 rfl))))) (fun _ _ => List.nil_sublist _) ?_
 rintro nr2 ⟨-,hnr2,nnr2⟩
 refine Ae 13 rfl 3  (Eff.callH (vs := [.pointer (some ⟨z.rm,0,none⟩)]) (fun q : Nat × K.Own => .pointer (some ⟨q.1,0,none⟩)) [] (fun q => spO q.1 121 q.2 T.fr) (fun q => Good q.2 T.fr) [(nr2,.map z.x.1 z.x.2)] [] rfl rfl Tryz.func74 rfl rfl kr (fun w1 h _ _ => copyU z.rm 121 z.o T.fr w1 ho.f hg (h.hasR (fun e he => mL (List.mem_cons_of_mem _ (List.mem_cons_of_mem _ (List.mem_cons_of_mem _ (List.mem_cons_of_mem _ he)))))))) (fun _ _ => List.nil_sublist _) ?_
 rintro ⟨rm2,o2⟩ hg2
 refine Ap [14] [(dS (.agg (tbC T.ps nr2 rm2)))] (some [17]) (tF 15 2) (.cons _ (List.nil_sublist _)) 2 (fun S => [(∀ w1,S w1 → (Instr.build 88 #[(0,.agg (T.ps.flatMap plc).toArray),(1,.map (some nr2)),(2,pT rm2)]).run Tryz.prog w1 = .ok (.agg (tbC T.ps nr2 rm2)) w1)]) ⟨(fun w1 _ => build_tb ho.l w1),trivial⟩ ?_
 refine Ae 15 rfl 1  (Eff.box (v := .agg (tbC T.ps nr2 rm2)) rfl kr) (fun _ _ => List.nil_sublist _) ?_
 rintro tb2 ⟨htb2,ntb2⟩
 refine Ap [16] [] (some [2]) (tF 17 0) (.cons _ (.cons _ (List.nil_sublist _))) 0 n0 trivial ?_
 refine CfgA.done kr ?_
 refine Cfg.ret rfl (rs := [.tmp 2]) rfl [pT tb2] ⟨kr,trivial⟩ (fun w1 hp => ?_)
 have h9 := hp
 rw [List.append_nil] at h9
 exact ⟨(tb2,nr2,rm2,o2),hg2,rfl,_,h9⟩
end Go.Proofs.YtfgdepggdiibdaaGreatDoor
namespace Go.Proofs.YtfgdepggdiibdaaGreatDoor
open K
set_option linter.unusedVariables false
section
variable {α β : Type}
def gget (W : List (Int × α)) (k : Int) : Option α := match W with
 | [] => none
 | p :: W => if k = p.1 then some p.2 else gget W k
def gset (W : List (Int × α)) (k : Int) (v : α) : List (Int × α) := match W with
 | [] => [(k,v)]
 | p :: W => if k = p.1 then (k,v) :: W else p :: gset W k v
def gdel (W : List (Int × α)) (k : Int) : List (Int × α) := match W with
 | [] => []
 | p :: W => if k = p.1 then W else p :: gdel W k
theorem gset_map (f : α → β) (k : Int) (v : α) : ∀ W : List (Int × α),gset (W.map fun p => (p.1,f p.2)) k (f v) = (gset W k v).map fun p => (p.1,f p.2)
 | [] => rfl
 | p :: W => by
  simp only [List.map_cons,gset]
  split
  ·rfl
  ·rw [gset_map f k v W]; rfl
theorem gdel_map (f : α → β) (k : Int) : ∀ W : List (Int × α),gdel (W.map fun p => (p.1,f p.2)) k = (gdel W k).map fun p => (p.1,f p.2)
 | [] => rfl
 | p :: W => by
  simp only [List.map_cons,gdel]
  split
  ·rfl
  ·rw [gdel_map f k W]; rfl
theorem gget_map (f : α → β) (k : Int) : ∀ W : List (Int × α),gget (W.map fun p => (p.1,f p.2)) k = (gget W k).map f
 | [] => rfl
 | p :: W => by
  simp only [List.map_cons,gget]
  split
  ·rfl
  ·exact gget_map f k W
theorem gset_mem {k : Int} {v : α} : ∀ {W : List (Int × α)},∀ p ∈ gset W k v,p = (k,v) ∨ p ∈ W
 | [],p,hp => .inl (List.mem_singleton.1 hp)
 | q :: W,p,hp => by
  unfold gset at hp
  split at hp
  ·rcases List.mem_cons.1 hp with rfl | hp
   ·exact .inl rfl
   ·exact .inr (List.mem_cons_of_mem _ hp)
  ·rcases List.mem_cons.1 hp with rfl | hp
   ·exact .inr mH
   ·exact (gset_mem p hp).elim .inl (fun h => .inr (List.mem_cons_of_mem _ h))
theorem gdel_mem {k : Int} : ∀ {W : List (Int × α)},∀ p ∈ gdel W k,p ∈ W
 | [],p,hp => hp
 | q :: W,p,hp => by
  unfold gdel at hp
  split at hp
  ·exact List.mem_cons_of_mem _ hp
  ·rcases List.mem_cons.1 hp with rfl | hp
   ·exact mH
   ·exact List.mem_cons_of_mem _ (gdel_mem p hp)
theorem gset_nodup {k : Int} {v : α} : ∀ {W : List (Int × α)},(W.map (·.1)).Nodup → ((gset W k v).map (·.1)).Nodup
 | [],_ => List.nodup_cons.2 ⟨(fun h => by cases h),List.nodup_nil⟩
 | q :: W,h => by
  unfold gset
  rw [List.map_cons,List.nodup_cons] at h
  split
  ·rename_i hk
   rw [List.map_cons,List.nodup_cons]; exact ⟨hk ▸ h.1,h.2⟩
  ·rename_i hk
   rw [List.map_cons,List.nodup_cons]
   refine ⟨fun hm => ?_,gset_nodup h.2⟩
   obtain ⟨p,hp,e⟩ := List.mem_map.1 hm
   rcases gset_mem p hp with rfl | hp
   ·exact hk e
   ·exact h.1 (List.mem_map.2 ⟨p,hp,e⟩)
theorem gdel_nodup {k : Int} : ∀ {W : List (Int × α)},(W.map (·.1)).Nodup → ((gdel W k).map (·.1)).Nodup
 | [],h => h
 | q :: W,h => by
  unfold gdel
  rw [List.map_cons,List.nodup_cons] at h
  split
  ·exact h.2
  ·rw [List.map_cons,List.nodup_cons]
   refine ⟨fun hm => ?_,gdel_nodup h.2⟩
   obtain ⟨p,hp,e⟩ := List.mem_map.1 hm
   exact h.1 (List.mem_map.2 ⟨p,gdel_mem p hp,e⟩)
end
theorem mset_g (k : Int) (v : Value) : ∀ W : List (Int × Value),mset W k v = gset W k v
 | [] => rfl
 | p :: W => by unfold mset gset; rw [mset_g k v W]
theorem mdel_g (k : Int) : ∀ W : List (Int × Value),mdel W k = gdel W k
 | [] => rfl
 | p :: W => by unfold mdel gdel; rw [mdel_g k W]
theorem mget_g (k : Int) : ∀ W : List (Int × Value),mget W k = gget W k
 | [] => rfl
 | p :: W => by unfold mget gget; rw [mget_g k W]
abbrev DE := MO × ByteArray
def dval (d : DE) : Value := .slice (some ⟨d.1.b,0,none⟩) d.2.size d.1.cap
def dv (Dt : List (Int × DE)) : List (Int × Value) := Dt.map fun p => (p.1,dval p.2)
def dmF (Dt : List (Int × DE)) : List (Int × ByteArray) := Dt.map fun p => (p.1,p.2.2)
def dsO : List DE → List (Nat × Obj)
 | [] => []
 | d :: l => d.1.o 5 (bv d.2.data.toList).toList ++ dsO l
structure DtOk (Dt : List (Int × DE)) (Ds : List DE) : Prop where
 i : ∀ p ∈ Dt,p.2 ∈ Ds
 k : ∀ p ∈ Dt,0 ≤ p.1 ∧ p.1 < 144
 s : ∀ d ∈ Ds,MOk d.1 d.2.size (bv d.2.data.toList).toList ∧ d.2.size ≤ 32768
 nd : (Dt.map (·.1)).Nodup
structure WOk (W : List (ByteArray × Value)) : Prop where
 v : ∀ p ∈ W,∃ q : Nat,q < 144 ∧ p.2 = .int .i64 (q : Int)
 nd : (W.map (·.1)).Nodup
structure BM where
 bb : Nat
 db : Nat
 tb : Nat
 nr : Nat
 rm : Nat
structure BV where
 o : K.Own
 x : Array MapEntry × Nat
 y : Array MapEntry × Nat
 Dt : List (Int × DE)
 Ds : List DE
def batO (z : BM) (v : BV) (T : Tb) : List (Nat × Obj) := (z.bb,.cells #[.pointer (some ⟨z.tb,0,none⟩),.map (some z.db)] 96 (0,0)) :: (z.db,.map v.y.1 v.y.2) :: (z.tb,.cells (tbC T.ps z.nr z.rm) 88 (0,0)) :: (z.nr,.map v.x.1 v.x.2) :: (spO z.rm 121 v.o T.fr ++ dsO v.Ds)
structure BOk (v : BV) (T : Tb) : Prop where
 tb : TbOk T
 w : WOk T.W
 g : Good v.o T.fr
 sm : SMapOk v.x.1 v.x.2 T.W
 m : MapOk v.y.1 v.y.2 (dv v.Dt)
 d : DtOk v.Dt v.Ds
theorem DtOk.put {Dt : List (Int × DE)} {Ds : List DE} (h : DtOk Dt Ds) {k : Nat} (hk : k < 144) {d : DE} (hd : MOk d.1 d.2.size (bv d.2.data.toList).toList) (hs : d.2.size ≤ 32768) : DtOk (gset Dt (k : Int) d) (d :: Ds) := by
 refine ⟨fun p hp => ?_,fun p hp => ?_,fun e he => ?_,gset_nodup h.nd⟩
 ·rcases gset_mem p hp with rfl | hp
  ·exact mH
  ·exact List.mem_cons_of_mem _ (h.i p hp)
 ·rcases gset_mem p hp with rfl | hp
  ·exact ⟨Int.natCast_nonneg k,by show (k : Int) < 144; omega⟩
  ·exact h.k p hp
 ·rcases List.mem_cons.1 he with rfl | he
  ·exact ⟨hd,hs⟩
  ·exact h.s e he
theorem DtOk.del {Dt : List (Int × DE)} {Ds : List DE} (h : DtOk Dt Ds) (k : Int) : DtOk (gdel Dt k) Ds := ⟨fun p hp => h.i p (gdel_mem p hp),fun p hp => h.k p (gdel_mem p hp),h.s,gdel_nodup h.nd⟩
theorem smset_vals {P : Value → Prop} {W : List (ByteArray × Value)} {k : ByteArray} {v : Value} (hv : P v) (h : ∀ p ∈ W,P p.2) : ∀ p ∈ smset W k v,P p.2 := by
 induction W with
 | nil => intro p hp; rw [smset] at hp; rw [List.mem_singleton.1 hp]; exact hv
 | cons q W ih =>
  intro p hp
  unfold smset at hp
  split at hp
  ·rcases List.mem_cons.1 hp with rfl | hp
   ·exact hv
   ·exact h p (List.mem_cons_of_mem _ hp)
  ·rcases List.mem_cons.1 hp with rfl | hp
   ·exact h _ mH
   ·exact ih (fun x hx => h x (List.mem_cons_of_mem _ hx)) p hp
theorem WOk.set {W : List (ByteArray × Value)} (h : WOk W) (s : ByteArray) {k : Nat} (hk : k < 144) : WOk (smset W s (.int .i64 (k : Int))) :=
 ⟨smset_vals (P := fun v => ∃ q : Nat,q < 144 ∧ v = .int .i64 (q : Int)) ⟨k,hk,rfl⟩ h.v,smset_nodup h.nd⟩
theorem WOk.del {W : List (ByteArray × Value)} (h : WOk W) (s : ByteArray) : WOk (smdel W s) := ⟨fun p hp => h.v p (smdel_mem p hp),smdel_nodup h.nd⟩
theorem smget_in {W : List (ByteArray × Value)} {s : ByteArray} {v : Value} (h : smget W s = some v) : (s,v) ∈ W := by
 induction W with
 | nil => cases h
 | cons p W ih =>
  unfold smget at h
  split at h
  ·rename_i hk
   injection h with h
   rw [hk,← h]; exact mH
  ·exact List.mem_cons_of_mem _ (ih h)
theorem WOk.at {W : List (ByteArray × Value)} (h : WOk W) {s : ByteArray} (hs : (smget W s).isSome = true) : ∃ k : Nat,k < 144 ∧ smget W s = some (.int .i64 (k : Int)) := by
 obtain ⟨v,hv⟩ := Option.isSome_iff_exists.1 hs
 obtain ⟨q,h1,h2⟩ := h.v _ (smget_in hv)
 exact ⟨q,h1,by rw [hv]; exact congrArg some h2⟩
def rA (p : Pl) (rb : Nat) : Option Addr := if p.sz = 0 then none else some ⟨rb,0,none⟩
def rnO (p : Pl) (rb : Nat) : List (Nat × Obj) := if p.sz = 0 then [] else [(rb,.cells #[.int .i64 (p.at_ : Int),.int .i64 (secs p.sz : Int)] 117 (0,0))]
theorem fRunU (p : Pl) (w : World) (h : PlOk p) : Calls Tryz.prog 44 #[.agg (plc p).toArray] w fun e w' => ∃ rb : Nat,True ∧ e = .returned (.slice (rA p rb) (runF p).length (runF p).length) ∧ ∃ R1,HP w [] R1 (rnO p rb) w' := by
 by_cases h0 : p.sz = 0
 ·unfold rA rnO runF
  simp only [if_pos h0]
  refine (fRun0 p w h0).mono ?_
  rintro e w' ⟨rfl,hE⟩
  exact ⟨0,trivial,rfl,_,(HP.start w).calm hE⟩
 ·unfold rA rnO runF
  simp only [if_neg h0]
  refine (fRun1 p w om h).mono ?_
  rintro e w' ⟨rb,-,rfl,hs,hb,hE⟩
  have h9 : HP w [] [] [] w' := (HP.start w).calm hE
  exact ⟨rb,trivial,rfl,_,h9.add hb (fun h => by cases h) (.inl hs)⟩
theorem giveP {p : Pl} (ho : PlOk p) (rb rm : Nat) (o : K.Own) (fr : List Bool) (w : World) (hm : fr.length ≤ 4096) (hg : Good o fr) (hA : Has w (spO rm 121 o fr)) (hd : ((spO rm 121 o fr).map (·.1)).Nodup) (hR : Has w (rnO p rb)) (hn : ∀ e ∈ rnO p rb,e.1 ∉ (spO rm 121 o fr).map (·.1)) :
  Calls Tryz.prog 77 #[.pointer (some ⟨rm,0,none⟩),.slice (rA p rb) (runF p).length (runF p).length] w fun e w' => ∃ o2 : K.Own,Good o2 (turnR 121 true (runF p) fr) ∧ e = .returned (.int .i64 ((turnF 121 fr.length true (runF p) fr).1 : Int)) ∧ ∃ R1,HP w ((spO rm 121 o fr).map (·.1)) R1 (spO rm 121 o2 (turnR 121 true (runF p) fr)) w' := by
 have h1 := ho.at_
 have h2 := ho.sz
 by_cases h0 : p.sz = 0
 ·unfold rA runF
  simp only [if_pos h0]
  exact giveU rm 121 o fr none 0 [] [] w (by unfold I64; omega) hm hg (fun h => absurd h (by decide)) (Nat.zero_le _) (fun i => by unfold I64 ra; simp) (fun i => by unfold I64 rl; simp) hA hd (fun e he => by cases he) (fun e he => by cases he)
 ·unfold rnO at hR hn
  unfold rA runF
  simp only [if_neg h0] at hR hn ⊢
  exact giveU rm 121 o fr (some ⟨rb,0,none⟩) 1 _ _ w (by unfold I64; omega) hm hg (ins1 rb 117 (p.at_ : Int) (secs p.sz : Int)) (by show 1 ≤ maxLen; decide) (ra1 (by unfold I64; omega)) (rl1 (by unfold I64 secs; omega)) hA hd hR hn
theorem HP.giv {w0 w : World} {M : List Nat} {R F Rn Sp Tl : List (Nat × Obj)} (h : HP w0 M R (F ++ (Rn ++ (Sp ++ Tl))) w) : Has w Rn ∧ ∀ e ∈ Rn,e.1 ∉ Sp.map (·.1) := by
 refine ⟨fun e he => h.own e (mR (mL he)),fun e he hm => ?_⟩
 have hd := h.dist
 rw [List.map_append,List.map_append,List.map_append] at hd
 exact (List.nodup_append.1 (List.nodup_append.1 hd).2.1).2.2 _ (List.mem_map.2 ⟨e,he,rfl⟩) _ (mL hm) rfl
theorem takeF_at {f : Int} {fr : List Bool} {n : Int} (h : (takeF f fr n).2.1 = 0) : f ≤ (takeF f fr n).1 ∧ (takeF f fr n).1 < f + fr.length := by
 unfold takeF at h ⊢
 split at h
 ·cases h
 ·rename_i hn
  rw [if_neg hn]
  split at h
  ·cases h
  ·simp only [tkG] at h ⊢
   rw [turnF] at h
   split at h
   ·cases h
   ·split at h
    ·rename_i hi
     unfold inP at hi
     rw [decide_eq_true_eq] at hi
     exact hi
    ·cases h
def pfx : List Pl → Nat → Int
 | [],_ => -1
 | p :: l,i => if p.nm.size = 0 then (i : Int) else pfx l (i + 1)
theorem pdrop {l : List Pl} {i : Nat} (h : i < l.length) : l.drop i = l.getD i plz :: l.drop (i + 1) := by
 rw [List.drop_eq_getElem_cons h,getD_of _ h]
theorem pfx_hit {l : List Pl} {i : Nat} (h : i < l.length) (hp : (l.getD i plz).nm.size = 0) : pfx (l.drop i) i = (i : Int) := by rw [pdrop h,pfx,if_pos hp]
theorem pfx_go {l : List Pl} {i : Nat} (h : i < l.length) (hp : ¬ (l.getD i plz).nm.size = 0) : pfx (l.drop i) i = pfx (l.drop (i + 1)) (i + 1) := by rw [pdrop h,pfx,if_neg hp]
theorem pfx_lt : ∀ (l : List Pl) (i : Nat),pfx l i = -1 ∨ ∃ k : Nat,pfx l i = (k : Int) ∧ k < i + l.length
 | [],i => .inl rfl
 | p :: l,i => by
  unfold pfx
  split
  ·exact .inr ⟨i,rfl,by rw [List.length_cons]; omega⟩
  ·rcases pfx_lt l (i + 1) with h | ⟨k,h1,h2⟩
   ·exact .inl h
   ·exact .inr ⟨k,h1,by rw [List.length_cons]; omega⟩
theorem nm_empty (s : ByteArray) : (s.toList == (⟨#[]⟩ : ByteArray).toList) = decide (s.size = 0) := by
 have h := ba_len s
 rw [ByteArray.toList_eq,ByteArray.toList_eq,show (⟨#[]⟩ : ByteArray).data.toList = [] from rfl]
 cases hd : s.data.toList with
 | nil => rw [hd] at h; rw [decide_eq_true (by rw [← h]; rfl)]; rfl
 | cons a l => rw [hd] at h; rw [decide_eq_false (by rw [← h,List.length_cons]; omega)]; rfl
abbrev Dm := List (Int × ByteArray)
def putG (T : Tb) (dm : Dm) (nm da : ByteArray) (k : Nat) (fr : List Bool) : Int × Tb × Dm :=
 if secs da.size = 0 then (0,⟨T.ps.set k ⟨nm,0,da.size⟩,smset T.W nm (.int .i64 (k : Int)),fr⟩,gset dm (k : Int) da)
 else if (takeF 121 fr (secs da.size : Int)).2.1 ≠ 0 then (((takeF 121 fr (secs da.size : Int)).2.1 : Int),⟨T.ps,T.W,(takeF 121 fr (secs da.size : Int)).2.2⟩,dm)
 else (0,⟨T.ps.set k ⟨nm,(takeF 121 fr (secs da.size : Int)).1.toNat,da.size⟩,smset T.W nm (.int .i64 (k : Int)),(takeF 121 fr (secs da.size : Int)).2.2⟩,gset dm (k : Int) da)
def vk : Value → Nat
 | .int _ n => n.toNat
 | _ => 0
def putF (T : Tb) (dm : Dm) (nm da : ByteArray) : Int × Tb × Dm := match smget T.W nm with
 | some v => putG T dm nm da (vk v) (turnR 121 true (runF (T.ps.getD (vk v) plz)) T.fr)
 | none => if pfx T.ps 0 < 0 then (6,T,dm) else putG T dm nm da (pfx T.ps 0).toNat T.fr
theorem putF_there {T : Tb} {dm : Dm} {nm da : ByteArray} {k : Nat} (h : smget T.W nm = some (.int .i64 (k : Int))) : putF T dm nm da = putG T dm nm da k (turnR 121 true (runF (T.ps.getD k plz)) T.fr) := by unfold putF; rw [h]; rfl
theorem putF_new {T : Tb} {dm : Dm} {nm da : ByteArray} {k : Nat} (h : smget T.W nm = none) (hk : pfx T.ps 0 = (k : Int)) : putF T dm nm da = putG T dm nm da k T.fr := by unfold putF; rw [h]; simp only; rw [if_neg (by omega),hk]; rfl
theorem putF_many {T : Tb} {dm : Dm} {nm da : ByteArray} (h : smget T.W nm = none) (hk : pfx T.ps 0 < 0) : putF T dm nm da = (6,T,dm) := by unfold putF; rw [h]; exact if_pos hk
set_option maxRecDepth 100000 in
theorem fPut1 (p : Pl) (w : World) :
  Calls Tryz.prog 119 #[.agg (plc p).toArray] w fun e w' => e = .returned (.bool (decide (p.nm.size = 0))) ∧ Ext [] w w' := by
 refine enter (vs := [.agg (plc p).toArray]) [] [] [] Tryz.func119 rfl kr (HP.start w) ?_
 refine Cfg.begL rfl ?_
 refine Le (Eff.box (v := .agg (plc p).toArray) rfl kr) ?_
 rintro pb ⟨hpb,npb⟩
 refine Lp 1 [] (some [1]) n0 trivial ?_
 refine CfgL.done rfl ?_
 refine Rg [2] [dZ,(dS (.string p.nm))] (fun S => [(cE S pb 0 (.string p.nm))]) ⟨(oC 0 rfl rfl),trivial⟩ ?_
 refine Cfg.ret rfl (rs := [.tmp 2]) rfl [.bool (p.nm.toList == (⟨#[]⟩ : ByteArray).toList)] ⟨kr,trivial⟩ (fun w1 hp => ?_)
 exact ⟨congrArg (fun q => Ending.returned (.bool q)) (nm_empty p.nm),hp.ext⟩
set_option maxRecDepth 100000 in
theorem fIdx (tb nr rm : Nat) (ps : List Pl) (w : World) (hR : Has w [(tb,.cells (tbC ps nr rm) 88 (0,0))]) (hl : ps.length = 144) :
  Calls Tryz.prog 118 #[.slice (some ⟨tb,0,none⟩) 144 144,.func (.func 119) #[] #[]] w fun e w' => e = .returned (.int .i64 (pfx ps 0)) ∧ Ext [] w w' := by
 refine enter (vs := [.slice (some ⟨tb,0,none⟩) 144 144,.func (.func 119) #[] #[]]) [] [(tb,.cells (tbC ps nr rm) 88 (0,0))] [] Tryz.func118 rfl kr (HP.ofHas hR) ?_
 refine Rg [0,1] [] n0 trivial ?_
 refine Rg [0,1,7,8] [] n0 trivial ?_
 refine Cfg.loop rfl (ι := Nat) (fun (i : Nat) => [(8,[],.int .i64 (i : Int)),(7,[],.int .i64 (144 : Int)),(0,[],.slice (some ⟨tb,0,none⟩) 144 144),(1,[],.func (.func 119) #[] #[])]) (fun (i : Nat) => []) (fun (i : Nat) => (i ≤ 144) ∧ (pfx (ps.drop i) i = pfx ps 0)) (fun (i : Nat) => 144 - i) 0 ?_ (Conv.mk kr) .slnil ?_
 ·exact ⟨Nat.zero_le _,by rw [List.drop_zero]⟩
 ·rintro i ⟨hi,hx⟩
  refine Rg [0,1,7,8,9] [] n0 trivial ?_
  refine Cfg.cond rfl (b := (decide ((i : Int) < (144 : Int)))) kr (fun c1r => ?_) (fun c1r => ?_)
  ·have c1 := (dT c1r)
   refine Rg [0,1,5,7,8] [] n0 trivial ?_
   refine Cfg.begL rfl ?_
   refine Lp 5 [dZ,dZ,dZ,dZ,(dS (.agg (plc (ps.getD i plz)).toArray))] (some [0,1,5,7,8,11,15]) (fun S => [(iL (i : Int) 144),(∀ w1,S w1 → (loadVar 85 ⟨tb,(i * 3),none⟩).run Tryz.prog w1 = .ok (.agg (plc (ps.getD i plz)).toArray) w1)]) ⟨om,(fun w1 h => load_list (vs := plc (ps.getD i plz)) Tryz.underlying85 rfl kr (plc_len _) (fun q9 v hq9 => h.rcell 0 rfl ((congrArg (fun z => (tbC ps nr rm)[z]?) (show _ = i * 3 + q9 by first | omega | (rw [addO_eq]; omega))).trans (tb_cell om hq9)))),trivial⟩ ?_
   refine Le (Eff.callAVC (vs := [.agg (plc (ps.getD i plz)).toArray]) (.bool (decide ((ps.getD i plz).nm.size = 0))) [] rfl kr Tryz.func119 rfl rfl kr (fun w1 h => fPut1 (ps.getD i plz) w1)) ?_
   rintro ⟨⟩ -
   refine CfgL.done rfl ?_
   refine Cg (Γ' := [(16,[],.bool (decide ((ps.getD i plz).nm.size = 0))),(5,[],.int .i64 (i : Int)),(8,[],.int .i64 (i : Int)),(7,[],.int .i64 (144 : Int)),(0,[],.slice (some ⟨tb,0,none⟩) 144 144),(1,[],.func (.func 119) #[] #[])]) ?_
   refine Cfg.cond rfl (b := (decide ((ps.getD i plz).nm.size = 0))) kr (fun c2r => ?_) (fun c2r => ?_)
   ·have c2 := (dT c2r)
    refine Rg [4] [] n0 trivial ?_
    refine Cfg.ret rfl (rs := [.tmp 4]) rfl [.int .i64 (i : Int)] ⟨kr,trivial⟩ (fun w1 hp => ?_)
    have hh := pfx_hit (l := ps) (i := i) om c2
    exact ⟨by rw [← hx,hh]; rfl,hp.ext⟩
   ·have c2 := (dF c2r)
    refine Rg [0,1,7,8] [] (fun _ => [(i6 ((i : Int) + 1))]) ⟨om,trivial⟩ ?_
    have hgo := pfx_go (l := ps) (i := i) om c2
    refine Cfg.again rfl (i + 1) ⟨by omega,hgo ▸ hx⟩ (by show 144 - (i + 1) < 144 - i; omega) (Conv.mk kr) .slnil
  ·have c1 := (dF c1r)
   refine Rg [4] [] n0 trivial ?_
   refine Cfg.ret rfl (rs := [.tmp 4]) rfl [.int .i64 (-1)] ⟨kr,trivial⟩ (fun w1 hp => ?_)
   rw [List.drop_eq_nil_of_le om] at hx
   exact ⟨by rw [← hx]; rfl,hp.ext⟩
end Go.Proofs.YtfgdepggdiibdaaGreatDoor
namespace Go.Proofs.YtfgdepggdiibdaaGreatDoor
open K
set_option linter.unusedVariables false
set_option maxRecDepth 100000 in
set_option maxHeartbeats 4000000 in
theorem fPut (z : BM) (v : BV) (T : Tb) (nm da : ByteArray) (w : World) (hA : Has w (batO z v T)) (hd : ((batO z v T).map (·.1)).Nodup) (hb : BOk v T) (hn : nm.size ≤ 72) (hda : da.size ≤ 32768) :
  Calls Tryz.prog 76 #[.pointer (some ⟨z.bb,0,none⟩),.string nm,.string da] w fun e w' => ∃ v2 : BV,(BOk v2 (putF T (dmF v.Dt) nm da).2.1 ∧ dmF v2.Dt = (putF T (dmF v.Dt) nm da).2.2) ∧ e = .returned (.int .i64 (putF T (dmF v.Dt) nm da).1) ∧ ∃ R1,HP w ((batO z v T).map (·.1)) R1 (batO z v2 (putF T (dmF v.Dt) nm da).2.1) w' := by
 have hf9 := hb.tb.f
 have hl9 := hb.tb.l
 have hsd : secs da.size ≤ 64 := by unfold secs; omega
 refine enter (vs := [.pointer (some ⟨z.bb,0,none⟩),.string nm,.string da]) ((batO z v T).map (·.1)) [] ([(z.bb,.cells #[.pointer (some ⟨z.tb,0,none⟩),.map (some z.db)] 96 (0,0)),(z.db,.map v.y.1 v.y.2),(z.tb,.cells (tbC T.ps z.nr z.rm) 88 (0,0)),(z.nr,.map v.x.1 v.x.2)] ++ (spO z.rm 121 v.o T.fr ++ (dsO v.Ds ++ []))) Tryz.func76 rfl kr (by rw [List.append_nil]; exact HP.ofL hA hd (R := []) (fun e he => by cases he) (fun e he => by cases he)) ?_
 refine Rg [0,1,2] [] n0 trivial ?_
 refine Cfg.begL rfl ?_
 refine Lp 8 [dZ,dZ,dZ,(dS (.pointer (some ⟨z.tb,0,none⟩))),dZ,dZ,(dS (.map (some z.nr)))] (some [0,1,2,20,21]) (fun S => [(∀ w1,S w1 → w1.cell? ⟨z.bb,0,none⟩ = some (.pointer (some ⟨z.tb,0,none⟩))),(∀ w1,S w1 → w1.cell? ⟨z.tb,432,none⟩ = some (.map (some z.nr)))]) ⟨(oC 0 rfl rfl),(fun w1 h => h.ocell 2 rfl (tb_names hb.tb.l)),trivial⟩ ?_
 refine Le (Eff.sGet (z := .int .i64 0) (r := z.nr) (k := nm) (es := v.x.1) (ck := v.x.2) (W := T.W) rfl Tryz.underlying81 Tryz.underlying9 kr kr kr hb.sm (fun w1 h => (h.own (z.nr,Obj.map v.x.1 v.x.2) (show (z.nr,Obj.map v.x.1 v.x.2) ∈ ([(z.bb,Obj.cells #[.pointer (some ⟨z.tb,0,none⟩),.map (some z.db)] 96 (0,0)),(z.db,Obj.map v.y.1 v.y.2),(z.tb,Obj.cells (tbC T.ps z.nr z.rm) 88 (0,0)),(z.nr,Obj.map v.x.1 v.x.2)] ++ (spO z.rm 121 v.o T.fr ++ (dsO v.Ds ++ []))) from (mL (mG 3 rfl)))))) ?_
 rintro ⟨⟩ -
 refine Lp 5 [] (some [0,1,2,7,8]) n0 trivial ?_
 refine CfgL.done rfl ?_
 refine Rg [0,1,2,7,25] [] n0 trivial ?_
 refine Cfg.cond rfl (b := (smget T.W nm).isSome) kr (fun c1r => ?_) (fun c1r => ?_)
 ·have c1 : ((smget T.W nm).isSome = true) := c1r
  obtain ⟨k,hk,hsk⟩ := hb.w.at (s := nm) c1
  have hpk : PlOk (T.ps.getD k plz) := hb.tb.o _ (K.getD_mem (by rw [hb.tb.l]; exact hk))
  refine Cfg.setS 7 (congrArg (fun (xq : Value) => (xq : Value)) (show (smget T.W nm).getD (.int .i64 0) = .int .i64 (k : Int) from by rw [hsk]; rfl)) ?_
  refine Cfg.begA rfl kr ([(z.bb,.cells #[.pointer (some ⟨z.tb,0,none⟩),.map (some z.db)] 96 (0,0)),(z.db,.map v.y.1 v.y.2),(z.tb,.cells (tbC T.ps z.nr z.rm) 88 (0,0)),(z.nr,.map v.x.1 v.x.2)] ++ (dsO v.Ds ++ [])) ?_
  refine Ap (List.range 16) [dZ,dZ,dZ,(dS (.pointer (some ⟨z.tb,0,none⟩))),dZ,dZ,(dS (.pointer (some ⟨z.rm,0,none⟩))),dZ,dZ,dZ,(dS (.pointer (some ⟨z.tb,0,none⟩))),dZ,dZ,dZ,dZ,(dS (.agg (plc (T.ps.getD k plz)).toArray))] (some [0,1,2,7,32,41]) (tF 16 2) (.cons_cons _ (.cons_cons _ (.cons_cons _ (.cons_cons _ (show List.Sublist (dsO v.Ds ++ []) (spO z.rm 121 v.o T.fr ++ (dsO v.Ds ++ [])) from (List.Sublist.trans (List.Sublist.append (List.Sublist.refl (dsO v.Ds)) (List.nil_sublist _)) (List.sublist_append_right (spO z.rm 121 v.o T.fr) _))))))) 2 (fun S => [(∀ w1,S w1 → w1.cell? ⟨z.bb,0,none⟩ = some (.pointer (some ⟨z.tb,0,none⟩))),(∀ w1,S w1 → w1.cell? ⟨z.tb,433,none⟩ = some (.pointer (some ⟨z.rm,0,none⟩))),(∀ w1,S w1 → w1.cell? ⟨z.bb,0,none⟩ = some (.pointer (some ⟨z.tb,0,none⟩))),(iL (k : Int) 144),(∀ w1,S w1 → (loadVar 85 ⟨z.tb,(k * 3),none⟩).run Tryz.prog w1 = .ok (.agg (plc (T.ps.getD k plz)).toArray) w1)]) ⟨(oC 0 rfl rfl),(fun w1 h => h.ocell 2 rfl (tb_room hb.tb.l)),(oC 0 rfl rfl),om,(fun w1 h => load_list (vs := plc (T.ps.getD k plz)) Tryz.underlying85 rfl kr (plc_len _) (fun q9 v hq9 => h.ocell 2 rfl (tb_cell (by rw [hb.tb.l]; exact hk) hq9))),trivial⟩ ?_
  refine Ae 16 rfl 1  (Eff.callH (vs := [.agg (plc (T.ps.getD k plz)).toArray]) (fun rb : Nat => .slice (rA (T.ps.getD k plz) rb) ((runF (T.ps.getD k plz)).length) ((runF (T.ps.getD k plz)).length)) [] (fun rb => rnO (T.ps.getD k plz) rb) (fun _ => True) [(z.bb,.cells #[.pointer (some ⟨z.tb,0,none⟩),.map (some z.db)] 96 (0,0)),(z.db,.map v.y.1 v.y.2),(z.tb,.cells (tbC T.ps z.nr z.rm) 88 (0,0)),(z.nr,.map v.x.1 v.x.2)] (spO z.rm 121 v.o T.fr ++ (dsO v.Ds ++ [])) rfl rfl Tryz.func44 rfl rfl kr (fun w1 h _ _ => fRunU (T.ps.getD k plz) w1 hpk)) (by rintro rb -; exact (.cons_cons _ (.cons_cons _ (.cons_cons _ (.cons_cons _ (show List.Sublist (dsO v.Ds ++ []) (rnO (T.ps.getD k plz) rb ++ (spO z.rm 121 v.o T.fr ++ (dsO v.Ds ++ []))) from (List.Sublist.trans (List.Sublist.trans (List.Sublist.append (List.Sublist.refl (dsO v.Ds)) (List.nil_sublist _)) (List.sublist_append_right (spO z.rm 121 v.o T.fr) _)) (List.sublist_append_right (rnO (T.ps.getD k plz) rb) _)))))))) ?_
  rintro rb -
  refine Ae 17 rfl 0  (Eff.callH (vs := [.pointer (some ⟨z.rm,0,none⟩),.slice (rA (T.ps.getD k plz) rb) ((runF (T.ps.getD k plz)).length) ((runF (T.ps.getD k plz)).length)]) (fun _ : K.Own => .int .i64 ((turnF 121 T.fr.length true (runF (T.ps.getD k plz)) T.fr).1 : Int)) (spO z.rm 121 v.o T.fr) (fun o => spO z.rm 121 o (turnR 121 true (runF (T.ps.getD k plz)) T.fr)) (fun o => Good o (turnR 121 true (runF (T.ps.getD k plz)) T.fr)) ([(z.bb,.cells #[.pointer (some ⟨z.tb,0,none⟩),.map (some z.db)] 96 (0,0)),(z.db,.map v.y.1 v.y.2),(z.tb,.cells (tbC T.ps z.nr z.rm) 88 (0,0)),(z.nr,.map v.x.1 v.x.2)] ++ (rnO (T.ps.getD k plz) rb)) (dsO v.Ds ++ []) rfl rfl Tryz.func77 rfl rfl kr (fun w1 h hA1 hd1 => giveP hpk rb z.rm v.o T.fr w1 hb.tb.f hb.g hA1 hd1 (HP.giv (F := [(z.bb,.cells #[.pointer (some ⟨z.tb,0,none⟩),.map (some z.db)] 96 (0,0)),(z.db,.map v.y.1 v.y.2),(z.tb,.cells (tbC T.ps z.nr z.rm) 88 (0,0)),(z.nr,.map v.x.1 v.x.2)]) (Rn := rnO (T.ps.getD k plz) rb) (Sp := spO z.rm 121 v.o T.fr) (Tl := (dsO v.Ds ++ [])) h).1 (HP.giv (F := [(z.bb,.cells #[.pointer (some ⟨z.tb,0,none⟩),.map (some z.db)] 96 (0,0)),(z.db,.map v.y.1 v.y.2),(z.tb,.cells (tbC T.ps z.nr z.rm) 88 (0,0)),(z.nr,.map v.x.1 v.x.2)]) (Rn := rnO (T.ps.getD k plz) rb) (Sp := spO z.rm 121 v.o T.fr) (Tl := (dsO v.Ds ++ [])) h).2)) (by rintro o1 hg1; exact (.cons_cons _ (.cons_cons _ (.cons_cons _ (.cons_cons _ (show List.Sublist (dsO v.Ds ++ []) (rnO (T.ps.getD k plz) rb ++ (spO z.rm 121 o1 (turnR 121 true (runF (T.ps.getD k plz)) T.fr) ++ (dsO v.Ds ++ []))) from (List.Sublist.trans (List.Sublist.trans (List.Sublist.append (List.Sublist.refl (dsO v.Ds)) (List.nil_sublist _)) (List.sublist_append_right (spO z.rm 121 o1 (turnR 121 true (runF (T.ps.getD k plz)) T.fr)) _)) (List.sublist_append_right (rnO (T.ps.getD k plz) rb) _)))))))) ?_
  rintro o1 hg1
  refine CfgA.done kr ?_
  refine Cg (Γ' := [(7,[],.int .i64 (k : Int)),(0,[],.pointer (some ⟨z.bb,0,none⟩)),(1,[],.string nm),(2,[],.string da)]) ?_
  obtain ⟨fr1,hf1⟩ : ∃ f,f = (turnR 121 true (runF (T.ps.getD k plz)) T.fr) := ⟨_,rfl⟩
  have hl1 : fr1.length = T.fr.length := by rw [hf1]; exact turnR_len _ _ _ _
  have hgd1 : Good o1 fr1 := by rw [hf1]; exact hg1
  have hput : putF T (dmF v.Dt) nm da = putG T (dmF v.Dt) nm da k fr1 := by rw [hf1]; exact putF_there hsk
  refine Cfg.setO (congrArg (fun (xq : List Bool) => (([(z.bb,.cells #[.pointer (some ⟨z.tb,0,none⟩),.map (some z.db)] 96 (0,0)),(z.db,.map v.y.1 v.y.2),(z.tb,.cells (tbC T.ps z.nr z.rm) 88 (0,0)),(z.nr,.map v.x.1 v.x.2)] ++ (rnO (T.ps.getD k plz) rb ++ (spO z.rm 121 o1 xq ++ (dsO v.Ds ++ [])))) : LO)) (show _ = fr1 from by rw [hf1])) ?_
  refine Cfg.begL rfl ?_
  refine Lp 4 [dZ,dZ,dZ,(dS (.agg (plc ⟨nm,0,da.size⟩).toArray))] (some [0,1,2,7,57]) (fun S => [(∀ w1,S w1 → (Instr.build 85 #[(0,.string nm),(2,.int .i64 (da.size : Int))]).run Tryz.prog w1 = .ok (.agg (plc ⟨nm,0,da.size⟩).toArray) w1)]) ⟨(fun _ _ => kr),trivial⟩ ?_
  refine Le (Eff.alloc (z := (.agg (plc plz).toArray)) rfl kr) ?_
  rintro pb ⟨hpb,npb⟩
  refine Le (Eff.storeN (b := pb) (off := 0) (vs := (plc ⟨nm,0,da.size⟩).toArray) (n := 3) rfl kr kr kr rfl (all_plc _) 0 (cs := (plc plz).toArray) (e := 85) kr (Nat.le_refl 3)) ?_
  rintro ⟨⟩ -
  refine CfgL.setO (congrArg (fun (xq : Array Value) => (([(pb,.cells xq 85 (0,0)),(z.bb,.cells #[.pointer (some ⟨z.tb,0,none⟩),.map (some z.db)] 96 (0,0)),(z.db,.map v.y.1 v.y.2),(z.tb,.cells (tbC T.ps z.nr z.rm) 88 (0,0)),(z.nr,.map v.x.1 v.x.2)] ++ (rnO (T.ps.getD k plz) rb ++ (spO z.rm 121 o1 fr1 ++ (dsO v.Ds ++ [])))) : LO)) (show _ = ((plc ⟨nm,0,da.size⟩).toArray) from (show spl (plc plz).toArray 0 (plc ⟨nm,0,da.size⟩).toArray.toList = _ from spl_all rfl))) ?_
  refine CfgL.done rfl ?_
  refine Cg (Γ' := [(9,[],pT pb),(7,[],.int .i64 (k : Int)),(0,[],.pointer (some ⟨z.bb,0,none⟩)),(1,[],.string nm),(2,[],.string da)]) ?_
  refine Rg [0,1,2,7,9,10] [] (fun _ => [(i6 ((da.size : Int) + 512)),(i6 (((da.size : Int) + 512) - 1)),(0 ≤ (((da.size : Int) + 512) - 1) ∧ (((da.size : Int) + 512) - 1) ≤ 9223372036854775807 ∧ 0 < (512 : Int))]) ⟨om,om,om,trivial⟩ ?_
  refine Cfg.setS 10 (congrArg (fun (xq : Int) => (.int .i64 xq : Value)) (show ((((da.size : Int) + 512) - 1) / 512) = ((secs da.size) : Int) from by unfold secs; omega)) ?_
  refine Rg [0,1,2,7,9,10,64] [] n0 trivial ?_
  refine Cfg.cond rfl (b := (decide (((secs da.size) : Int) > (0 : Int)))) kr (fun c2r => ?_) (fun c2r => ?_)
  ·have c2 := (dT c2r)
   refine Cfg.begL rfl ?_
   refine Lp 8 [dZ,dZ,dZ,(dS (.pointer (some ⟨z.tb,0,none⟩))),dZ,dZ,(dS (.pointer (some ⟨z.rm,0,none⟩)))] (some [0,1,2,7,9,72,73]) (fun S => [(∀ w1,S w1 → w1.cell? ⟨z.bb,0,none⟩ = some (.pointer (some ⟨z.tb,0,none⟩))),(∀ w1,S w1 → w1.cell? ⟨z.tb,433,none⟩ = some (.pointer (some ⟨z.rm,0,none⟩)))]) ⟨(oC 1 rfl rfl),(fun w1 h => h.ocell 3 rfl (tb_room hb.tb.l)),trivial⟩ ?_
   refine Le (Eff.callH (vs := [.pointer (some ⟨z.rm,0,none⟩),.int .i64 ((secs da.size) : Int)]) (fun _ : K.Own => .tuple #[.int .i64 ((takeF 121 fr1 (secs da.size : Int)).1),.int .i64 ((takeF 121 fr1 (secs da.size : Int)).2.1 : Int)]) (spO z.rm 121 o1 fr1) (fun o => spO z.rm 121 o (takeF 121 fr1 (secs da.size : Int)).2.2) (fun o => Good o (takeF 121 fr1 (secs da.size : Int)).2.2) ([(pb,.cells ((plc ⟨nm,0,da.size⟩).toArray) 85 (0,0)),(z.bb,.cells #[.pointer (some ⟨z.tb,0,none⟩),.map (some z.db)] 96 (0,0)),(z.db,.map v.y.1 v.y.2),(z.tb,.cells (tbC T.ps z.nr z.rm) 88 (0,0)),(z.nr,.map v.x.1 v.x.2)] ++ (rnO (T.ps.getD k plz) rb)) (dsO v.Ds ++ []) rfl rfl Tryz.func97 rfl rfl kr (fun w1 h hA1 hd1 => takeU z.rm 121 o1 fr1 (secs da.size : Int) w1 om om hgd1 (by unfold I64; omega) hA1 hd1)) ?_
   rintro o2 hg2
   refine Lp 5 [] (some [0,1,2,7,9,11,12]) n0 trivial ?_
   refine CfgL.done rfl ?_
   refine Rg [0,1,2,7,9,11,12,78] [] n0 trivial ?_
   refine Cfg.cond rfl (b := (((takeF 121 fr1 (secs da.size : Int)).2.1 : Int) != (0 : Int))) kr (fun c3r => ?_) (fun c3r => ?_)
   ·have c3 := (bne_iff_ne.1 c3r)
    refine Rg [6] [] n0 trivial ?_
    refine Cfg.ret rfl (rs := [.tmp 6]) rfl [.int .i64 ((takeF 121 fr1 (secs da.size : Int)).2.1 : Int)] ⟨kr,trivial⟩ (fun w1 hp => ?_)
    have hfin : putF T (dmF v.Dt) nm da = (((takeF 121 fr1 (secs da.size : Int)).2.1 : Int),⟨T.ps,T.W,(takeF 121 fr1 (secs da.size : Int)).2.2⟩,dmF v.Dt) := hput.trans ((if_neg om).trans (if_pos om))
    rw [hfin]
    have h9 : HP w ((batO z v T).map (·.1)) [] ([(z.bb,Obj.cells #[.pointer (some ⟨z.tb,0,none⟩),.map (some z.db)] 96 (0,0)),(z.db,Obj.map v.y.1 v.y.2),(z.tb,Obj.cells (tbC T.ps z.nr z.rm) 88 (0,0)),(z.nr,Obj.map v.x.1 v.x.2)] ++ (spO z.rm 121 o2 ((takeF 121 fr1 (secs da.size : Int)).2.2) ++ (dsO v.Ds ++ []))) w1 := hp.sub (.cons _ (.cons_cons _ (.cons_cons _ (.cons_cons _ (.cons_cons _ (show List.Sublist (spO z.rm 121 o2 ((takeF 121 fr1 (secs da.size : Int)).2.2) ++ (dsO v.Ds ++ [])) (rnO (T.ps.getD k plz) rb ++ (spO z.rm 121 o2 ((takeF 121 fr1 (secs da.size : Int)).2.2) ++ (dsO v.Ds ++ []))) from (List.Sublist.trans (List.Sublist.append (List.Sublist.refl (spO z.rm 121 o2 ((takeF 121 fr1 (secs da.size : Int)).2.2))) (List.Sublist.append (List.Sublist.refl (dsO v.Ds)) (List.nil_sublist _))) (List.sublist_append_right (rnO (T.ps.getD k plz) rb) _))))))))
    rw [List.append_nil] at h9
    exact ⟨⟨o2,v.x,v.y,v.Dt,v.Ds⟩,⟨⟨⟨hb.tb.l,hb.tb.o,by show (takeF 121 fr1 (secs da.size : Int)).2.2.length ≤ 4096; rw [takeF_len]; omega⟩,hb.w,hg2,hb.sm,hb.m,hb.d⟩,rfl⟩,rfl,_,h9⟩
   ·have c3 := (bne_eq_false_iff_eq.1 c3r)
    have htk := takeF_at (f := 121) (fr := fr1) (n := (secs da.size : Int)) om
    obtain ⟨a1,ha1⟩ := Int.eq_ofNat_of_zero_le (show 0 ≤ (takeF 121 fr1 (secs da.size : Int)).1 by omega)
    refine Cfg.setS 11 (congrArg (fun (xq : Int) => (.int .i64 xq : Value)) (show ((takeF 121 fr1 (secs da.size : Int)).1) = (a1 : Int) from ha1)) ?_
    refine Cfg.begL rfl ?_
    refine Lp 2 [] (some [0,1,2,7,9,80,81]) n0 trivial ?_
    refine Le (Eff.store1 (b := pb) (off := 1) (v := .int .i64 (a1 : Int)) rfl kr kr rfl kr 0 (cs := (plc ⟨nm,0,da.size⟩).toArray) (e := 85) kr (by show 1 < 3; decide)) ?_
    rintro ⟨⟩ -
    refine CfgL.done rfl ?_
    refine Cg (Γ' := [(9,[],pT pb),(7,[],.int .i64 (k : Int)),(0,[],.pointer (some ⟨z.bb,0,none⟩)),(1,[],.string nm),(2,[],.string da)]) ?_
    obtain ⟨P,hP⟩ : ∃ P : Pl,P = ⟨nm,a1,da.size⟩ := ⟨_,rfl⟩
    have hPo : PlOk P := by rw [hP]; exact ⟨hn,by show a1 < 4294967296; omega,hda⟩
    refine Cfg.setO (congrArg (fun (xq : Array Value) => (([(pb,.cells xq 85 (0,0)),(z.bb,.cells #[.pointer (some ⟨z.tb,0,none⟩),.map (some z.db)] 96 (0,0)),(z.db,.map v.y.1 v.y.2),(z.tb,.cells (tbC T.ps z.nr z.rm) 88 (0,0)),(z.nr,.map v.x.1 v.x.2)] ++ (rnO (T.ps.getD k plz) rb ++ (spO z.rm 121 o2 ((takeF 121 fr1 (secs da.size : Int)).2.2) ++ (dsO v.Ds ++ [])))) : LO)) (show _ = ((plc P).toArray) from by rw [hP] <;> rfl)) ?_
    refine Cfg.begA rfl kr ([(pb,.cells ((plc P).toArray) 85 (0,0)),(z.bb,.cells #[.pointer (some ⟨z.tb,0,none⟩),.map (some z.db)] 96 (0,0)),(z.db,.map v.y.1 v.y.2),(z.nr,.map v.x.1 v.x.2)] ++ (rnO (T.ps.getD k plz) rb ++ (spO z.rm 121 o2 ((takeF 121 fr1 (secs da.size : Int)).2.2) ++ (dsO v.Ds ++ [])))) ?_
    refine Ap (List.range 9) [dZ,dZ,dZ,(dS (.pointer (some ⟨z.tb,0,none⟩))),dZ,(dS (.agg (plc P).toArray))] (some [0,1,2,7,87,90]) (tF 9 1) (.cons_cons _ (.cons_cons _ (.cons_cons _ (.cons _ slr)))) 1 (fun S => [(∀ w1,S w1 → w1.cell? ⟨z.bb,0,none⟩ = some (.pointer (some ⟨z.tb,0,none⟩))),(∀ w1,S w1 → (loadVar 85 ⟨pb,0,none⟩).run Tryz.prog w1 = .ok (.agg (plc P).toArray) w1),(iL (k : Int) 144)]) ⟨(oC 1 rfl rfl),(fun w1 h => load_list (vs := plc P) Tryz.underlying85 rfl kr (plc_len _) (fun q9 v hq9 => h.ocell 0 rfl (by rw [List.getElem?_toArray,Nat.zero_add]; exact hq9))),om,trivial⟩ ?_
    refine Ae 9 rfl 0  (Eff.storeN (b := z.tb) (off := (k * 3)) (vs := (plc P).toArray) (n := 3) rfl kr kr kr rfl (all_plc _) 3 (cs := (tbC T.ps z.nr z.rm)) (e := 88) kr (by unfold tbC; rw [List.size_toArray,List.length_append,plf_len]; simp only [List.length_cons,List.length_nil]; omega)) (fun _ _ => (.cons_cons _ (.cons_cons _ (.cons_cons _ (.cons _ slr))))) ?_
    rintro ⟨⟩ -
    refine CfgA.setO (congrArg (fun (xq : Array Value) => (([(pb,.cells ((plc P).toArray) 85 (0,0)),(z.bb,.cells #[.pointer (some ⟨z.tb,0,none⟩),.map (some z.db)] 96 (0,0)),(z.db,.map v.y.1 v.y.2),(z.tb,.cells xq 88 (0,0)),(z.nr,.map v.x.1 v.x.2)] ++ (rnO (T.ps.getD k plz) rb ++ (spO z.rm 121 o2 ((takeF 121 fr1 (secs da.size : Int)).2.2) ++ (dsO v.Ds ++ [])))) : LO)) (show _ = (tbC (T.ps.set k P) z.nr z.rm) from tb_set2 (by rw [hb.tb.l]; exact hk) rfl)) ?_
    refine CfgA.done kr ?_
    refine Cg (Γ' := [(7,[],.int .i64 (k : Int)),(0,[],.pointer (some ⟨z.bb,0,none⟩)),(1,[],.string nm),(2,[],.string da)]) ?_
    refine Cfg.begL rfl ?_
    refine Lp 9 [dZ,dZ,dZ,(dS (.pointer (some ⟨z.tb,0,none⟩))),dZ,dZ,(dS (.map (some z.nr)))] (some [0,2,7,97,98,99]) (fun S => [(∀ w1,S w1 → w1.cell? ⟨z.bb,0,none⟩ = some (.pointer (some ⟨z.tb,0,none⟩))),(∀ w1,S w1 → w1.cell? ⟨z.tb,432,none⟩ = some (.map (some z.nr)))]) ⟨(oC 1 rfl rfl),(fun w1 h => h.ocell 3 rfl (tb_names (show (T.ps.set k P).length = 144 by rw [List.length_set]; exact hb.tb.l))),trivial⟩ ?_
    refine Le (Eff.sSet (r := z.nr) (k := nm) (u := .int .i64 (k : Int)) (es := v.x.1) (ck := v.x.2) rfl Tryz.underlying81 Tryz.underlying9 kr kr kr hb.sm 4 kr) ?_
    rintro x2 hx2
    refine CfgL.done rfl ?_
    refine Cg (Γ' := [(7,[],.int .i64 (k : Int)),(0,[],.pointer (some ⟨z.bb,0,none⟩)),(2,[],.string da)]) ?_
    refine Cfg.begL rfl ?_
    refine Lp 6 [dZ,dZ,dZ,(dS (.map (some z.db)))] (some [103,104,105]) (fun S => [(∀ w1,S w1 → w1.cell? ⟨z.bb,1,none⟩ = some (.map (some z.db)))]) ⟨(oC 1 rfl rfl),trivial⟩ ?_
    refine Le (Eff.toBytes rfl Tryz.underlying9 Tryz.underlying111 Tryz.underlying5 (t := da) kr [(pb,.cells ((plc P).toArray) 85 (0,0)),(z.bb,.cells #[.pointer (some ⟨z.tb,0,none⟩),.map (some z.db)] 96 (0,0)),(z.db,.map v.y.1 v.y.2),(z.tb,.cells (tbC (T.ps.set k P) z.nr z.rm) 88 (0,0)),(z.nr,.map x2.1 x2.2)] (rnO (T.ps.getD k plz) rb ++ (spO z.rm 121 o2 ((takeF 121 fr1 (secs da.size : Int)).2.2) ++ (dsO v.Ds ++ []))) rfl) ?_
    rintro d1 hd1
    refine Le (Eff.mapSet (r := z.db) (k := (k : Int)) (u := dval (d1,da)) (es := v.y.1) (ck := v.y.2) rfl Tryz.underlying94 Tryz.underlying3 kr kr kr hb.m 2 kr) ?_
    rintro y2 hy2
    refine CfgL.done rfl ?_
    refine Cg (Γ' := []) ?_
    refine Rg [6] [] n0 trivial ?_
    refine Cfg.ret rfl (rs := [.tmp 6]) rfl [.int .i64 0] ⟨kr,trivial⟩ (fun w1 hp => ?_)
    have hfin : putF T (dmF v.Dt) nm da = (0,⟨T.ps.set k P,smset T.W nm (.int .i64 (k : Int)),(takeF 121 fr1 (secs da.size : Int)).2.2⟩,gset (dmF v.Dt) (k : Int) da) := by
     rw [show P = ⟨nm,(takeF 121 fr1 (secs da.size : Int)).1.toNat,da.size⟩ by rw [hP]; simp only [ha1,Int.toNat_natCast]]
     exact hput.trans ((if_neg om).trans (if_neg om))
    rw [hfin]
    have hy3 : MapOk y2.1 y2.2 (dv (gset v.Dt (k : Int) (d1,da))) := by
     have h8 := hy2
     rw [mset_g] at h8
     unfold dv
     rw [← gset_map]
     exact h8
    have h8 : HP w ((batO z v T).map (·.1)) [] ([(z.bb,Obj.cells #[.pointer (some ⟨z.tb,0,none⟩),.map (some z.db)] 96 (0,0)),(z.db,Obj.map y2.1 y2.2),(z.tb,Obj.cells (tbC (T.ps.set k P) z.nr z.rm) 88 (0,0)),(z.nr,Obj.map x2.1 x2.2)] ++ (MO.o 5 (bv da.data.toList).toList d1 ++ (spO z.rm 121 o2 ((takeF 121 fr1 (secs da.size : Int)).2.2) ++ (dsO v.Ds ++ [])))) w1 := hp.sub (.cons _ (.cons_cons _ (.cons_cons _ (.cons_cons _ (.cons_cons _ (show List.Sublist (MO.o 5 (bv da.data.toList).toList d1 ++ (spO z.rm 121 o2 ((takeF 121 fr1 (secs da.size : Int)).2.2) ++ (dsO v.Ds ++ []))) (MO.o 5 (bv da.data.toList).toList d1 ++ (rnO (T.ps.getD k plz) rb ++ (spO z.rm 121 o2 ((takeF 121 fr1 (secs da.size : Int)).2.2) ++ (dsO v.Ds ++ [])))) from (List.Sublist.append (List.Sublist.refl (MO.o 5 (bv da.data.toList).toList d1)) (List.Sublist.trans (List.Sublist.append (List.Sublist.refl (spO z.rm 121 o2 ((takeF 121 fr1 (secs da.size : Int)).2.2))) (List.Sublist.append (List.Sublist.refl (dsO v.Ds)) (List.nil_sublist _))) (List.sublist_append_right (rnO (T.ps.getD k plz) rb) _)))))))))
    have h9 := h8.perm (List.Perm.append_left [(z.bb,Obj.cells #[.pointer (some ⟨z.tb,0,none⟩),.map (some z.db)] 96 (0,0)),(z.db,Obj.map y2.1 y2.2),(z.tb,Obj.cells (tbC (T.ps.set k P) z.nr z.rm) 88 (0,0)),(z.nr,Obj.map x2.1 x2.2)] (List.perm_append_comm_assoc (MO.o 5 (bv da.data.toList).toList d1) (spO z.rm 121 o2 ((takeF 121 fr1 (secs da.size : Int)).2.2)) (dsO v.Ds ++ [])))
    rw [List.append_nil] at h9
    exact ⟨⟨o2,x2,y2,gset v.Dt (k : Int) (d1,da),(d1,da) :: v.Ds⟩,⟨⟨tb_in hb.tb hPo hk (W := smset T.W nm (.int .i64 (k : Int))) (fr := (takeF 121 fr1 (secs da.size : Int)).2.2) (by rw [takeF_len]; omega),hb.w.set nm hk,hg2,hx2,hy3,hb.d.put hk hd1 hda⟩,(gset_map (fun d : DE => d.2) (k : Int) (d1,da) v.Dt).symm⟩,rfl,_,h9⟩
  ·have c2 := (dF c2r)
   obtain ⟨P,hP⟩ : ∃ P : Pl,P = ⟨nm,0,da.size⟩ := ⟨_,rfl⟩
   have hPo : PlOk P := by rw [hP]; exact ⟨hn,by show 0 < 4294967296; omega,hda⟩
   refine Cfg.setO (congrArg (fun (xq : Array Value) => (([(pb,.cells xq 85 (0,0)),(z.bb,.cells #[.pointer (some ⟨z.tb,0,none⟩),.map (some z.db)] 96 (0,0)),(z.db,.map v.y.1 v.y.2),(z.tb,.cells (tbC T.ps z.nr z.rm) 88 (0,0)),(z.nr,.map v.x.1 v.x.2)] ++ (rnO (T.ps.getD k plz) rb ++ (spO z.rm 121 o1 fr1 ++ (dsO v.Ds ++ [])))) : LO)) (show _ = ((plc P).toArray) from by rw [hP] <;> rfl)) ?_
   refine Cfg.begA rfl kr ([(pb,.cells ((plc P).toArray) 85 (0,0)),(z.bb,.cells #[.pointer (some ⟨z.tb,0,none⟩),.map (some z.db)] 96 (0,0)),(z.db,.map v.y.1 v.y.2),(z.nr,.map v.x.1 v.x.2)] ++ (rnO (T.ps.getD k plz) rb ++ (spO z.rm 121 o1 fr1 ++ (dsO v.Ds ++ [])))) ?_
   refine Ap (List.range 9) [dZ,dZ,dZ,(dS (.pointer (some ⟨z.tb,0,none⟩))),dZ,(dS (.agg (plc P).toArray))] (some [0,1,2,7,87,90]) (tF 9 1) (.cons_cons _ (.cons_cons _ (.cons_cons _ (.cons _ slr)))) 1 (fun S => [(∀ w1,S w1 → w1.cell? ⟨z.bb,0,none⟩ = some (.pointer (some ⟨z.tb,0,none⟩))),(∀ w1,S w1 → (loadVar 85 ⟨pb,0,none⟩).run Tryz.prog w1 = .ok (.agg (plc P).toArray) w1),(iL (k : Int) 144)]) ⟨(oC 1 rfl rfl),(fun w1 h => load_list (vs := plc P) Tryz.underlying85 rfl kr (plc_len _) (fun q9 v hq9 => h.ocell 0 rfl (by rw [List.getElem?_toArray,Nat.zero_add]; exact hq9))),om,trivial⟩ ?_
   refine Ae 9 rfl 0  (Eff.storeN (b := z.tb) (off := (k * 3)) (vs := (plc P).toArray) (n := 3) rfl kr kr kr rfl (all_plc _) 3 (cs := (tbC T.ps z.nr z.rm)) (e := 88) kr (by unfold tbC; rw [List.size_toArray,List.length_append,plf_len]; simp only [List.length_cons,List.length_nil]; omega)) (fun _ _ => (.cons_cons _ (.cons_cons _ (.cons_cons _ (.cons _ slr))))) ?_
   rintro ⟨⟩ -
   refine CfgA.setO (congrArg (fun (xq : Array Value) => (([(pb,.cells ((plc P).toArray) 85 (0,0)),(z.bb,.cells #[.pointer (some ⟨z.tb,0,none⟩),.map (some z.db)] 96 (0,0)),(z.db,.map v.y.1 v.y.2),(z.tb,.cells xq 88 (0,0)),(z.nr,.map v.x.1 v.x.2)] ++ (rnO (T.ps.getD k plz) rb ++ (spO z.rm 121 o1 fr1 ++ (dsO v.Ds ++ [])))) : LO)) (show _ = (tbC (T.ps.set k P) z.nr z.rm) from tb_set2 (by rw [hb.tb.l]; exact hk) rfl)) ?_
   refine CfgA.done kr ?_
   refine Cg (Γ' := [(7,[],.int .i64 (k : Int)),(0,[],.pointer (some ⟨z.bb,0,none⟩)),(1,[],.string nm),(2,[],.string da)]) ?_
   refine Cfg.begL rfl ?_
   refine Lp 9 [dZ,dZ,dZ,(dS (.pointer (some ⟨z.tb,0,none⟩))),dZ,dZ,(dS (.map (some z.nr)))] (some [0,2,7,97,98,99]) (fun S => [(∀ w1,S w1 → w1.cell? ⟨z.bb,0,none⟩ = some (.pointer (some ⟨z.tb,0,none⟩))),(∀ w1,S w1 → w1.cell? ⟨z.tb,432,none⟩ = some (.map (some z.nr)))]) ⟨(oC 1 rfl rfl),(fun w1 h => h.ocell 3 rfl (tb_names (show (T.ps.set k P).length = 144 by rw [List.length_set]; exact hb.tb.l))),trivial⟩ ?_
   refine Le (Eff.sSet (r := z.nr) (k := nm) (u := .int .i64 (k : Int)) (es := v.x.1) (ck := v.x.2) rfl Tryz.underlying81 Tryz.underlying9 kr kr kr hb.sm 4 kr) ?_
   rintro x2 hx2
   refine CfgL.done rfl ?_
   refine Cg (Γ' := [(7,[],.int .i64 (k : Int)),(0,[],.pointer (some ⟨z.bb,0,none⟩)),(2,[],.string da)]) ?_
   refine Cfg.begL rfl ?_
   refine Lp 6 [dZ,dZ,dZ,(dS (.map (some z.db)))] (some [103,104,105]) (fun S => [(∀ w1,S w1 → w1.cell? ⟨z.bb,1,none⟩ = some (.map (some z.db)))]) ⟨(oC 1 rfl rfl),trivial⟩ ?_
   refine Le (Eff.toBytes rfl Tryz.underlying9 Tryz.underlying111 Tryz.underlying5 (t := da) kr [(pb,.cells ((plc P).toArray) 85 (0,0)),(z.bb,.cells #[.pointer (some ⟨z.tb,0,none⟩),.map (some z.db)] 96 (0,0)),(z.db,.map v.y.1 v.y.2),(z.tb,.cells (tbC (T.ps.set k P) z.nr z.rm) 88 (0,0)),(z.nr,.map x2.1 x2.2)] (rnO (T.ps.getD k plz) rb ++ (spO z.rm 121 o1 fr1 ++ (dsO v.Ds ++ []))) rfl) ?_
   rintro d1 hd1
   refine Le (Eff.mapSet (r := z.db) (k := (k : Int)) (u := dval (d1,da)) (es := v.y.1) (ck := v.y.2) rfl Tryz.underlying94 Tryz.underlying3 kr kr kr hb.m 2 kr) ?_
   rintro y2 hy2
   refine CfgL.done rfl ?_
   refine Cg (Γ' := []) ?_
   refine Rg [6] [] n0 trivial ?_
   refine Cfg.ret rfl (rs := [.tmp 6]) rfl [.int .i64 0] ⟨kr,trivial⟩ (fun w1 hp => ?_)
   have hfin : putF T (dmF v.Dt) nm da = (0,⟨T.ps.set k P,smset T.W nm (.int .i64 (k : Int)),fr1⟩,gset (dmF v.Dt) (k : Int) da) := by
    rw [show P = ⟨nm,0,da.size⟩ by rw [hP]]
    exact hput.trans (if_pos om)
   rw [hfin]
   have hy3 : MapOk y2.1 y2.2 (dv (gset v.Dt (k : Int) (d1,da))) := by
    have h8 := hy2
    rw [mset_g] at h8
    unfold dv
    rw [← gset_map]
    exact h8
   have h8 : HP w ((batO z v T).map (·.1)) [] ([(z.bb,Obj.cells #[.pointer (some ⟨z.tb,0,none⟩),.map (some z.db)] 96 (0,0)),(z.db,Obj.map y2.1 y2.2),(z.tb,Obj.cells (tbC (T.ps.set k P) z.nr z.rm) 88 (0,0)),(z.nr,Obj.map x2.1 x2.2)] ++ (MO.o 5 (bv da.data.toList).toList d1 ++ (spO z.rm 121 o1 fr1 ++ (dsO v.Ds ++ [])))) w1 := hp.sub (.cons _ (.cons_cons _ (.cons_cons _ (.cons_cons _ (.cons_cons _ (show List.Sublist (MO.o 5 (bv da.data.toList).toList d1 ++ (spO z.rm 121 o1 fr1 ++ (dsO v.Ds ++ []))) (MO.o 5 (bv da.data.toList).toList d1 ++ (rnO (T.ps.getD k plz) rb ++ (spO z.rm 121 o1 fr1 ++ (dsO v.Ds ++ [])))) from (List.Sublist.append (List.Sublist.refl (MO.o 5 (bv da.data.toList).toList d1)) (List.Sublist.trans (List.Sublist.append (List.Sublist.refl (spO z.rm 121 o1 fr1)) (List.Sublist.append (List.Sublist.refl (dsO v.Ds)) (List.nil_sublist _))) (List.sublist_append_right (rnO (T.ps.getD k plz) rb) _)))))))))
   have h9 := h8.perm (List.Perm.append_left [(z.bb,Obj.cells #[.pointer (some ⟨z.tb,0,none⟩),.map (some z.db)] 96 (0,0)),(z.db,Obj.map y2.1 y2.2),(z.tb,Obj.cells (tbC (T.ps.set k P) z.nr z.rm) 88 (0,0)),(z.nr,Obj.map x2.1 x2.2)] (List.perm_append_comm_assoc (MO.o 5 (bv da.data.toList).toList d1) (spO z.rm 121 o1 fr1) (dsO v.Ds ++ [])))
   rw [List.append_nil] at h9
   exact ⟨⟨o1,x2,y2,gset v.Dt (k : Int) (d1,da),(d1,da) :: v.Ds⟩,⟨⟨tb_in hb.tb hPo hk (W := smset T.W nm (.int .i64 (k : Int))) (fr := fr1) om,hb.w.set nm hk,hgd1,hx2,hy3,hb.d.put hk hd1 hda⟩,(gset_map (fun d : DE => d.2) (k : Int) (d1,da) v.Dt).symm⟩,rfl,_,h9⟩
 ·have c1 : ((smget T.W nm).isSome = false) := c1r
  refine Cfg.begL rfl ?_
  refine Lp 7 [dZ,dZ,dZ,(dS (.pointer (some ⟨z.tb,0,none⟩)))] (some [0,1,2,7,50]) (fun S => [(∀ w1,S w1 → w1.cell? ⟨z.bb,0,none⟩ = some (.pointer (some ⟨z.tb,0,none⟩))),(144 ≤ 144)]) ⟨(oC 0 rfl rfl),om,trivial⟩ ?_
  refine Le (Eff.callA (vs := [.slice (some ⟨z.tb,0,none⟩) 144 144,.func (.func 119) #[] #[]]) (.int .i64 (pfx T.ps 0)) rfl Tryz.func118 rfl rfl kr (fun w1 h => fIdx z.tb z.nr z.rm T.ps w1 (fun e he => by rw [List.mem_singleton.1 he]; exact (h.own (z.tb,Obj.cells (tbC T.ps z.nr z.rm) 88 (0,0)) (show (z.tb,Obj.cells (tbC T.ps z.nr z.rm) 88 (0,0)) ∈ ([(z.bb,Obj.cells #[.pointer (some ⟨z.tb,0,none⟩),.map (some z.db)] 96 (0,0)),(z.db,Obj.map v.y.1 v.y.2),(z.tb,Obj.cells (tbC T.ps z.nr z.rm) 88 (0,0)),(z.nr,Obj.map v.x.1 v.x.2)] ++ (spO z.rm 121 v.o T.fr ++ (dsO v.Ds ++ []))) from (mL (mG 2 rfl))))) hb.tb.l)) ?_
  rintro ⟨⟩ -
  refine Lp 1 [] (some [0,1,2,7]) n0 trivial ?_
  refine CfgL.done rfl ?_
  refine Rg [0,1,2,7,53] [] n0 trivial ?_
  refine Cfg.cond rfl (b := (decide ((pfx T.ps 0) < (0 : Int)))) kr (fun c4r => ?_) (fun c4r => ?_)
  ·have c4 := (dT c4r)
   refine Rg [6] [] n0 trivial ?_
   refine Cfg.ret rfl (rs := [.tmp 6]) rfl [.int .i64 6] ⟨kr,trivial⟩ (fun w1 hp => ?_)
   rw [putF_many (Option.isNone_iff_eq_none.1 (by simpa using c1)) om]
   have h9 : HP w ((batO z v T).map (·.1)) [] ([(z.bb,Obj.cells #[.pointer (some ⟨z.tb,0,none⟩),.map (some z.db)] 96 (0,0)),(z.db,Obj.map v.y.1 v.y.2),(z.tb,Obj.cells (tbC T.ps z.nr z.rm) 88 (0,0)),(z.nr,Obj.map v.x.1 v.x.2)] ++ (spO z.rm 121 v.o T.fr ++ (dsO v.Ds ++ []))) w1 := hp.sub slr
   rw [List.append_nil] at h9
   exact ⟨v,⟨hb,rfl⟩,rfl,_,h9⟩
  ·have c4 := (dF c4r)
   obtain ⟨k,hk7,hk⟩ : ∃ k : Nat,pfx T.ps 0 = (k : Int) ∧ k < 144 := by
    rcases pfx_lt T.ps 0 with h | ⟨k,h1,h2⟩
    ·omega
    ·exact ⟨k,h1,by omega⟩
   refine Cfg.setS 7 (congrArg (fun (xq : Int) => (.int .i64 xq : Value)) (show (pfx T.ps 0) = (k : Int) from hk7)) ?_
   obtain ⟨fr1,hf1⟩ : ∃ f,f = T.fr := ⟨_,rfl⟩
   have hl1 : fr1.length = T.fr.length := by rw [hf1]
   have hgd1 : Good v.o fr1 := by rw [hf1]; exact hb.g
   have hput : putF T (dmF v.Dt) nm da = putG T (dmF v.Dt) nm da k fr1 := by rw [hf1]; exact putF_new (Option.isNone_iff_eq_none.1 (by simpa using c1)) hk7
   refine Cfg.setO (congrArg (fun (xq : List Bool) => (([(z.bb,.cells #[.pointer (some ⟨z.tb,0,none⟩),.map (some z.db)] 96 (0,0)),(z.db,.map v.y.1 v.y.2),(z.tb,.cells (tbC T.ps z.nr z.rm) 88 (0,0)),(z.nr,.map v.x.1 v.x.2)] ++ (spO z.rm 121 v.o xq ++ (dsO v.Ds ++ []))) : LO)) (show _ = fr1 from by rw [hf1])) ?_
   refine Cfg.begL rfl ?_
   refine Lp 4 [dZ,dZ,dZ,(dS (.agg (plc ⟨nm,0,da.size⟩).toArray))] (some [0,1,2,7,57]) (fun S => [(∀ w1,S w1 → (Instr.build 85 #[(0,.string nm),(2,.int .i64 (da.size : Int))]).run Tryz.prog w1 = .ok (.agg (plc ⟨nm,0,da.size⟩).toArray) w1)]) ⟨(fun _ _ => kr),trivial⟩ ?_
   refine Le (Eff.alloc (z := (.agg (plc plz).toArray)) rfl kr) ?_
   rintro pb ⟨hpb,npb⟩
   refine Le (Eff.storeN (b := pb) (off := 0) (vs := (plc ⟨nm,0,da.size⟩).toArray) (n := 3) rfl kr kr kr rfl (all_plc _) 0 (cs := (plc plz).toArray) (e := 85) kr (Nat.le_refl 3)) ?_
   rintro ⟨⟩ -
   refine CfgL.setO (congrArg (fun (xq : Array Value) => (([(pb,.cells xq 85 (0,0)),(z.bb,.cells #[.pointer (some ⟨z.tb,0,none⟩),.map (some z.db)] 96 (0,0)),(z.db,.map v.y.1 v.y.2),(z.tb,.cells (tbC T.ps z.nr z.rm) 88 (0,0)),(z.nr,.map v.x.1 v.x.2)] ++ (spO z.rm 121 v.o fr1 ++ (dsO v.Ds ++ []))) : LO)) (show _ = ((plc ⟨nm,0,da.size⟩).toArray) from (show spl (plc plz).toArray 0 (plc ⟨nm,0,da.size⟩).toArray.toList = _ from spl_all rfl))) ?_
   refine CfgL.done rfl ?_
   refine Cg (Γ' := [(9,[],pT pb),(7,[],.int .i64 (k : Int)),(0,[],.pointer (some ⟨z.bb,0,none⟩)),(1,[],.string nm),(2,[],.string da)]) ?_
   refine Rg [0,1,2,7,9,10] [] (fun _ => [(i6 ((da.size : Int) + 512)),(i6 (((da.size : Int) + 512) - 1)),(0 ≤ (((da.size : Int) + 512) - 1) ∧ (((da.size : Int) + 512) - 1) ≤ 9223372036854775807 ∧ 0 < (512 : Int))]) ⟨om,om,om,trivial⟩ ?_
   refine Cfg.setS 10 (congrArg (fun (xq : Int) => (.int .i64 xq : Value)) (show ((((da.size : Int) + 512) - 1) / 512) = ((secs da.size) : Int) from by unfold secs; omega)) ?_
   refine Rg [0,1,2,7,9,10,64] [] n0 trivial ?_
   refine Cfg.cond rfl (b := (decide (((secs da.size) : Int) > (0 : Int)))) kr (fun c5r => ?_) (fun c5r => ?_)
   ·have c5 := (dT c5r)
    refine Cfg.begL rfl ?_
    refine Lp 8 [dZ,dZ,dZ,(dS (.pointer (some ⟨z.tb,0,none⟩))),dZ,dZ,(dS (.pointer (some ⟨z.rm,0,none⟩)))] (some [0,1,2,7,9,72,73]) (fun S => [(∀ w1,S w1 → w1.cell? ⟨z.bb,0,none⟩ = some (.pointer (some ⟨z.tb,0,none⟩))),(∀ w1,S w1 → w1.cell? ⟨z.tb,433,none⟩ = some (.pointer (some ⟨z.rm,0,none⟩)))]) ⟨(oC 1 rfl rfl),(fun w1 h => h.ocell 3 rfl (tb_room hb.tb.l)),trivial⟩ ?_
    refine Le (Eff.callH (vs := [.pointer (some ⟨z.rm,0,none⟩),.int .i64 ((secs da.size) : Int)]) (fun _ : K.Own => .tuple #[.int .i64 ((takeF 121 fr1 (secs da.size : Int)).1),.int .i64 ((takeF 121 fr1 (secs da.size : Int)).2.1 : Int)]) (spO z.rm 121 v.o fr1) (fun o => spO z.rm 121 o (takeF 121 fr1 (secs da.size : Int)).2.2) (fun o => Good o (takeF 121 fr1 (secs da.size : Int)).2.2) [(pb,.cells ((plc ⟨nm,0,da.size⟩).toArray) 85 (0,0)),(z.bb,.cells #[.pointer (some ⟨z.tb,0,none⟩),.map (some z.db)] 96 (0,0)),(z.db,.map v.y.1 v.y.2),(z.tb,.cells (tbC T.ps z.nr z.rm) 88 (0,0)),(z.nr,.map v.x.1 v.x.2)] (dsO v.Ds ++ []) rfl rfl Tryz.func97 rfl rfl kr (fun w1 h hA1 hd1 => takeU z.rm 121 v.o fr1 (secs da.size : Int) w1 om om hgd1 (by unfold I64; omega) hA1 hd1)) ?_
    rintro o2 hg2
    refine Lp 5 [] (some [0,1,2,7,9,11,12]) n0 trivial ?_
    refine CfgL.done rfl ?_
    refine Rg [0,1,2,7,9,11,12,78] [] n0 trivial ?_
    refine Cfg.cond rfl (b := (((takeF 121 fr1 (secs da.size : Int)).2.1 : Int) != (0 : Int))) kr (fun c6r => ?_) (fun c6r => ?_)
    ·have c6 := (bne_iff_ne.1 c6r)
     refine Rg [6] [] n0 trivial ?_
     refine Cfg.ret rfl (rs := [.tmp 6]) rfl [.int .i64 ((takeF 121 fr1 (secs da.size : Int)).2.1 : Int)] ⟨kr,trivial⟩ (fun w1 hp => ?_)
     have hfin : putF T (dmF v.Dt) nm da = (((takeF 121 fr1 (secs da.size : Int)).2.1 : Int),⟨T.ps,T.W,(takeF 121 fr1 (secs da.size : Int)).2.2⟩,dmF v.Dt) := hput.trans ((if_neg om).trans (if_pos om))
     rw [hfin]
     have h9 : HP w ((batO z v T).map (·.1)) [] ([(z.bb,Obj.cells #[.pointer (some ⟨z.tb,0,none⟩),.map (some z.db)] 96 (0,0)),(z.db,Obj.map v.y.1 v.y.2),(z.tb,Obj.cells (tbC T.ps z.nr z.rm) 88 (0,0)),(z.nr,Obj.map v.x.1 v.x.2)] ++ (spO z.rm 121 o2 ((takeF 121 fr1 (secs da.size : Int)).2.2) ++ (dsO v.Ds ++ []))) w1 := hp.sub (.cons _ slr)
     rw [List.append_nil] at h9
     exact ⟨⟨o2,v.x,v.y,v.Dt,v.Ds⟩,⟨⟨⟨hb.tb.l,hb.tb.o,by show (takeF 121 fr1 (secs da.size : Int)).2.2.length ≤ 4096; rw [takeF_len]; omega⟩,hb.w,hg2,hb.sm,hb.m,hb.d⟩,rfl⟩,rfl,_,h9⟩
    ·have c6 := (bne_eq_false_iff_eq.1 c6r)
     have htk := takeF_at (f := 121) (fr := fr1) (n := (secs da.size : Int)) om
     obtain ⟨a1,ha1⟩ := Int.eq_ofNat_of_zero_le (show 0 ≤ (takeF 121 fr1 (secs da.size : Int)).1 by omega)
     refine Cfg.setS 11 (congrArg (fun (xq : Int) => (.int .i64 xq : Value)) (show ((takeF 121 fr1 (secs da.size : Int)).1) = (a1 : Int) from ha1)) ?_
     refine Cfg.begL rfl ?_
     refine Lp 2 [] (some [0,1,2,7,9,80,81]) n0 trivial ?_
     refine Le (Eff.store1 (b := pb) (off := 1) (v := .int .i64 (a1 : Int)) rfl kr kr rfl kr 0 (cs := (plc ⟨nm,0,da.size⟩).toArray) (e := 85) kr (by show 1 < 3; decide)) ?_
     rintro ⟨⟩ -
     refine CfgL.done rfl ?_
     refine Cg (Γ' := [(9,[],pT pb),(7,[],.int .i64 (k : Int)),(0,[],.pointer (some ⟨z.bb,0,none⟩)),(1,[],.string nm),(2,[],.string da)]) ?_
     obtain ⟨P,hP⟩ : ∃ P : Pl,P = ⟨nm,a1,da.size⟩ := ⟨_,rfl⟩
     have hPo : PlOk P := by rw [hP]; exact ⟨hn,by show a1 < 4294967296; omega,hda⟩
     refine Cfg.setO (congrArg (fun (xq : Array Value) => (([(pb,.cells xq 85 (0,0)),(z.bb,.cells #[.pointer (some ⟨z.tb,0,none⟩),.map (some z.db)] 96 (0,0)),(z.db,.map v.y.1 v.y.2),(z.tb,.cells (tbC T.ps z.nr z.rm) 88 (0,0)),(z.nr,.map v.x.1 v.x.2)] ++ (spO z.rm 121 o2 ((takeF 121 fr1 (secs da.size : Int)).2.2) ++ (dsO v.Ds ++ []))) : LO)) (show _ = ((plc P).toArray) from by rw [hP] <;> rfl)) ?_
     refine Cfg.begA rfl kr ([(pb,.cells ((plc P).toArray) 85 (0,0)),(z.bb,.cells #[.pointer (some ⟨z.tb,0,none⟩),.map (some z.db)] 96 (0,0)),(z.db,.map v.y.1 v.y.2),(z.nr,.map v.x.1 v.x.2)] ++ (spO z.rm 121 o2 ((takeF 121 fr1 (secs da.size : Int)).2.2) ++ (dsO v.Ds ++ []))) ?_
     refine Ap (List.range 9) [dZ,dZ,dZ,(dS (.pointer (some ⟨z.tb,0,none⟩))),dZ,(dS (.agg (plc P).toArray))] (some [0,1,2,7,87,90]) (tF 9 1) (.cons_cons _ (.cons_cons _ (.cons_cons _ (.cons _ slr)))) 1 (fun S => [(∀ w1,S w1 → w1.cell? ⟨z.bb,0,none⟩ = some (.pointer (some ⟨z.tb,0,none⟩))),(∀ w1,S w1 → (loadVar 85 ⟨pb,0,none⟩).run Tryz.prog w1 = .ok (.agg (plc P).toArray) w1),(iL (k : Int) 144)]) ⟨(oC 1 rfl rfl),(fun w1 h => load_list (vs := plc P) Tryz.underlying85 rfl kr (plc_len _) (fun q9 v hq9 => h.ocell 0 rfl (by rw [List.getElem?_toArray,Nat.zero_add]; exact hq9))),om,trivial⟩ ?_
     refine Ae 9 rfl 0  (Eff.storeN (b := z.tb) (off := (k * 3)) (vs := (plc P).toArray) (n := 3) rfl kr kr kr rfl (all_plc _) 3 (cs := (tbC T.ps z.nr z.rm)) (e := 88) kr (by unfold tbC; rw [List.size_toArray,List.length_append,plf_len]; simp only [List.length_cons,List.length_nil]; omega)) (fun _ _ => (.cons_cons _ (.cons_cons _ (.cons_cons _ (.cons _ slr))))) ?_
     rintro ⟨⟩ -
     refine CfgA.setO (congrArg (fun (xq : Array Value) => (([(pb,.cells ((plc P).toArray) 85 (0,0)),(z.bb,.cells #[.pointer (some ⟨z.tb,0,none⟩),.map (some z.db)] 96 (0,0)),(z.db,.map v.y.1 v.y.2),(z.tb,.cells xq 88 (0,0)),(z.nr,.map v.x.1 v.x.2)] ++ (spO z.rm 121 o2 ((takeF 121 fr1 (secs da.size : Int)).2.2) ++ (dsO v.Ds ++ []))) : LO)) (show _ = (tbC (T.ps.set k P) z.nr z.rm) from tb_set2 (by rw [hb.tb.l]; exact hk) rfl)) ?_
     refine CfgA.done kr ?_
     refine Cg (Γ' := [(7,[],.int .i64 (k : Int)),(0,[],.pointer (some ⟨z.bb,0,none⟩)),(1,[],.string nm),(2,[],.string da)]) ?_
     refine Cfg.begL rfl ?_
     refine Lp 9 [dZ,dZ,dZ,(dS (.pointer (some ⟨z.tb,0,none⟩))),dZ,dZ,(dS (.map (some z.nr)))] (some [0,2,7,97,98,99]) (fun S => [(∀ w1,S w1 → w1.cell? ⟨z.bb,0,none⟩ = some (.pointer (some ⟨z.tb,0,none⟩))),(∀ w1,S w1 → w1.cell? ⟨z.tb,432,none⟩ = some (.map (some z.nr)))]) ⟨(oC 1 rfl rfl),(fun w1 h => h.ocell 3 rfl (tb_names (show (T.ps.set k P).length = 144 by rw [List.length_set]; exact hb.tb.l))),trivial⟩ ?_
     refine Le (Eff.sSet (r := z.nr) (k := nm) (u := .int .i64 (k : Int)) (es := v.x.1) (ck := v.x.2) rfl Tryz.underlying81 Tryz.underlying9 kr kr kr hb.sm 4 kr) ?_
     rintro x2 hx2
     refine CfgL.done rfl ?_
     refine Cg (Γ' := [(7,[],.int .i64 (k : Int)),(0,[],.pointer (some ⟨z.bb,0,none⟩)),(2,[],.string da)]) ?_
     refine Cfg.begL rfl ?_
     refine Lp 6 [dZ,dZ,dZ,(dS (.map (some z.db)))] (some [103,104,105]) (fun S => [(∀ w1,S w1 → w1.cell? ⟨z.bb,1,none⟩ = some (.map (some z.db)))]) ⟨(oC 1 rfl rfl),trivial⟩ ?_
     refine Le (Eff.toBytes rfl Tryz.underlying9 Tryz.underlying111 Tryz.underlying5 (t := da) kr [(pb,.cells ((plc P).toArray) 85 (0,0)),(z.bb,.cells #[.pointer (some ⟨z.tb,0,none⟩),.map (some z.db)] 96 (0,0)),(z.db,.map v.y.1 v.y.2),(z.tb,.cells (tbC (T.ps.set k P) z.nr z.rm) 88 (0,0)),(z.nr,.map x2.1 x2.2)] (spO z.rm 121 o2 ((takeF 121 fr1 (secs da.size : Int)).2.2) ++ (dsO v.Ds ++ [])) rfl) ?_
     rintro d1 hd1
     refine Le (Eff.mapSet (r := z.db) (k := (k : Int)) (u := dval (d1,da)) (es := v.y.1) (ck := v.y.2) rfl Tryz.underlying94 Tryz.underlying3 kr kr kr hb.m 2 kr) ?_
     rintro y2 hy2
     refine CfgL.done rfl ?_
     refine Cg (Γ' := []) ?_
     refine Rg [6] [] n0 trivial ?_
     refine Cfg.ret rfl (rs := [.tmp 6]) rfl [.int .i64 0] ⟨kr,trivial⟩ (fun w1 hp => ?_)
     have hfin : putF T (dmF v.Dt) nm da = (0,⟨T.ps.set k P,smset T.W nm (.int .i64 (k : Int)),(takeF 121 fr1 (secs da.size : Int)).2.2⟩,gset (dmF v.Dt) (k : Int) da) := by
      rw [show P = ⟨nm,(takeF 121 fr1 (secs da.size : Int)).1.toNat,da.size⟩ by rw [hP]; simp only [ha1,Int.toNat_natCast]]
      exact hput.trans ((if_neg om).trans (if_neg om))
     rw [hfin]
     have hy3 : MapOk y2.1 y2.2 (dv (gset v.Dt (k : Int) (d1,da))) := by
      have h8 := hy2
      rw [mset_g] at h8
      unfold dv
      rw [← gset_map]
      exact h8
     have h8 : HP w ((batO z v T).map (·.1)) [] ([(z.bb,Obj.cells #[.pointer (some ⟨z.tb,0,none⟩),.map (some z.db)] 96 (0,0)),(z.db,Obj.map y2.1 y2.2),(z.tb,Obj.cells (tbC (T.ps.set k P) z.nr z.rm) 88 (0,0)),(z.nr,Obj.map x2.1 x2.2)] ++ (MO.o 5 (bv da.data.toList).toList d1 ++ (spO z.rm 121 o2 ((takeF 121 fr1 (secs da.size : Int)).2.2) ++ (dsO v.Ds ++ [])))) w1 := hp.sub (.cons _ slr)
     have h9 := h8.perm (List.Perm.append_left [(z.bb,Obj.cells #[.pointer (some ⟨z.tb,0,none⟩),.map (some z.db)] 96 (0,0)),(z.db,Obj.map y2.1 y2.2),(z.tb,Obj.cells (tbC (T.ps.set k P) z.nr z.rm) 88 (0,0)),(z.nr,Obj.map x2.1 x2.2)] (List.perm_append_comm_assoc (MO.o 5 (bv da.data.toList).toList d1) (spO z.rm 121 o2 ((takeF 121 fr1 (secs da.size : Int)).2.2)) (dsO v.Ds ++ [])))
     rw [List.append_nil] at h9
     exact ⟨⟨o2,x2,y2,gset v.Dt (k : Int) (d1,da),(d1,da) :: v.Ds⟩,⟨⟨tb_in hb.tb hPo hk (W := smset T.W nm (.int .i64 (k : Int))) (fr := (takeF 121 fr1 (secs da.size : Int)).2.2) (by rw [takeF_len]; omega),hb.w.set nm hk,hg2,hx2,hy3,hb.d.put hk hd1 hda⟩,(gset_map (fun d : DE => d.2) (k : Int) (d1,da) v.Dt).symm⟩,rfl,_,h9⟩
   ·have c5 := (dF c5r)
    obtain ⟨P,hP⟩ : ∃ P : Pl,P = ⟨nm,0,da.size⟩ := ⟨_,rfl⟩
    have hPo : PlOk P := by rw [hP]; exact ⟨hn,by show 0 < 4294967296; omega,hda⟩
    refine Cfg.setO (congrArg (fun (xq : Array Value) => (([(pb,.cells xq 85 (0,0)),(z.bb,.cells #[.pointer (some ⟨z.tb,0,none⟩),.map (some z.db)] 96 (0,0)),(z.db,.map v.y.1 v.y.2),(z.tb,.cells (tbC T.ps z.nr z.rm) 88 (0,0)),(z.nr,.map v.x.1 v.x.2)] ++ (spO z.rm 121 v.o fr1 ++ (dsO v.Ds ++ []))) : LO)) (show _ = ((plc P).toArray) from by rw [hP] <;> rfl)) ?_
    refine Cfg.begA rfl kr ([(pb,.cells ((plc P).toArray) 85 (0,0)),(z.bb,.cells #[.pointer (some ⟨z.tb,0,none⟩),.map (some z.db)] 96 (0,0)),(z.db,.map v.y.1 v.y.2),(z.nr,.map v.x.1 v.x.2)] ++ (spO z.rm 121 v.o fr1 ++ (dsO v.Ds ++ []))) ?_
    refine Ap (List.range 9) [dZ,dZ,dZ,(dS (.pointer (some ⟨z.tb,0,none⟩))),dZ,(dS (.agg (plc P).toArray))] (some [0,1,2,7,87,90]) (tF 9 1) (.cons_cons _ (.cons_cons _ (.cons_cons _ (.cons _ slr)))) 1 (fun S => [(∀ w1,S w1 → w1.cell? ⟨z.bb,0,none⟩ = some (.pointer (some ⟨z.tb,0,none⟩))),(∀ w1,S w1 → (loadVar 85 ⟨pb,0,none⟩).run Tryz.prog w1 = .ok (.agg (plc P).toArray) w1),(iL (k : Int) 144)]) ⟨(oC 1 rfl rfl),(fun w1 h => load_list (vs := plc P) Tryz.underlying85 rfl kr (plc_len _) (fun q9 v hq9 => h.ocell 0 rfl (by rw [List.getElem?_toArray,Nat.zero_add]; exact hq9))),om,trivial⟩ ?_
    refine Ae 9 rfl 0  (Eff.storeN (b := z.tb) (off := (k * 3)) (vs := (plc P).toArray) (n := 3) rfl kr kr kr rfl (all_plc _) 3 (cs := (tbC T.ps z.nr z.rm)) (e := 88) kr (by unfold tbC; rw [List.size_toArray,List.length_append,plf_len]; simp only [List.length_cons,List.length_nil]; omega)) (fun _ _ => (.cons_cons _ (.cons_cons _ (.cons_cons _ (.cons _ slr))))) ?_
    rintro ⟨⟩ -
    refine CfgA.setO (congrArg (fun (xq : Array Value) => (([(pb,.cells ((plc P).toArray) 85 (0,0)),(z.bb,.cells #[.pointer (some ⟨z.tb,0,none⟩),.map (some z.db)] 96 (0,0)),(z.db,.map v.y.1 v.y.2),(z.tb,.cells xq 88 (0,0)),(z.nr,.map v.x.1 v.x.2)] ++ (spO z.rm 121 v.o fr1 ++ (dsO v.Ds ++ []))) : LO)) (show _ = (tbC (T.ps.set k P) z.nr z.rm) from tb_set2 (by rw [hb.tb.l]; exact hk) rfl)) ?_
    refine CfgA.done kr ?_
    refine Cg (Γ' := [(7,[],.int .i64 (k : Int)),(0,[],.pointer (some ⟨z.bb,0,none⟩)),(1,[],.string nm),(2,[],.string da)]) ?_
    refine Cfg.begL rfl ?_
    refine Lp 9 [dZ,dZ,dZ,(dS (.pointer (some ⟨z.tb,0,none⟩))),dZ,dZ,(dS (.map (some z.nr)))] (some [0,2,7,97,98,99]) (fun S => [(∀ w1,S w1 → w1.cell? ⟨z.bb,0,none⟩ = some (.pointer (some ⟨z.tb,0,none⟩))),(∀ w1,S w1 → w1.cell? ⟨z.tb,432,none⟩ = some (.map (some z.nr)))]) ⟨(oC 1 rfl rfl),(fun w1 h => h.ocell 3 rfl (tb_names (show (T.ps.set k P).length = 144 by rw [List.length_set]; exact hb.tb.l))),trivial⟩ ?_
    refine Le (Eff.sSet (r := z.nr) (k := nm) (u := .int .i64 (k : Int)) (es := v.x.1) (ck := v.x.2) rfl Tryz.underlying81 Tryz.underlying9 kr kr kr hb.sm 4 kr) ?_
    rintro x2 hx2
    refine CfgL.done rfl ?_
    refine Cg (Γ' := [(7,[],.int .i64 (k : Int)),(0,[],.pointer (some ⟨z.bb,0,none⟩)),(2,[],.string da)]) ?_
    refine Cfg.begL rfl ?_
    refine Lp 6 [dZ,dZ,dZ,(dS (.map (some z.db)))] (some [103,104,105]) (fun S => [(∀ w1,S w1 → w1.cell? ⟨z.bb,1,none⟩ = some (.map (some z.db)))]) ⟨(oC 1 rfl rfl),trivial⟩ ?_
    refine Le (Eff.toBytes rfl Tryz.underlying9 Tryz.underlying111 Tryz.underlying5 (t := da) kr [(pb,.cells ((plc P).toArray) 85 (0,0)),(z.bb,.cells #[.pointer (some ⟨z.tb,0,none⟩),.map (some z.db)] 96 (0,0)),(z.db,.map v.y.1 v.y.2),(z.tb,.cells (tbC (T.ps.set k P) z.nr z.rm) 88 (0,0)),(z.nr,.map x2.1 x2.2)] (spO z.rm 121 v.o fr1 ++ (dsO v.Ds ++ [])) rfl) ?_
    rintro d1 hd1
    refine Le (Eff.mapSet (r := z.db) (k := (k : Int)) (u := dval (d1,da)) (es := v.y.1) (ck := v.y.2) rfl Tryz.underlying94 Tryz.underlying3 kr kr kr hb.m 2 kr) ?_
    rintro y2 hy2
    refine CfgL.done rfl ?_
    refine Cg (Γ' := []) ?_
    refine Rg [6] [] n0 trivial ?_
    refine Cfg.ret rfl (rs := [.tmp 6]) rfl [.int .i64 0] ⟨kr,trivial⟩ (fun w1 hp => ?_)
    have hfin : putF T (dmF v.Dt) nm da = (0,⟨T.ps.set k P,smset T.W nm (.int .i64 (k : Int)),fr1⟩,gset (dmF v.Dt) (k : Int) da) := by
     rw [show P = ⟨nm,0,da.size⟩ by rw [hP]]
     exact hput.trans (if_pos om)
    rw [hfin]
    have hy3 : MapOk y2.1 y2.2 (dv (gset v.Dt (k : Int) (d1,da))) := by
     have h8 := hy2
     rw [mset_g] at h8
     unfold dv
     rw [← gset_map]
     exact h8
    have h8 : HP w ((batO z v T).map (·.1)) [] ([(z.bb,Obj.cells #[.pointer (some ⟨z.tb,0,none⟩),.map (some z.db)] 96 (0,0)),(z.db,Obj.map y2.1 y2.2),(z.tb,Obj.cells (tbC (T.ps.set k P) z.nr z.rm) 88 (0,0)),(z.nr,Obj.map x2.1 x2.2)] ++ (MO.o 5 (bv da.data.toList).toList d1 ++ (spO z.rm 121 v.o fr1 ++ (dsO v.Ds ++ [])))) w1 := hp.sub (.cons _ slr)
    have h9 := h8.perm (List.Perm.append_left [(z.bb,Obj.cells #[.pointer (some ⟨z.tb,0,none⟩),.map (some z.db)] 96 (0,0)),(z.db,Obj.map y2.1 y2.2),(z.tb,Obj.cells (tbC (T.ps.set k P) z.nr z.rm) 88 (0,0)),(z.nr,Obj.map x2.1 x2.2)] (List.perm_append_comm_assoc (MO.o 5 (bv da.data.toList).toList d1) (spO z.rm 121 v.o fr1) (dsO v.Ds ++ [])))
    rw [List.append_nil] at h9
    exact ⟨⟨v.o,x2,y2,gset v.Dt (k : Int) (d1,da),(d1,da) :: v.Ds⟩,⟨⟨tb_in hb.tb hPo hk (W := smset T.W nm (.int .i64 (k : Int))) (fr := fr1) om,hb.w.set nm hk,hgd1,hx2,hy3,hb.d.put hk hd1 hda⟩,(gset_map (fun d : DE => d.2) (k : Int) (d1,da) v.Dt).symm⟩,rfl,_,h9⟩
end Go.Proofs.YtfgdepggdiibdaaGreatDoor
namespace Go.Proofs.YtfgdepggdiibdaaGreatDoor
open K
set_option linter.unusedVariables false
theorem namB_le {s : ByteArray} (h : namB s = true) : s.size ≤ 72 := by
 unfold namB at h
 rw [Bool.and_eq_true,decide_eq_true_eq] at h
 exact h.1.2
theorem chk_all {a : FA} (h : chkF a = 0) : (1 ≤ a.k ∧ a.k ≤ 3) ∧ namB a.nm = true ∧ (a.k = 3 → namB a.t2 = true) ∧ (a.k = 1 → a.da.size ≤ 32768) := by
 unfold chkF at h
 split at h
 ·cases h
 ·rename_i h1
  split at h
  ·cases h
  ·rename_i h2
   split at h
   ·cases h
   ·rename_i h3
    split at h
    ·cases h
    ·rename_i h4
     exact ⟨by omega,by simpa using h2,fun e => by simpa using fun x => h3 ⟨e,x⟩,fun e => Nat.le_of_not_lt fun x => h4 ⟨e,x⟩⟩
theorem set_same {cs : Array Value} {i : Nat} {v : Value} (h : cs[i]? = some v) : cs.setIfInBounds i v = cs := by
 apply Array.ext_getElem?
 intro j
 rw [Array.getElem?_setIfInBounds]
 split
 ·rename_i e
  subst e
  have := (Array.getElem?_eq_some_iff.1 h).1
  rw [if_pos this,h]
 ·rfl
theorem tb_name {ps : List Pl} {nr rm q : Nat} {s : ByteArray} (hq : q < ps.length) : (tbC ps nr rm).setIfInBounds (q * 3) (.string s) = tbC (ps.set q ⟨s,(ps.getD q plz).at_,(ps.getD q plz).sz⟩) nr rm := by
 rw [← tb_set (p := ⟨s,(ps.getD q plz).at_,(ps.getD q plz).sz⟩) hq]
 show _ = (((tbC ps nr rm).setIfInBounds (q * 3) (.string s)).setIfInBounds (q * 3 + 1) (.int .i64 ((ps.getD q plz).at_ : Int))).setIfInBounds (q * 3 + 1 + 1) (.int .i64 ((ps.getD q plz).sz : Int))
 have e1 : ((tbC ps nr rm).setIfInBounds (q * 3) (.string s))[q * 3 + 1]? = some (.int .i64 ((ps.getD q plz).at_ : Int)) := by
  rw [Array.getElem?_setIfInBounds,if_neg om]; exact tb_cell hq rfl
 have e2 : ((tbC ps nr rm).setIfInBounds (q * 3) (.string s))[q * 3 + 1 + 1]? = some (.int .i64 ((ps.getD q plz).sz : Int)) := by
  rw [Array.getElem?_setIfInBounds,if_neg om]; exact tb_cell (j := 2) hq rfl
 rw [set_same e1,set_same e2]
def actF (T : Tb) (dm : Dm) (a : FA) : Int × Tb × Dm :=
 if chkF a ≠ 0 then (chkF a,T,dm) else if a.k = 1 then putF T dm a.nm a.da else match smget T.W a.nm with
 | none => (16,T,dm)
 | some v => if a.k = 2 then (0,⟨T.ps.set (vk v) plz,smdel T.W a.nm,turnR 121 true (runF (T.ps.getD (vk v) plz)) T.fr⟩,gdel dm (vk v : Int))
  else if (smget T.W a.t2).isSome then (17,T,dm) else (0,⟨T.ps.set (vk v) ⟨a.t2,(T.ps.getD (vk v) plz).at_,(T.ps.getD (vk v) plz).sz⟩,smdel (smset T.W a.t2 (.int .i64 (vk v : Int))) a.nm,T.fr⟩,dm)
theorem act_chk {T : Tb} {dm : Dm} {a : FA} (h : chkF a ≠ 0) : actF T dm a = (chkF a,T,dm) := if_pos h
theorem act_put {T : Tb} {dm : Dm} {a : FA} (h : chkF a = 0) (h1 : a.k = 1) : actF T dm a = putF T dm a.nm a.da := (if_neg (fun e => e h)).trans (if_pos h1)
theorem act_none {T : Tb} {dm : Dm} {a : FA} (h : chkF a = 0) (h1 : ¬ a.k = 1) (h2 : smget T.W a.nm = none) : actF T dm a = (16,T,dm) := (if_neg (fun e => e h)).trans ((if_neg h1).trans (by rw [h2]))
theorem act_del {T : Tb} {dm : Dm} {a : FA} {k : Nat} (h : chkF a = 0) (h1 : a.k = 2) (h2 : smget T.W a.nm = some (.int .i64 (k : Int))) : actF T dm a = (0,⟨T.ps.set k plz,smdel T.W a.nm,turnR 121 true (runF (T.ps.getD k plz)) T.fr⟩,gdel dm (k : Int)) :=
 (if_neg (fun e => e h)).trans ((if_neg om).trans (by rw [h2]; exact if_pos h1))
theorem act_there {T : Tb} {dm : Dm} {a : FA} {k : Nat} (h : chkF a = 0) (h1 : a.k = 3) (h2 : smget T.W a.nm = some (.int .i64 (k : Int))) (h3 : (smget T.W a.t2).isSome = true) : actF T dm a = (17,T,dm) :=
 (if_neg (fun e => e h)).trans ((if_neg om).trans (by rw [h2]; exact (if_neg om).trans (if_pos h3)))
theorem act_ren {T : Tb} {dm : Dm} {a : FA} {k : Nat} (h : chkF a = 0) (h1 : a.k = 3) (h2 : smget T.W a.nm = some (.int .i64 (k : Int))) (h3 : (smget T.W a.t2).isSome = false) : actF T dm a = (0,⟨T.ps.set k ⟨a.t2,(T.ps.getD k plz).at_,(T.ps.getD k plz).sz⟩,smdel (smset T.W a.t2 (.int .i64 (k : Int))) a.nm,T.fr⟩,dm) :=
 (if_neg (fun e => e h)).trans ((if_neg om).trans (by rw [h2]; exact (if_neg om).trans (if_neg (by rw [h3]; decide))))
set_option maxRecDepth 100000 in
set_option maxHeartbeats 4000000 in
theorem fAct (z : BM) (v : BV) (T : Tb) (a : FA) (w : World) (hA : Has w (batO z v T)) (hd : ((batO z v T).map (·.1)).Nodup) (hb : BOk v T) (ha : a.nm.size ≤ maxLen ∧ a.t2.size ≤ maxLen) :
  Calls Tryz.prog 36 #[.pointer (some ⟨z.bb,0,none⟩),.agg (acC a)] w fun e w' => ∃ v2 : BV,(BOk v2 (actF T (dmF v.Dt) a).2.1 ∧ dmF v2.Dt = (actF T (dmF v.Dt) a).2.2) ∧ e = .returned (.int .i64 (actF T (dmF v.Dt) a).1) ∧ ∃ R1,HP w ((batO z v T).map (·.1)) R1 (batO z v2 (actF T (dmF v.Dt) a).2.1) w' := by
 have hf9 := hb.tb.f
 have hl9 := hb.tb.l
 refine enter (vs := [.pointer (some ⟨z.bb,0,none⟩),.agg (acC a)]) ((batO z v T).map (·.1)) [] ([(z.bb,.cells #[.pointer (some ⟨z.tb,0,none⟩),.map (some z.db)] 96 (0,0)),(z.db,.map v.y.1 v.y.2),(z.tb,.cells (tbC T.ps z.nr z.rm) 88 (0,0)),(z.nr,.map v.x.1 v.x.2)] ++ (spO z.rm 121 v.o T.fr ++ (dsO v.Ds ++ []))) Tryz.func36 rfl kr (by rw [List.append_nil]; exact HP.ofL hA hd (R := []) (fun e he => by cases he) (fun e he => by cases he)) ?_
 refine Cfg.begL rfl ?_
 refine Le (Eff.box (v := .agg (acC a)) rfl kr) ?_
 rintro ab ⟨hab,nab⟩
 refine Lp 1 [] (some [0,3]) n0 trivial ?_
 refine CfgL.done rfl ?_
 refine Cfg.begL rfl ?_
 refine Lp 1 [(dS (.agg (acC a)))] none (fun S => [(∀ w1,S w1 → (loadVar 34 ⟨ab,0,none⟩).run Tryz.prog w1 = .ok (.agg (acC a)) w1)]) ⟨(fun w1 h => h.oload 0 rfl Tryz.underlying34 rfl (n := 4) kr rfl),trivial⟩ ?_
 refine Le (Eff.callA (vs := [.agg (acC a)]) (.int .i64 (chkF a)) rfl Tryz.func75 rfl rfl kr (fun w1 _ => fCheck a w1 ha)) ?_
 rintro ⟨⟩ -
 refine Lp 1 [] (some [0,3,5]) n0 trivial ?_
 refine CfgL.done rfl ?_
 refine Rg [0,3,5,13] [] n0 trivial ?_
 refine Cfg.cond rfl (b := ((chkF a) != (0 : Int))) kr (fun c1r => ?_) (fun c1r => ?_)
 ·have c1 := (bne_iff_ne.1 c1r)
  refine Rg [4] [] n0 trivial ?_
  refine Cfg.ret rfl (rs := [.tmp 4]) rfl [.int .i64 (chkF a)] ⟨kr,trivial⟩ (fun w1 hp => ?_)
  rw [act_chk om]
  have h9 : HP w ((batO z v T).map (·.1)) [] ([(z.bb,Obj.cells #[.pointer (some ⟨z.tb,0,none⟩),.map (some z.db)] 96 (0,0)),(z.db,Obj.map v.y.1 v.y.2),(z.tb,Obj.cells (tbC T.ps z.nr z.rm) 88 (0,0)),(z.nr,Obj.map v.x.1 v.x.2)] ++ (spO z.rm 121 v.o T.fr ++ (dsO v.Ds ++ []))) w1 := hp.sub (.cons _ slr)
  rw [List.append_nil] at h9
  exact ⟨v,⟨hb,rfl⟩,rfl,_,h9⟩
 ·have c1 := (bne_eq_false_iff_eq.1 c1r)
  have hck := chk_all (a := a) om
  refine Rg [0,3,17] [dZ,(dS (.int .i64 a.k))] (fun S => [(cE S ab 0 (.int .i64 a.k))]) ⟨(oC 0 rfl rfl),trivial⟩ ?_
  refine Cfg.cond rfl (b := (a.k == (1 : Int))) kr (fun c2r => ?_) (fun c2r => ?_)
  ·have c2 := (beq_iff_eq.1 c2r)
   refine Cfg.begL rfl ?_
   refine Lp 5 [dZ,dZ,(dS (.string a.nm)),dZ,(dS (.string a.da))] (some [18,20,22]) (fun S => [(cE S ab 1 (.string a.nm)),(cE S ab 3 (.string a.da))]) ⟨(oC 0 rfl rfl),(oC 0 rfl rfl),trivial⟩ ?_
   refine Le (Eff.callH (vs := [.pointer (some ⟨z.bb,0,none⟩),.string a.nm,.string a.da]) (fun _ : BV => .int .i64 ((putF T (dmF v.Dt) a.nm a.da).1)) (batO z v T) (fun v2 => batO z v2 (putF T (dmF v.Dt) a.nm a.da).2.1) (fun v2 => BOk v2 (putF T (dmF v.Dt) a.nm a.da).2.1 ∧ dmF v2.Dt = (putF T (dmF v.Dt) a.nm a.da).2.2) [(ab,.cells (acC a) 34 (0,0))] [] (by simp only [List.append_nil]; rfl) rfl Tryz.func76 rfl rfl kr (fun w1 h hA1 hd1 => fPut z v T a.nm a.da w1 hA1 hd1 hb (namB_le hck.2.1) (hck.2.2.2 c2))) ?_
   rintro v2 ⟨hv2,hdm2⟩
   refine CfgL.pure 1 [] (some [4]) (Γ' := [(4,[],.int .i64 ((putF T (dmF v.Dt) a.nm a.da).1))]) (nd := (fun _ => [])) kr (fun _ => kr) trivial ?_
   refine CfgL.done rfl ?_
   refine Cfg.ret rfl (rs := [.tmp 4]) rfl [.int .i64 ((putF T (dmF v.Dt) a.nm a.da).1)] ⟨kr,trivial⟩ (fun w1 hp => ?_)
   rw [act_put om c2]
   have h9 : HP w ((batO z v T).map (·.1)) [] (batO z v2 (putF T (dmF v.Dt) a.nm a.da).2.1 ++ []) w1 := hp.sub (List.sublist_append_right _ _)
   rw [List.append_nil] at h9
   exact ⟨v2,⟨hv2,hdm2⟩,rfl,_,h9⟩
  ·have c2 := (beq_eq_false_iff_ne.1 c2r)
   refine Cfg.begA rfl kr ([(ab,.cells (acC a) 34 (0,0)),(z.bb,.cells #[.pointer (some ⟨z.tb,0,none⟩),.map (some z.db)] 96 (0,0)),(z.db,.map v.y.1 v.y.2),(z.tb,.cells (tbC T.ps z.nr z.rm) 88 (0,0)),(z.nr,.map v.x.1 v.x.2)] ++ (spO z.rm 121 v.o T.fr ++ (dsO v.Ds ++ []))) ?_
   refine Ap (List.range 9) [dZ,dZ,dZ,(dS (.pointer (some ⟨z.tb,0,none⟩))),dZ,dZ,(dS (.map (some z.nr))),dZ,(dS (.string a.nm))] (some [0,3,31,33]) (tF 9 6) slr 6 (fun S => [(∀ w1,S w1 → w1.cell? ⟨z.bb,0,none⟩ = some (.pointer (some ⟨z.tb,0,none⟩))),(∀ w1,S w1 → w1.cell? ⟨z.tb,432,none⟩ = some (.map (some z.nr))),(cE S ab 1 (.string a.nm))]) ⟨(oC 1 rfl rfl),(fun w1 h => h.ocell 3 rfl (tb_names hb.tb.l)),(oC 0 rfl rfl),trivial⟩ ?_
   refine Ae 9 rfl 5  (Eff.sGet (z := .int .i64 0) (r := z.nr) (k := a.nm) (es := v.x.1) (ck := v.x.2) (W := T.W) rfl Tryz.underlying81 Tryz.underlying9 kr kr kr hb.sm (fun w1 h => (h.own (z.nr,Obj.map v.x.1 v.x.2) (show (z.nr,Obj.map v.x.1 v.x.2) ∈ ([(ab,Obj.cells (acC a) 34 (0,0)),(z.bb,Obj.cells #[.pointer (some ⟨z.tb,0,none⟩),.map (some z.db)] 96 (0,0)),(z.db,Obj.map v.y.1 v.y.2),(z.tb,Obj.cells (tbC T.ps z.nr z.rm) 88 (0,0)),(z.nr,Obj.map v.x.1 v.x.2)] ++ (spO z.rm 121 v.o T.fr ++ (dsO v.Ds ++ []))) from (mL (mG 4 rfl)))))) (fun _ _ => slr) ?_
   rintro ⟨⟩ -
   refine Ap [10,11,12,13,14] [] (some [0,3,6,7]) (tF 15 0) slr 0 n0 trivial ?_
   refine CfgA.done kr ?_
   refine Rg [0,3,6,38] [] n0 trivial ?_
   refine Cfg.cond rfl (b := (!(smget T.W a.nm).isSome)) kr (fun c3r => ?_) (fun c3r => ?_)
   ·have c3 : ((smget T.W a.nm).isSome = false) := (notT c3r)
    refine Rg [4] [] n0 trivial ?_
    refine Cfg.ret rfl (rs := [.tmp 4]) rfl [.int .i64 16] ⟨kr,trivial⟩ (fun w1 hp => ?_)
    rw [act_none om c2 (Option.isNone_iff_eq_none.1 (by simpa using c3))]
    have h9 : HP w ((batO z v T).map (·.1)) [] ([(z.bb,Obj.cells #[.pointer (some ⟨z.tb,0,none⟩),.map (some z.db)] 96 (0,0)),(z.db,Obj.map v.y.1 v.y.2),(z.tb,Obj.cells (tbC T.ps z.nr z.rm) 88 (0,0)),(z.nr,Obj.map v.x.1 v.x.2)] ++ (spO z.rm 121 v.o T.fr ++ (dsO v.Ds ++ []))) w1 := hp.sub (.cons _ slr)
    rw [List.append_nil] at h9
    exact ⟨v,⟨hb,rfl⟩,rfl,_,h9⟩
   ·have c3 : ((smget T.W a.nm).isSome = true) := (notF c3r)
    obtain ⟨k,hk,hsk⟩ := hb.w.at (s := a.nm) (by simpa using c3)
    have hpk : PlOk (T.ps.getD k plz) := hb.tb.o _ (K.getD_mem (by rw [hb.tb.l]; exact hk))
    refine Cfg.setS 6 (congrArg (fun (xq : Value) => (xq : Value)) (show (smget T.W a.nm).getD (.int .i64 0) = .int .i64 (k : Int) from by rw [hsk]; rfl)) ?_
    refine Rg [0,3,6,41] [dZ,(dS (.int .i64 a.k))] (fun S => [(cE S ab 0 (.int .i64 a.k))]) ⟨(oC 0 rfl rfl),trivial⟩ ?_
    refine Cfg.cond rfl (b := (a.k == (2 : Int))) kr (fun c4r => ?_) (fun c4r => ?_)
    ·have c4 := (beq_iff_eq.1 c4r)
     refine Cfg.begA rfl kr ([(ab,.cells (acC a) 34 (0,0)),(z.bb,.cells #[.pointer (some ⟨z.tb,0,none⟩),.map (some z.db)] 96 (0,0)),(z.db,.map v.y.1 v.y.2),(z.tb,.cells (tbC T.ps z.nr z.rm) 88 (0,0)),(z.nr,.map v.x.1 v.x.2)] ++ (dsO v.Ds ++ [])) ?_
     refine Ap (List.range 16) [dZ,dZ,dZ,(dS (.pointer (some ⟨z.tb,0,none⟩))),dZ,dZ,(dS (.pointer (some ⟨z.rm,0,none⟩))),dZ,dZ,dZ,(dS (.pointer (some ⟨z.tb,0,none⟩))),dZ,dZ,dZ,dZ,(dS (.agg (plc (T.ps.getD k plz)).toArray))] (some [0,3,6,48,57]) (tF 16 2) (.cons_cons _ (.cons_cons _ (.cons_cons _ (.cons_cons _ (.cons_cons _ (show List.Sublist (dsO v.Ds ++ []) (spO z.rm 121 v.o T.fr ++ (dsO v.Ds ++ [])) from (List.Sublist.trans (List.Sublist.append (List.Sublist.refl (dsO v.Ds)) (List.nil_sublist _)) (List.sublist_append_right (spO z.rm 121 v.o T.fr) _)))))))) 2 (fun S => [(∀ w1,S w1 → w1.cell? ⟨z.bb,0,none⟩ = some (.pointer (some ⟨z.tb,0,none⟩))),(∀ w1,S w1 → w1.cell? ⟨z.tb,433,none⟩ = some (.pointer (some ⟨z.rm,0,none⟩))),(∀ w1,S w1 → w1.cell? ⟨z.bb,0,none⟩ = some (.pointer (some ⟨z.tb,0,none⟩))),(iL (k : Int) 144),(∀ w1,S w1 → (loadVar 85 ⟨z.tb,(k * 3),none⟩).run Tryz.prog w1 = .ok (.agg (plc (T.ps.getD k plz)).toArray) w1)]) ⟨(oC 1 rfl rfl),(fun w1 h => h.ocell 3 rfl (tb_room hb.tb.l)),(oC 1 rfl rfl),om,(fun w1 h => load_list (vs := plc (T.ps.getD k plz)) Tryz.underlying85 rfl kr (plc_len _) (fun q9 v hq9 => h.ocell 3 rfl (tb_cell (by rw [hb.tb.l]; exact hk) hq9))),trivial⟩ ?_
     refine Ae 16 rfl 1  (Eff.callH (vs := [.agg (plc (T.ps.getD k plz)).toArray]) (fun rb : Nat => .slice (rA (T.ps.getD k plz) rb) ((runF (T.ps.getD k plz)).length) ((runF (T.ps.getD k plz)).length)) [] (fun rb => rnO (T.ps.getD k plz) rb) (fun _ => True) [(ab,.cells (acC a) 34 (0,0)),(z.bb,.cells #[.pointer (some ⟨z.tb,0,none⟩),.map (some z.db)] 96 (0,0)),(z.db,.map v.y.1 v.y.2),(z.tb,.cells (tbC T.ps z.nr z.rm) 88 (0,0)),(z.nr,.map v.x.1 v.x.2)] (spO z.rm 121 v.o T.fr ++ (dsO v.Ds ++ [])) rfl rfl Tryz.func44 rfl rfl kr (fun w1 h _ _ => fRunU (T.ps.getD k plz) w1 hpk)) (by rintro rb -; exact (.cons_cons _ (.cons_cons _ (.cons_cons _ (.cons_cons _ (.cons_cons _ (show List.Sublist (dsO v.Ds ++ []) (rnO (T.ps.getD k plz) rb ++ (spO z.rm 121 v.o T.fr ++ (dsO v.Ds ++ []))) from (List.Sublist.trans (List.Sublist.trans (List.Sublist.append (List.Sublist.refl (dsO v.Ds)) (List.nil_sublist _)) (List.sublist_append_right (spO z.rm 121 v.o T.fr) _)) (List.sublist_append_right (rnO (T.ps.getD k plz) rb) _))))))))) ?_
     rintro rb -
     refine Ae 17 rfl 0  (Eff.callH (vs := [.pointer (some ⟨z.rm,0,none⟩),.slice (rA (T.ps.getD k plz) rb) ((runF (T.ps.getD k plz)).length) ((runF (T.ps.getD k plz)).length)]) (fun _ : K.Own => .int .i64 ((turnF 121 T.fr.length true (runF (T.ps.getD k plz)) T.fr).1 : Int)) (spO z.rm 121 v.o T.fr) (fun o => spO z.rm 121 o (turnR 121 true (runF (T.ps.getD k plz)) T.fr)) (fun o => Good o (turnR 121 true (runF (T.ps.getD k plz)) T.fr)) ([(ab,.cells (acC a) 34 (0,0)),(z.bb,.cells #[.pointer (some ⟨z.tb,0,none⟩),.map (some z.db)] 96 (0,0)),(z.db,.map v.y.1 v.y.2),(z.tb,.cells (tbC T.ps z.nr z.rm) 88 (0,0)),(z.nr,.map v.x.1 v.x.2)] ++ (rnO (T.ps.getD k plz) rb)) (dsO v.Ds ++ []) rfl rfl Tryz.func77 rfl rfl kr (fun w1 h hA1 hd1 => giveP hpk rb z.rm v.o T.fr w1 hb.tb.f hb.g hA1 hd1 (HP.giv (F := [(ab,.cells (acC a) 34 (0,0)),(z.bb,.cells #[.pointer (some ⟨z.tb,0,none⟩),.map (some z.db)] 96 (0,0)),(z.db,.map v.y.1 v.y.2),(z.tb,.cells (tbC T.ps z.nr z.rm) 88 (0,0)),(z.nr,.map v.x.1 v.x.2)]) (Rn := rnO (T.ps.getD k plz) rb) (Sp := spO z.rm 121 v.o T.fr) (Tl := (dsO v.Ds ++ [])) h).1 (HP.giv (F := [(ab,.cells (acC a) 34 (0,0)),(z.bb,.cells #[.pointer (some ⟨z.tb,0,none⟩),.map (some z.db)] 96 (0,0)),(z.db,.map v.y.1 v.y.2),(z.tb,.cells (tbC T.ps z.nr z.rm) 88 (0,0)),(z.nr,.map v.x.1 v.x.2)]) (Rn := rnO (T.ps.getD k plz) rb) (Sp := spO z.rm 121 v.o T.fr) (Tl := (dsO v.Ds ++ [])) h).2)) (by rintro o1 hg1; exact (.cons_cons _ (.cons_cons _ (.cons_cons _ (.cons_cons _ (.cons_cons _ (show List.Sublist (dsO v.Ds ++ []) (rnO (T.ps.getD k plz) rb ++ (spO z.rm 121 o1 (turnR 121 true (runF (T.ps.getD k plz)) T.fr) ++ (dsO v.Ds ++ []))) from (List.Sublist.trans (List.Sublist.trans (List.Sublist.append (List.Sublist.refl (dsO v.Ds)) (List.nil_sublist _)) (List.sublist_append_right (spO z.rm 121 o1 (turnR 121 true (runF (T.ps.getD k plz)) T.fr)) _)) (List.sublist_append_right (rnO (T.ps.getD k plz) rb) _))))))))) ?_
     rintro o1 hg1
     refine CfgA.done kr ?_
     refine Cg (Γ' := [(6,[],.int .i64 (k : Int)),(3,[],pT ab),(0,[],.pointer (some ⟨z.bb,0,none⟩))]) ?_
     refine Cfg.begL rfl ?_
     refine Lp 9 [dZ,dZ,dZ,(dS (.pointer (some ⟨z.tb,0,none⟩))),dZ,(dS (.agg (plc plz).toArray))] (some [0,3,6,65,68]) (fun S => [(∀ w1,S w1 → w1.cell? ⟨z.bb,0,none⟩ = some (.pointer (some ⟨z.tb,0,none⟩))),(∀ w1,S w1 → (Instr.build 85 #[]).run Tryz.prog w1 = .ok (.agg (plc plz).toArray) w1),(iL (k : Int) 144)]) ⟨(oC 1 rfl rfl),(fun _ _ => kr),om,trivial⟩ ?_
     refine Le (Eff.storeN (b := z.tb) (off := (k * 3)) (vs := (plc plz).toArray) (n := 3) rfl kr kr kr rfl (all_plc _) 3 (cs := (tbC T.ps z.nr z.rm)) (e := 88) kr (by unfold tbC; rw [List.size_toArray,List.length_append,plf_len]; simp only [List.length_cons,List.length_nil]; omega)) ?_
     rintro ⟨⟩ -
     refine CfgL.setO (congrArg (fun (xq : Array Value) => (([(ab,.cells (acC a) 34 (0,0)),(z.bb,.cells #[.pointer (some ⟨z.tb,0,none⟩),.map (some z.db)] 96 (0,0)),(z.db,.map v.y.1 v.y.2),(z.tb,.cells xq 88 (0,0)),(z.nr,.map v.x.1 v.x.2)] ++ (rnO (T.ps.getD k plz) rb ++ (spO z.rm 121 o1 (turnR 121 true (runF (T.ps.getD k plz)) T.fr) ++ (dsO v.Ds ++ [])))) : LO)) (show _ = (tbC (T.ps.set k plz) z.nr z.rm) from tb_set2 (by rw [hb.tb.l]; exact hk) rfl)) ?_
     refine CfgL.done rfl ?_
     refine Cg (Γ' := [(6,[],.int .i64 (k : Int)),(3,[],pT ab),(0,[],.pointer (some ⟨z.bb,0,none⟩))]) ?_
     refine Cfg.begL rfl ?_
     refine Lp 5 [dZ,dZ,dZ,(dS (.map (some z.db)))] (some [0,3,72,73]) (fun S => [(∀ w1,S w1 → w1.cell? ⟨z.bb,1,none⟩ = some (.map (some z.db)))]) ⟨(oC 1 rfl rfl),trivial⟩ ?_
     refine Le (Eff.mDel (r := z.db) (k := (k : Int)) (es := v.y.1) (ck := v.y.2) rfl (by rfl) Tryz.underlying94 Tryz.underlying3 kr kr hb.m 2 kr) ?_
     rintro y3 hy3
     refine CfgL.done rfl ?_
     refine Cg (Γ' := [(3,[],pT ab),(0,[],.pointer (some ⟨z.bb,0,none⟩))]) ?_
     refine Cfg.begA rfl kr ([(ab,.cells (acC a) 34 (0,0)),(z.bb,.cells #[.pointer (some ⟨z.tb,0,none⟩),.map (some z.db)] 96 (0,0)),(z.db,.map y3 v.y.2),(z.tb,.cells (tbC (T.ps.set k plz) z.nr z.rm) 88 (0,0))] ++ (rnO (T.ps.getD k plz) rb ++ (spO z.rm 121 o1 (turnR 121 true (runF (T.ps.getD k plz)) T.fr) ++ (dsO v.Ds ++ [])))) ?_
     refine Ap (List.range 9) [dZ,dZ,dZ,(dS (.pointer (some ⟨z.tb,0,none⟩))),dZ,dZ,(dS (.map (some z.nr))),dZ,(dS (.string a.nm))] (some [115,117]) (tF 9 1) (.cons_cons _ (.cons_cons _ (.cons_cons _ (.cons_cons _ (.cons _ slr))))) 1 (fun S => [(∀ w1,S w1 → w1.cell? ⟨z.bb,0,none⟩ = some (.pointer (some ⟨z.tb,0,none⟩))),(∀ w1,S w1 → w1.cell? ⟨z.tb,432,none⟩ = some (.map (some z.nr))),(cE S ab 1 (.string a.nm))]) ⟨(oC 1 rfl rfl),(fun w1 h => h.ocell 3 rfl (tb_names (show (T.ps.set k plz).length = 144 by rw [List.length_set]; exact hb.tb.l))),(oC 0 rfl rfl),trivial⟩ ?_
     refine Ae 9 rfl 0  (Eff.sDel (r := z.nr) (k := a.nm) (es := v.x.1) (ck := v.x.2) rfl (by rfl) Tryz.underlying81 Tryz.underlying9 kr kr hb.sm 4 kr) (fun _ _ => (.cons_cons _ (.cons_cons _ (.cons_cons _ (.cons_cons _ (.cons _ slr)))))) ?_
     rintro x3 hx3
     refine CfgA.done kr ?_
     refine Cg (Γ' := []) ?_
     refine Rg [4] [] n0 trivial ?_
     refine Cfg.ret rfl (rs := [.tmp 4]) rfl [.int .i64 0] ⟨kr,trivial⟩ (fun w1 hp => ?_)
     have hy4 : MapOk y3 v.y.2 (dv (gdel v.Dt (k : Int))) := by
      have h8 := hy3
      rw [mdel_g] at h8
      unfold dv
      rw [← gdel_map]
      exact h8
     rw [act_del om c4 hsk]
     have h9 : HP w ((batO z v T).map (·.1)) [] ([(z.bb,Obj.cells #[.pointer (some ⟨z.tb,0,none⟩),.map (some z.db)] 96 (0,0)),(z.db,Obj.map y3 v.y.2),(z.tb,Obj.cells (tbC (T.ps.set k plz) z.nr z.rm) 88 (0,0)),(z.nr,Obj.map x3 v.x.2)] ++ (spO z.rm 121 o1 (turnR 121 true (runF (T.ps.getD k plz)) T.fr) ++ (dsO v.Ds ++ []))) w1 := hp.sub (.cons _ (.cons_cons _ (.cons_cons _ (.cons_cons _ (.cons_cons _ (show List.Sublist (spO z.rm 121 o1 (turnR 121 true (runF (T.ps.getD k plz)) T.fr) ++ (dsO v.Ds ++ [])) (rnO (T.ps.getD k plz) rb ++ (spO z.rm 121 o1 (turnR 121 true (runF (T.ps.getD k plz)) T.fr) ++ (dsO v.Ds ++ []))) from (List.Sublist.trans (List.Sublist.append (List.Sublist.refl (spO z.rm 121 o1 (turnR 121 true (runF (T.ps.getD k plz)) T.fr))) (List.Sublist.append (List.Sublist.refl (dsO v.Ds)) (List.nil_sublist _))) (List.sublist_append_right (rnO (T.ps.getD k plz) rb) _))))))))
     rw [List.append_nil] at h9
     exact ⟨⟨o1,(x3,v.x.2),(y3,v.y.2),gdel v.Dt (k : Int),v.Ds⟩,⟨⟨tb_in hb.tb PlOk.z hk (W := smdel T.W a.nm) (fr := turnR 121 true (runF (T.ps.getD k plz)) T.fr) (turnR_len _ _ _ _),hb.w.del _,hg1,hx3,hy4,hb.d.del _⟩,(gdel_map (fun d : DE => d.2) (k : Int) v.Dt).symm⟩,rfl,_,h9⟩
    ·have c4 := (beq_eq_false_iff_ne.1 c4r)
     refine Cfg.begA rfl kr ([(ab,.cells (acC a) 34 (0,0)),(z.bb,.cells #[.pointer (some ⟨z.tb,0,none⟩),.map (some z.db)] 96 (0,0)),(z.db,.map v.y.1 v.y.2),(z.tb,.cells (tbC T.ps z.nr z.rm) 88 (0,0)),(z.nr,.map v.x.1 v.x.2)] ++ (spO z.rm 121 v.o T.fr ++ (dsO v.Ds ++ []))) ?_
     refine Ap (List.range 9) [dZ,dZ,dZ,(dS (.pointer (some ⟨z.tb,0,none⟩))),dZ,dZ,(dS (.map (some z.nr))),dZ,(dS (.string a.t2))] (some [0,3,6,81,83]) (tF 9 6) slr 6 (fun S => [(∀ w1,S w1 → w1.cell? ⟨z.bb,0,none⟩ = some (.pointer (some ⟨z.tb,0,none⟩))),(∀ w1,S w1 → w1.cell? ⟨z.tb,432,none⟩ = some (.map (some z.nr))),(cE S ab 2 (.string a.t2))]) ⟨(oC 1 rfl rfl),(fun w1 h => h.ocell 3 rfl (tb_names hb.tb.l)),(oC 0 rfl rfl),trivial⟩ ?_
     refine Ae 9 rfl 5  (Eff.sGet (z := .int .i64 0) (r := z.nr) (k := a.t2) (es := v.x.1) (ck := v.x.2) (W := T.W) rfl Tryz.underlying81 Tryz.underlying9 kr kr kr hb.sm (fun w1 h => (h.own (z.nr,Obj.map v.x.1 v.x.2) (show (z.nr,Obj.map v.x.1 v.x.2) ∈ ([(ab,Obj.cells (acC a) 34 (0,0)),(z.bb,Obj.cells #[.pointer (some ⟨z.tb,0,none⟩),.map (some z.db)] 96 (0,0)),(z.db,Obj.map v.y.1 v.y.2),(z.tb,Obj.cells (tbC T.ps z.nr z.rm) 88 (0,0)),(z.nr,Obj.map v.x.1 v.x.2)] ++ (spO z.rm 121 v.o T.fr ++ (dsO v.Ds ++ []))) from (mL (mG 4 rfl)))))) (fun _ _ => slr) ?_
     rintro ⟨⟩ -
     refine Ap [10,11,12,13,14] [] (some [0,3,6,9]) (tF 15 0) slr 0 n0 trivial ?_
     refine CfgA.done kr ?_
     refine Rg [0,3,6,87] [] n0 trivial ?_
     refine Cfg.cond rfl (b := (smget T.W a.t2).isSome) kr (fun c5r => ?_) (fun c5r => ?_)
     ·have c5 : ((smget T.W a.t2).isSome = true) := c5r
      refine Rg [4] [] n0 trivial ?_
      refine Cfg.ret rfl (rs := [.tmp 4]) rfl [.int .i64 17] ⟨kr,trivial⟩ (fun w1 hp => ?_)
      rw [act_there om om hsk (by simpa using c5)]
      have h9 : HP w ((batO z v T).map (·.1)) [] ([(z.bb,Obj.cells #[.pointer (some ⟨z.tb,0,none⟩),.map (some z.db)] 96 (0,0)),(z.db,Obj.map v.y.1 v.y.2),(z.tb,Obj.cells (tbC T.ps z.nr z.rm) 88 (0,0)),(z.nr,Obj.map v.x.1 v.x.2)] ++ (spO z.rm 121 v.o T.fr ++ (dsO v.Ds ++ []))) w1 := hp.sub (.cons _ slr)
      rw [List.append_nil] at h9
      exact ⟨v,⟨hb,rfl⟩,rfl,_,h9⟩
     ·have c5 : ((smget T.W a.t2).isSome = false) := c5r
      refine Cfg.begA rfl kr ([(ab,.cells (acC a) 34 (0,0)),(z.bb,.cells #[.pointer (some ⟨z.tb,0,none⟩),.map (some z.db)] 96 (0,0)),(z.db,.map v.y.1 v.y.2),(z.nr,.map v.x.1 v.x.2)] ++ (spO z.rm 121 v.o T.fr ++ (dsO v.Ds ++ []))) ?_
      refine Ap (List.range 11) [dZ,dZ,dZ,(dS (.pointer (some ⟨z.tb,0,none⟩))),dZ,dZ,(dS (.string a.t2))] (some [0,3,6,94,98]) (tF 11 1) (.cons_cons _ (.cons_cons _ (.cons_cons _ (.cons _ slr)))) 1 (fun S => [(∀ w1,S w1 → w1.cell? ⟨z.bb,0,none⟩ = some (.pointer (some ⟨z.tb,0,none⟩))),(cE S ab 2 (.string a.t2)),(iL (k : Int) 144)]) ⟨(oC 1 rfl rfl),(oC 0 rfl rfl),om,trivial⟩ ?_
      refine Ae 11 rfl 0  (Eff.store1 (b := z.tb) (off := (k * 3)) (v := .string a.t2) rfl kr kr rfl kr 3 (cs := (tbC T.ps z.nr z.rm)) (e := 88) kr (by unfold tbC; rw [List.size_toArray,List.length_append,plf_len]; simp only [List.length_cons,List.length_nil]; omega)) (fun _ _ => (.cons_cons _ (.cons_cons _ (.cons_cons _ (.cons _ slr))))) ?_
      rintro ⟨⟩ -
      refine CfgA.done kr ?_
      refine Cg (Γ' := [(6,[],.int .i64 (k : Int)),(3,[],pT ab),(0,[],.pointer (some ⟨z.bb,0,none⟩))]) ?_
      refine Cfg.setO (congrArg (fun (xq : Array Value) => (([(ab,.cells (acC a) 34 (0,0)),(z.bb,.cells #[.pointer (some ⟨z.tb,0,none⟩),.map (some z.db)] 96 (0,0)),(z.db,.map v.y.1 v.y.2),(z.tb,.cells xq 88 (0,0)),(z.nr,.map v.x.1 v.x.2)] ++ (spO z.rm 121 v.o T.fr ++ (dsO v.Ds ++ []))) : LO)) (show _ = (tbC (T.ps.set k ⟨a.t2,(T.ps.getD k plz).at_,(T.ps.getD k plz).sz⟩) z.nr z.rm) from tb_name (by rw [hb.tb.l]; exact hk))) ?_
      refine Cfg.begA rfl kr ([(ab,.cells (acC a) 34 (0,0)),(z.bb,.cells #[.pointer (some ⟨z.tb,0,none⟩),.map (some z.db)] 96 (0,0)),(z.db,.map v.y.1 v.y.2),(z.tb,.cells (tbC (T.ps.set k ⟨a.t2,(T.ps.getD k plz).at_,(T.ps.getD k plz).sz⟩) z.nr z.rm) 88 (0,0))] ++ (spO z.rm 121 v.o T.fr ++ (dsO v.Ds ++ []))) ?_
      refine Ap (List.range 10) [dZ,dZ,dZ,(dS (.pointer (some ⟨z.tb,0,none⟩))),dZ,dZ,(dS (.map (some z.nr))),dZ,(dS (.string a.t2))] (some [0,3,105,107,108]) (tF 10 1) (.cons_cons _ (.cons_cons _ (.cons_cons _ (.cons_cons _ (.cons _ slr))))) 1 (fun S => [(∀ w1,S w1 → w1.cell? ⟨z.bb,0,none⟩ = some (.pointer (some ⟨z.tb,0,none⟩))),(∀ w1,S w1 → w1.cell? ⟨z.tb,432,none⟩ = some (.map (some z.nr))),(cE S ab 2 (.string a.t2))]) ⟨(oC 1 rfl rfl),(fun w1 h => h.ocell 3 rfl (tb_names (show (T.ps.set k _).length = 144 by rw [List.length_set]; exact hb.tb.l))),(oC 0 rfl rfl),trivial⟩ ?_
      refine Ae 10 rfl 0  (Eff.sSet (r := z.nr) (k := a.t2) (u := .int .i64 (k : Int)) (es := v.x.1) (ck := v.x.2) rfl Tryz.underlying81 Tryz.underlying9 kr kr kr hb.sm 4 kr) (fun _ _ => (.cons_cons _ (.cons_cons _ (.cons_cons _ (.cons_cons _ (.cons _ slr)))))) ?_
      rintro x2 hx2
      refine CfgA.done kr ?_
      refine Cg (Γ' := [(3,[],pT ab),(0,[],.pointer (some ⟨z.bb,0,none⟩))]) ?_
      refine Cfg.begA rfl kr ([(ab,.cells (acC a) 34 (0,0)),(z.bb,.cells #[.pointer (some ⟨z.tb,0,none⟩),.map (some z.db)] 96 (0,0)),(z.db,.map v.y.1 v.y.2),(z.tb,.cells (tbC (T.ps.set k ⟨a.t2,(T.ps.getD k plz).at_,(T.ps.getD k plz).sz⟩) z.nr z.rm) 88 (0,0))] ++ (spO z.rm 121 v.o T.fr ++ (dsO v.Ds ++ []))) ?_
      refine Ap (List.range 9) [dZ,dZ,dZ,(dS (.pointer (some ⟨z.tb,0,none⟩))),dZ,dZ,(dS (.map (some z.nr))),dZ,(dS (.string a.nm))] (some [115,117]) (tF 9 1) (.cons_cons _ (.cons_cons _ (.cons_cons _ (.cons_cons _ (.cons _ slr))))) 1 (fun S => [(∀ w1,S w1 → w1.cell? ⟨z.bb,0,none⟩ = some (.pointer (some ⟨z.tb,0,none⟩))),(∀ w1,S w1 → w1.cell? ⟨z.tb,432,none⟩ = some (.map (some z.nr))),(cE S ab 1 (.string a.nm))]) ⟨(oC 1 rfl rfl),(fun w1 h => h.ocell 3 rfl (tb_names (show (T.ps.set k _).length = 144 by rw [List.length_set]; exact hb.tb.l))),(oC 0 rfl rfl),trivial⟩ ?_
      refine Ae 9 rfl 0  (Eff.sDel (r := z.nr) (k := a.nm) (es := x2.1) (ck := x2.2) rfl (by rfl) Tryz.underlying81 Tryz.underlying9 kr kr hx2 4 kr) (fun _ _ => (.cons_cons _ (.cons_cons _ (.cons_cons _ (.cons_cons _ (.cons _ slr)))))) ?_
      rintro x3 hx3
      refine CfgA.done kr ?_
      refine Cg (Γ' := []) ?_
      refine Rg [4] [] n0 trivial ?_
      refine Cfg.ret rfl (rs := [.tmp 4]) rfl [.int .i64 0] ⟨kr,trivial⟩ (fun w1 hp => ?_)
      rw [act_ren om om hsk (by simpa using c5)]
      have h9 : HP w ((batO z v T).map (·.1)) [] ([(z.bb,Obj.cells #[.pointer (some ⟨z.tb,0,none⟩),.map (some z.db)] 96 (0,0)),(z.db,Obj.map v.y.1 v.y.2),(z.tb,Obj.cells (tbC (T.ps.set k ⟨a.t2,(T.ps.getD k plz).at_,(T.ps.getD k plz).sz⟩) z.nr z.rm) 88 (0,0)),(z.nr,Obj.map x3 x2.2)] ++ (spO z.rm 121 v.o T.fr ++ (dsO v.Ds ++ []))) w1 := hp.sub (.cons _ slr)
      rw [List.append_nil] at h9
      exact ⟨⟨v.o,(x3,x2.2),v.y,v.Dt,v.Ds⟩,⟨⟨tb_in hb.tb (p := ⟨a.t2,(T.ps.getD k plz).at_,(T.ps.getD k plz).sz⟩) ⟨namB_le (hck.2.2.1 om),hpk.at_,hpk.sz⟩ hk (W := smdel (smset T.W a.t2 (.int .i64 (k : Int))) a.nm) (fr := T.fr) rfl,(hb.w.set _ hk).del _,hb.g,hx3,hb.m,hb.d⟩,rfl⟩,rfl,_,h9⟩
end Go.Proofs.YtfgdepggdiibdaaGreatDoor
namespace Go.Proofs.YtfgdepggdiibdaaGreatDoor
namespace K
set_option linter.unusedVariables false
section
variable {P : Program} {fn : Func} {post : Ending → World → Prop} {w0 : World} {M D : List Nat} {R O : List (Nat × Obj)} {Γ : Env} {ks ks' : List KI}
def AgainM (fn : Func) (w0 : World) (M : List Nat) (R : List (Nat × Obj)) {ι : Type} (Di : ι → List Nat) (Γi : ι → Env) (Oi : ι → List (Nat × Obj)) (I : ι → Prop) (μ : ι → Nat) (x : ι) (a : Act) (w : World) : Prop :=
 ∃ y,I y ∧ μ y < μ x ∧ St fn.ntmps ((Di y).map mkd) (Γi y) a ∧ HP w0 M R (Oi y) w
theorem Cfg.loopM {c : Code} (hk : K.nrm 99 ks = .inl (.loop c) :: ks') {ι : Type} (Di : ι → List Nat) (Γi : ι → Env) (Oi : ι → List (Nat × Obj)) (I : ι → Prop) (μ : ι → Nat) (x0 : ι) (h0 : I x0) (hD : Di x0 = D) (hΓ : Conv Γ (Γi x0)) (hO : (Oi x0).Sublist O)
  (round : ∀ x,I x → Cfg (Cx.marks P fn post w0 M (Di x)) R (Oi x) (Γi x) (.inl c :: .inr (.inr (AgainM fn w0 M R Di Γi Oi I μ x)) :: ks')) : Cfg (Cx.marks P fn post w0 M D) R O Γ ks := by
 subst hD
 refine Cfg.nrm ?_
 rw [hk]
 intro a w hs hp
 refine wpIn_loop_ghost (fun m a w => ∃ x,μ x = m ∧ I x ∧ St fn.ntmps ((Di x).map mkd) (Γi x) a ∧ HP w0 M R (Oi x) w) (μ x0) ⟨x0,rfl,h0,hΓ.st hs,hp.sub hO⟩ ?_
 rintro m a w ⟨x,rfl,hI,hs,hp⟩
 refine wpIn_mono (round x hI a w hs hp) ?_
 intro e a' w' hq
 have hq' := congrFun (congrFun (congrFun (aft_inv (P := P) (ro := none) (Q := Q0M P fn post) (AgainM fn w0 M R Di Γi Oi I μ x) ks') e) a') w' ▸ hq
 clear hq
 cases e with
 | normal =>
  obtain ⟨y,h1,h2,h3,h4⟩ := hq'
  exact ⟨μ y,h2,y,rfl,h1,h3,h4⟩
 | _ => exact hq'
theorem Cfg.againM {ι : Type} {Di : ι → List Nat} {Γi : ι → Env} {Oi : ι → List (Nat × Obj)} {I : ι → Prop} {μ : ι → Nat} {x : ι} (hk : K.nrm 99 ks = .inr (.inr (AgainM fn w0 M R Di Γi Oi I μ x)) :: ks') (y : ι) (hI : I y) (hμ : μ y < μ x)
  (hD : Di y = D) (hΓ : Conv Γ (Γi y)) (hO : (Oi y).Sublist O) : Cfg (Cx.marks P fn post w0 M D) R O Γ ks := by
 subst hD
 refine Cfg.nrm ?_
 rw [hk]
 intro a w hs hp
 exact ⟨y,hI,hμ,hΓ.st hs,hp.sub hO⟩
end
theorem Eff.slice3B {C : Cx} {R O : List (Nat × Obj)} {Γ : Env} {op : Oper} {t e : TypeId} {x l h m : Operand} (ho : op.op = .slice t x (some l) (some h) (some m)) (ht : C.P.underlying t = some (.slice e)) (hsz : (C.P.info? e).map (·.size) = some 1)
  {b n c i j : Nat} (hx : opd Γ [] x = some (.slice (some ⟨b,0,none⟩) n c)) (hl : opd Γ [] l = some (.int .i64 (i : Int))) (hh : opd Γ [] h = some (.int .i64 (j : Int))) (hm : opd Γ [] m = some (.int .i64 (j : Int))) (h0 : i < j ∧ j ≤ c) :
  Eff C R O Γ op Unit (fun _ => .slice (some ⟨b,i,none⟩) (j - i) (j - i)) (fun _ => O) (fun _ => True) := by
 obtain ⟨inf,hi,hs1⟩ := Option.map_eq_some_iff.1 hsz
 refine Eff.of_run fun ac w hs hp => ⟨(),w,trivial,?_,hp⟩
 have hb : ∀ (x y : Nat) (code : BoundsCode),x ≤ y → (Instr.sliceBound (.int .i64 (x : Int)) y code).run C.P w = .ok x w := by
  intro x y code hxy
  have hai : (asIntOf (.int .i64 (x : Int))).run C.P w = .ok (.i64,(x : Int)) w := rfl
  have h2 : (0 : Int) ≤ (x : Int) ∧ (x : Int) ≤ (y : Int) := ⟨by omega,by omega⟩
  simp [Instr.sliceBound,hai,hxy]
 have hbs : (Instr.sliceBounds true n c (some (.int .i64 (i : Int))) (some (.int .i64 (j : Int))) (some (.int .i64 (j : Int)))).run C.P w = .ok (i,j,j) w := by
  simp only [Instr.sliceBounds,Sem.run_bind,hb j c _ om,Result.andThen_ok,hb j j _ om,hb i j _ om,Sem.run_pure]
 have hr : (Instr.slice t (.slice (some ⟨b,0,none⟩) n c) (some (.int .i64 (i : Int))) (some (.int .i64 (j : Int))) (some (.int .i64 (j : Int)))).run C.P w = .ok (.slice (some ⟨b,i,none⟩) (j - i) (j - i)) w := by
  simp only [Instr.slice,Sem.run_bind,run_underlying' ht,Result.andThen_ok,hbs,run_sizeOf' hi,Sem.run_pure,hs1]
  rw [if_neg om]
  simp [add_none]
 have e1 := opd_ok hs (holds_nil _) hx
 have e2 := opd_ok hs (holds_nil _) hl
 have e3 := opd_ok hs (holds_nil _) hh
 have e4 := opd_ok hs (holds_nil _) hm
 simp only [execOp,ho]
 refine run_v ?_
 simp only [Option.map_some,e1,e2,e3,e4,Instr.sliceAt,Sem.run_bind,run_underlying' ht,Result.andThen_ok]
 exact hr
theorem Eff.slice3D {C : Cx} {R O : List (Nat × Obj)} {Γ : Env} {op : Oper} {t e : TypeId} {x l h m : Operand} (ho : op.op = .slice t x (some l) (some h) (some m)) (ht : C.P.underlying t = some (.slice e)) (hsz : (C.P.info? e).map (·.size) = some 1)
  {b n c i d : Nat} (hx : opd Γ [] x = some (.slice (some ⟨b,0,none⟩) n c)) (hl : opd Γ [] l = some (.int .i64 (i : Int))) (hh : opd Γ [] h = some (.int .i64 ((i + d : Nat) : Int))) (hm : opd Γ [] m = some (.int .i64 ((i + d : Nat) : Int))) (h0 : 0 < d ∧ i + d ≤ c) :
  Eff C R O Γ op Unit (fun _ => .slice (some ⟨b,i,none⟩) d d) (fun _ => O) (fun _ => True) := by
 have h9 := Eff.slice3B (R := R) (O := O) (i := i) (j := i + d) ho ht hsz hx hl hh hm ⟨by omega,h0.2⟩
 rw [Nat.add_sub_cancel_left] at h9
 exact h9
theorem pdr2 {α : Type} {x : α} {A B C T : List α} : (x :: (A ++ (B ++ (C ++ T)))).Perm (A ++ (B ++ (C ++ (x :: T)))) := by
 have h := (List.perm_middle (a := x) (l₁ := A ++ (B ++ C)) (l₂ := T)).symm
 simpa only [List.append_assoc] using h
theorem pfr2 {α : Type} {A B C M : List α} : (A ++ (B ++ (C ++ (M ++ [])))).Perm (M ++ (A ++ (B ++ (C ++ [])))) := by
 have h := List.perm_append_comm (l₁ := A ++ (B ++ C)) (l₂ := M)
 simpa only [List.append_assoc,List.append_nil] using h
end K
end Go.Proofs.YtfgdepggdiibdaaGreatDoor
namespace Go.Proofs.YtfgdepggdiibdaaGreatDoor
open K
set_option linter.unusedVariables false
def mC (n k : Nat) : Nat := min 512 (n - 512 * k)
theorem range_split {m k : Nat} (h : k < m) : List.range m = List.range k ++ k :: (List.range m).drop (k + 1) := by
 have h1 : k < (List.range m).length := by rw [List.length_range]; exact h
 have h2 := (List.take_append_drop k (List.range m)).symm
 rw [List.drop_eq_getElem_cons h1,List.getElem_range,List.take_range,Nat.min_eq_left om] at h2
 exact h2
theorem mem_range_succ {k : Nat} {p : Nat → Bool} (h : ∀ y ∈ List.range k,p y = true) (hk : p k = true) : ∀ y ∈ List.range (k + 1),p y = true := fun y hy => by
 rw [List.range_succ] at hy
 rcases List.mem_append.1 hy with hy | hy
 ·exact h y hy
 ·rw [List.mem_singleton.1 hy]; exact hk
set_option maxRecDepth 100000 in
theorem fChunk (b n c : Nat) (w : World) :
  Calls Tryz.prog 80 #[.slice (some ⟨b,0,none⟩) n c,.int .i64 512] w fun e w' => ∃ q : Nat × Nat,True ∧ e = .returned (.func (.func 123) #[] #[.pointer (some ⟨q.1,0,none⟩),.pointer (some ⟨q.2,0,none⟩)]) ∧ ∃ R1,HP w [] R1 [(q.2,.cells #[.int .i64 512] 3 (0,0)),(q.1,.cells #[.slice (some ⟨b,0,none⟩) n c] 111 (0,0))] w' := by
 refine enter (vs := [.slice (some ⟨b,0,none⟩) n c,.int .i64 512]) [] [] [] Tryz.func80 rfl kr (HP.start w) ?_
 refine Cfg.begL rfl ?_
 refine Le (Eff.box (v := .slice (some ⟨b,0,none⟩) n c) rfl kr) ?_
 rintro k1 ⟨hk1,nk1⟩
 refine Le (Eff.box (v := .int .i64 512) rfl kr) ?_
 rintro k2 ⟨hk2,nk2⟩
 refine Lp 1 [] (some [2,3]) n0 trivial ?_
 refine CfgL.done rfl ?_
 refine Rg [2,3,6] [(dS (.int .i64 512))] (fun S => [(cE S k2 0 (.int .i64 512))]) ⟨(oC 0 rfl rfl),trivial⟩ ?_
 refine Cfg.condF rfl (b := false) kr rfl ?_
 refine Rg [4] [] n0 trivial ?_
 refine Cfg.ret rfl (rs := [.tmp 4]) rfl [.func (.func 123) #[] #[pT k1,pT k2]] ⟨kr,trivial⟩ (fun w1 hp => ?_)
 exact ⟨(k1,k2),trivial,rfl,_,hp⟩
set_option maxRecDepth 100000 in
set_option maxHeartbeats 2000000 in
theorem chunkIt0 (l dr k1 k2 b n c : Nat) (fi : FuncId) (T : Array Value) (ps : Array Tmp) (assign body : Code) (σ : Type) (A : σ → List (Nat × Obj)) (J : List Nat → σ → Prop) (s0 : σ) (p : Nat → Bool) (w : World) (hn : n ≤ 32768) (hc : n ≤ c) (hps : ps.size = 1) (hJ : J [] s0) (hA : Has w (A s0)) (hd : ((A s0).map (·.1)).Nodup) (hmem : ∀ pre x,(∀ y ∈ pre,p y = true) → J pre x → (∀ e ∈ [(k1,Obj.cells #[.slice (some ⟨b,0,none⟩) n c] 111 (0,0)),(k2,Obj.cells #[.int .i64 512] 3 (0,0))],e ∈ A x) ∧ (l,Obj.loop (rec0 fi T ps assign body dr .ready none)) ∈ A x) (hy : ∀ pre x (a : Nat) rest,(∀ y ∈ pre,p y = true) → J pre x → List.range (secs n) = pre ++ a :: rest → ∀ w,Has w (A x) → ((A x).map (·.1)).Nodup → RoundIn Fence.wide 0 Tryz.prog l fi ((ps.zip #[(fun (k : Nat) => Value.slice (some ⟨b,512 * k,none⟩) (mC n k) (mC n k)) a]).foldl (fun tmps (t,a) => tmps.setIfInBounds t a) T) assign body w fun e w' => ∃ y,J (pre ++ [a]) y ∧ e = .returned (.bool (p a)) ∧ ∃ R1,HP w ((A x).map (·.1)) R1 (A y) w') :
  Calls Tryz.prog 123 #[.func (.yield l) #[] #[],.pointer (some ⟨k1,0,none⟩),.pointer (some ⟨k2,0,none⟩)] w fun e w' => ∃ y,J (vis p (List.range (secs n))) y ∧ e = .returned (.tuple #[]) ∧ ∃ R1,HP w ((A s0).map (·.1)) R1 (A y) w' := by
 refine enter (vs := [.func (.yield l) #[] #[],pT k1,pT k2]) ((A s0).map (·.1)) [] ([] ++ (A s0 ++ [])) Tryz.func123 rfl kr (by have h0 := HP.ofL hA hd (R := []) (fun e he => by cases he) (fun e he => by cases he); simpa using h0) ?_
 refine Rg [0,1,2,4] [] n0 trivial ?_
 refine Cfg.loop rfl (ι := Nat × σ) (fun (xz : Nat × σ) => match xz with | (k,x) => [(4,[],.int .i64 (((512 * k) : Nat) : Int)),(0,[],.func (.yield l) #[] #[]),(1,[],pT k1),(2,[],pT k2)]) (fun (xz : Nat × σ) => match xz with | (k,x) => ([] ++ (A x ++ []))) (fun (xz : Nat × σ) => match xz with | (k,x) => (k ≤ secs n) ∧ (∀ x ∈ List.range k,p x = true) ∧ (J (List.range k) x)) (fun (xz : Nat × σ) => match xz with | (k,x) => secs n - k) (0,s0) ?_ (Conv.mk kr) slr ?_
 ·exact ⟨Nat.zero_le _,(fun x hx => by cases hx),hJ⟩
 ·rintro ⟨k,x⟩ ⟨hk,hal,hJx⟩
  have hsn : secs n = (n + 511) / 512 := rfl
  refine Rg [0,1,2,4,9] [dZ,(dS (.slice (some ⟨b,0,none⟩) n c))] (fun S => [(cE S k1 0 (.slice (some ⟨b,0,none⟩) n c))]) ⟨(fun w1 h => cell_cells (h.own _ (inA ((hmem _ x hal hJx).1 _ mH)))),trivial⟩ ?_
  refine Cfg.cond rfl (b := (decide ((((512 * k) : Nat) : Int) < (n : Int)))) kr (fun c1r => ?_) (fun c1r => ?_)
  ·have c1 := (dT c1r)
   have hk2 : k < secs n := by unfold secs; omega
   have hR2 := range_split hk2
   have hmC : 0 < mC n k ∧ 512 * k + mC n k ≤ c ∧ mC n k ≤ 512 := by unfold mC; omega
   have hmm : (if ((n - 512 * k : Nat) : Int) < (512 : Int) then ((n - 512 * k : Nat) : Int) else (512 : Int)) = ((mC n k : Nat) : Int) := by unfold mC; split <;> omega
   refine Cfg.begA rfl kr ([] ++ (A x ++ [])) ?_
   refine Ap [2] [] (some [0,1,2,4,15]) (bF 4 7) slr 6 n0 trivial ?_
   refine CfgA.two 0 1 kr (fuel' := 5) rfl ?_ ?_
   ·
    refine Ie rfl  (Eff.quiet (raw := false) (orc := some (.int .i64 512)) (v := .int .i64 512) (nd := (fun S => [(cE S k2 0 (.int .i64 512))])) (fun _ => kr) ⟨(fun w1 h => cell_cells (h.own _ (inA ((hmem _ x hal hJx).1 _ (List.mem_cons_of_mem _ mH))))),trivial⟩ kr) (fun _ _ => slr) ?_
    rintro ⟨⟩ -
    refine Ae 1 rfl 4  (Eff.quiet (raw := false) (orc := some (.slice (some ⟨b,0,none⟩) n c)) (v := .slice (some ⟨b,0,none⟩) n c) (nd := (fun S => [(cE S k1 0 (.slice (some ⟨b,0,none⟩) n c))])) (fun _ => kr) ⟨(fun w1 h => cell_cells (h.own _ (inA ((hmem _ x hal hJx).1 _ mH)))),trivial⟩ kr) (fun _ _ => slr) ?_
    rintro ⟨⟩ -
    refine Ap [3,4] [] (some [0,1,2,4,13,17]) (tF 5 2) slr 2 (fun _ => [(0 ≤ (((512 * k) : Nat) : Int)),(((512 * k)) ≤ n ∧ n ≤ c)]) ⟨om,om,trivial⟩ ?_
    refine Ae 5 rfl 1  (Eff.minI2 (k := .i64) (a := (512 : Int)) (b := (((n - (((512 * k)))) : Nat) : Int)) ((mC n k : Nat) : Int) hmm rfl kr kr) (fun _ _ => slr) ?_
    rintro ⟨⟩ -
    refine Ap [6] [] (some [0,1,2,4,5]) (tF 7 0) slr 0 n0 trivial ?_
    refine CfgA.done kr ?_
    refine Cfg.begL rfl ?_
    refine Lp 9 [dZ,(dS (.slice (some ⟨b,0,none⟩) n c))] (some [0,1,2,4,19,20,21,24,27]) (fun S => [(cE S k1 0 (.slice (some ⟨b,0,none⟩) n c)),(i6 ((((512 * k) : Nat) : Int) + ((mC n k) : Int))),(i6 ((((512 * k) : Nat) : Int) + ((mC n k) : Int)))]) ⟨(fun w1 h => cell_cells (h.own _ (inA ((hmem _ x hal hJx).1 _ mH)))),om,om,trivial⟩ ?_
    refine Le (Eff.slice3D (b := b) (n := n) (c := c) (i := 512 * k) (d := mC n k) rfl Tryz.underlying111 (e := 5) kr kr kr kr kr om) ?_
    rintro ⟨⟩ -
    refine CfgL.effI (o := _) rfl kr kr (EffI.yield (ι := σ) (vs := [.slice (some ⟨b,512 * k,none⟩) (mC n k) (mC n k)]) (fun _ => .bool (p k)) (A x) (fun y => A y) (fun y => J (List.range k ++ [k]) y) [] [] rfl rfl kr kr hps.symm (hmem _ x hal hJx).2 (fun w1 hh hdn => hy _ x k _ hal hJx hR2 w1 hh hdn)) ?_
    rintro y hJy
    refine Lp 1 [] (some [0,1,2,4,30]) n0 trivial ?_
    refine CfgL.done rfl ?_
    refine Cfg.cond rfl (b := (!(p k))) kr (fun c2r => ?_) (fun c2r => ?_)
    ·have c2 : ((p k) = false) := (notT c2r)
     refine Cfg.ret rfl (rs := []) rfl [] trivial (fun w1 hp => ?_)
     have hv : vis p (List.range (secs n)) = List.range k ++ [k] := by rw [hR2]; exact vis_stop hal (by simpa using c2r)
     rw [hv]
     have h3 : HP w ((A s0).map (·.1)) [] ([] ++ (A y ++ [])) w1 := hp
     rw [List.nil_append,List.append_nil] at h3
     exact ⟨y,hJy,rfl,_,h3⟩
    ·have c2 : ((p k) = true) := (notF c2r)
     refine Cfg.reg rfl [0,1,2,4] [dZ,(dS (.int .i64 512))] (Γ' := [(4,[],.int .i64 ((((512 * k) : Nat) : Int) + 512)),(0,[],.func (.yield l) #[] #[]),(1,[],pT k1),(2,[],pT k2)]) (nd := (fun S => [(cE S k2 0 (.int .i64 512)),(i6 ((((512 * k) : Nat) : Int) + 512))])) (fun _ => kr) ⟨(fun w1 h => cell_cells (h.own _ (inA ((hmem _ y (fun z hz => mem_range_succ hal (by simpa using c2r) z (by rw [List.range_succ]; exact hz)) hJy).1 _ (List.mem_cons_of_mem _ mH))))),om,trivial⟩ ?_
     refine Cfg.setS 4 (congrArg (fun (xq : Int) => (.int .i64 xq : Value)) (show ((((512 * k) : Nat) : Int) + 512) = (((512 * (k + 1)) : Nat) : Int) from by omega)) ?_
     refine Cfg.again rfl (k + 1,y) ⟨by omega,mem_range_succ hal (by simpa using c2r),List.range_succ ▸ hJy⟩ (by show secs n - (k + 1) < secs n - k; omega) (Conv.mk kr) slr
   ·
    refine Ie rfl  (Eff.quiet (raw := false) (orc := some (.slice (some ⟨b,0,none⟩) n c)) (v := .slice (some ⟨b,0,none⟩) n c) (nd := (fun S => [(cE S k1 0 (.slice (some ⟨b,0,none⟩) n c))])) (fun _ => kr) ⟨(fun w1 h => cell_cells (h.own _ (inA ((hmem _ x hal hJx).1 _ mH)))),trivial⟩ kr) (fun _ _ => slr) ?_
    rintro ⟨⟩ -
    refine Ap [3,4] [] (some [0,1,2,4,17]) (bF 30 7) slr 3 (fun _ => [(0 ≤ (((512 * k) : Nat) : Int)),(((512 * k)) ≤ n ∧ n ≤ c)]) ⟨om,om,trivial⟩ ?_
    refine Ae 0 rfl 2  (Eff.quiet (raw := false) (orc := some (.int .i64 512)) (v := .int .i64 512) (nd := (fun S => [(cE S k2 0 (.int .i64 512))])) (fun _ => kr) ⟨(fun w1 h => cell_cells (h.own _ (inA ((hmem _ x hal hJx).1 _ (List.mem_cons_of_mem _ mH))))),trivial⟩ kr) (fun _ _ => slr) ?_
    rintro ⟨⟩ -
    refine Ae 5 rfl 1  (Eff.minI2 (k := .i64) (a := (512 : Int)) (b := (((n - (((512 * k)))) : Nat) : Int)) ((mC n k : Nat) : Int) hmm rfl kr kr) (fun _ _ => slr) ?_
    rintro ⟨⟩ -
    refine Ap [6] [] (some [0,1,2,4,5]) (tF 7 0) slr 0 n0 trivial ?_
    refine CfgA.done kr ?_
    refine Cfg.begL rfl ?_
    refine Lp 9 [dZ,(dS (.slice (some ⟨b,0,none⟩) n c))] (some [0,1,2,4,19,20,21,24,27]) (fun S => [(cE S k1 0 (.slice (some ⟨b,0,none⟩) n c)),(i6 ((((512 * k) : Nat) : Int) + ((mC n k) : Int))),(i6 ((((512 * k) : Nat) : Int) + ((mC n k) : Int)))]) ⟨(fun w1 h => cell_cells (h.own _ (inA ((hmem _ x hal hJx).1 _ mH)))),om,om,trivial⟩ ?_
    refine Le (Eff.slice3D (b := b) (n := n) (c := c) (i := 512 * k) (d := mC n k) rfl Tryz.underlying111 (e := 5) kr kr kr kr kr om) ?_
    rintro ⟨⟩ -
    refine CfgL.effI (o := _) rfl kr kr (EffI.yield (ι := σ) (vs := [.slice (some ⟨b,512 * k,none⟩) (mC n k) (mC n k)]) (fun _ => .bool (p k)) (A x) (fun y => A y) (fun y => J (List.range k ++ [k]) y) [] [] rfl rfl kr kr hps.symm (hmem _ x hal hJx).2 (fun w1 hh hdn => hy _ x k _ hal hJx hR2 w1 hh hdn)) ?_
    rintro y hJy
    refine Lp 1 [] (some [0,1,2,4,30]) n0 trivial ?_
    refine CfgL.done rfl ?_
    refine Cfg.cond rfl (b := (!(p k))) kr (fun c3r => ?_) (fun c3r => ?_)
    ·have c3 : ((p k) = false) := (notT c3r)
     refine Cfg.ret rfl (rs := []) rfl [] trivial (fun w1 hp => ?_)
     have hv : vis p (List.range (secs n)) = List.range k ++ [k] := by rw [hR2]; exact vis_stop hal (by simpa using c3r)
     rw [hv]
     have h3 : HP w ((A s0).map (·.1)) [] ([] ++ (A y ++ [])) w1 := hp
     rw [List.nil_append,List.append_nil] at h3
     exact ⟨y,hJy,rfl,_,h3⟩
    ·have c3 : ((p k) = true) := (notF c3r)
     refine Rg [0,1,2,4] [dZ,(dS (.int .i64 512))] (fun S => [(cE S k2 0 (.int .i64 512)),(i6 ((((512 * k) : Nat) : Int) + 512))]) ⟨(fun w1 h => cell_cells (h.own _ (inA ((hmem _ y (fun z hz => mem_range_succ hal (by simpa using c3r) z (by rw [List.range_succ]; exact hz)) hJy).1 _ (List.mem_cons_of_mem _ mH))))),om,trivial⟩ ?_
     refine Cfg.setS 4 (congrArg (fun (xq : Int) => (.int .i64 xq : Value)) (show ((((512 * k) : Nat) : Int) + 512) = (((512 * (k + 1)) : Nat) : Int) from by omega)) ?_
     refine Cfg.again rfl (k + 1,y) ⟨by omega,mem_range_succ hal (by simpa using c3r),List.range_succ ▸ hJy⟩ (by show secs n - (k + 1) < secs n - k; omega) (Conv.mk kr) slr
  ·have c1 := (dF c1r)
   refine Cfg.fin rfl (rs := []) rfl [] trivial (fun w1 hp => ?_)
   have hke : k = secs n := by omega
   rw [hke] at hal hJx
   rw [vis_all hal]
   have h3 : HP w ((A s0).map (·.1)) [] ([] ++ (A x ++ [])) w1 := hp
   rw [List.nil_append,List.append_nil] at h3
   exact ⟨x,hJx,rfl,_,h3⟩
theorem chunkIt (k1 k2 b n c : Nat) (hn : n ≤ 32768) (hc : n ≤ c) :
  IterSpec Tryz.prog 123 #[.pointer (some ⟨k1,0,none⟩),.pointer (some ⟨k2,0,none⟩)] [(k1,Obj.cells #[.slice (some ⟨b,0,none⟩) n c] 111 (0,0)),(k2,Obj.cells #[.int .i64 512] 3 (0,0))] (List.range (secs n)) (fun (k : Nat) => Value.slice (some ⟨b,512 * k,none⟩) (mC n k) (mC n k)) :=
 fun l dr fi T ps assign body σ A J s0 p w hps hJ hA hd hmem hy => chunkIt0 l dr k1 k2 b n c fi T ps assign body σ A J s0 p w hn hc hps hJ hA hd hmem hy
end Go.Proofs.YtfgdepggdiibdaaGreatDoor
