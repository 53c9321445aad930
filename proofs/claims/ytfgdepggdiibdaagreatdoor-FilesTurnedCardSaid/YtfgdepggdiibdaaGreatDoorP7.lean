/- Texts on which the proof of this claim stands: Fl11, FlH, Fl12, Fl15, FlA, Fl13, SpE, Fl16, DkE, Hex, ShaA. -/
import Derived.Test.YtfgdepggdiibdaaGreatDoorP6
import Derived.Test.YtfgdepggdiibdaaGreatDoorP2
import Derived.Test.YtfgdepggdiibdaaGreatDoorP4
import Derived.Test.YtfgdepggdiibdaaGreatDoorRows
import Derived.Test.YtfgdepggdiibdaaGreatDoorP1
namespace Go.Proofs.YtfgdepggdiibdaaGreatDoor
open K
set_option linter.unusedVariables false
theorem shd_w {ps : List Pl} (hl : ps.length = 144) (ho : ∀ p ∈ ps,PlOk p) {n : Nat} (hn : n < 24) : (sheetF ps n).length = 512 := sheetF_len hl hn ho
def shWs (ps : List Pl) (i : Nat) : List Wr := (List.range i).map fun (n : Nat) => ((97 : Int) + (n : Int),sheetF ps n)
theorem shWs_next (ps : List Pl) (i : Nat) : shWs ps (i + 1) = shWs ps i ++ [((97 : Int) + (i : Int),sheetF ps i)] := by unfold shWs; rw [List.range_succ,List.map_append]; rfl
theorem shWs_len (ps : List Pl) (i : Nat) : (shWs ps i).length = i := by unfold shWs; rw [List.length_map,List.length_range]
theorem shWs_jv (ps : List Pl) (i : Nat) : jv (shWs ps i) ++ jc ((97 : Int) + (i : Int),sheetF ps i) = jv (shWs ps (i + 1)) := by rw [shWs_next,jv_app,jv_one]
def chL (da : ByteArray) (k : Nat) : List UInt8 := (da.data.toList.drop (512 * k)).take 512
def chunkF (da : ByteArray) (k : Nat) : List UInt8 := chL da k ++ List.replicate (512 - (chL da k).length) 0
theorem chL_len (da : ByteArray) (k : Nat) : (chL da k).length = mC da.size k := by
 unfold chL mC
 rw [List.length_take,List.length_drop,ba_len]
theorem chunkF_len (da : ByteArray) (k : Nat) : (chunkF da k).length = 512 := by
 have h := chL_len da k
 unfold mC at h
 unfold chunkF
 rw [List.length_append,List.length_replicate]; omega
def fileW (p : Pl) (da : ByteArray) (i : Nat) : List Wr := (List.range i).map fun (k : Nat) => (((p.at_ + k : Nat) : Int),chunkF da k)
theorem fileW_next (p : Pl) (da : ByteArray) (i : Nat) : fileW p da (i + 1) = fileW p da i ++ [(((p.at_ + i : Nat) : Int),chunkF da i)] := by unfold fileW; rw [List.range_succ,List.map_append]; rfl
theorem fileW_len (p : Pl) (da : ByteArray) (i : Nat) : (fileW p da i).length = i := by unfold fileW; rw [List.length_map,List.length_range]
theorem fileW_jv (s : List Wr) (p : Pl) (da : ByteArray) (i : Nat) : jv (s ++ fileW p da i) ++ jc (((p.at_ + i : Nat) : Int),chunkF da i) = jv (s ++ fileW p da (i + 1)) := by rw [fileW_next,← List.append_assoc,jv_app (s ++ fileW p da i),jv_one]
def keyW (T : Tb) (dm : Dm) (k : Int) : List Wr := fileW (T.ps.getD k.toNat plz) ((gget dm k).getD ByteArray.empty) (secs ((gget dm k).getD ByteArray.empty).size)
def keysF (dm : Dm) : List Int := srt (dm.map (·.1))
def secJ (T : Tb) (dm : Dm) (j : Nat) : List Wr := shWs T.ps 24 ++ ((keysF dm).take j).flatMap (keyW T dm)
def secF (T : Tb) (dm : Dm) : List Wr := shWs T.ps 24 ++ (keysF dm).flatMap (keyW T dm)
theorem secJ_0 (T : Tb) (dm : Dm) : secJ T dm 0 = shWs T.ps 24 := by unfold secJ; rw [List.take_zero]; exact List.append_nil _
theorem keysF_len (Dt : List (Int × DE)) : (keysF (dmF Dt)).length = Dt.length := by unfold keysF dmF; rw [srt_len,List.length_map,List.length_map]
theorem dv_len (Dt : List (Int × DE)) : (dv Dt).length = Dt.length := by unfold dv; rw [List.length_map]
theorem dv_keys (Dt : List (Int × DE)) : srt ((dv Dt).map (·.1)) = keysF (dmF Dt) := by unfold dv keysF dmF; rw [List.map_map,List.map_map]; rfl
theorem DtOk.len {Dt : List (Int × DE)} {Ds : List DE} (h : DtOk Dt Ds) : Dt.length ≤ 144 := by
 have := nodup_len 144 (Dt.map (·.1)) h.nd (fun x hx => by obtain ⟨p,hp,rfl⟩ := List.mem_map.1 hx; exact h.k p hp)
 rwa [List.length_map] at this
theorem gget_in {α : Type} {W : List (Int × α)} {k : Int} {v : α} (h : gget W k = some v) : (k,v) ∈ W := by
 induction W with
 | nil => cases h
 | cons p W ih =>
  unfold gget at h
  split at h
  ·rename_i hk
   injection h with h
   rw [hk,← h]; exact mH
  ·exact List.mem_cons_of_mem _ (ih h)
theorem gget_is {α : Type} {W : List (Int × α)} {k : Int} (h : k ∈ W.map (·.1)) : ∃ v,gget W k = some v := by
 induction W with
 | nil => cases h
 | cons p W ih =>
  unfold gget
  split
  ·exact ⟨_,rfl⟩
  ·rename_i hk
   rcases List.mem_cons.1 h with h | h
   ·exact absurd h hk
   ·exact ih h
theorem key_dt {Dt : List (Int × DE)} {Ds : List DE} (h : DtOk Dt Ds) {j : Nat} (hj : j < Dt.length) : ∃ (k : Nat) (d : DE),(keysF (dmF Dt)).getD j 0 = (k : Int) ∧ k < 144 ∧ gget Dt (k : Int) = some d ∧ d ∈ Ds := by
 have hk : j < (keysF (dmF Dt)).length := by rw [keysF_len]; exact hj
 have h1 : (keysF (dmF Dt)).getD j 0 ∈ keysF (dmF Dt) := by rw [List.getD_eq_getElem?_getD,List.getElem?_eq_getElem hk]; exact List.getElem_mem hk
 have h2 : (keysF (dmF Dt)).getD j 0 ∈ Dt.map (·.1) := by
  have h3 := (srt_perm _).mem_iff.1 h1
  unfold dmF at h3 ⊢
  rw [List.map_map] at h3; exact h3
 obtain ⟨p,hp,e⟩ := List.mem_map.1 h2
 have hr := h.k p hp
 obtain ⟨k,hk2⟩ := Int.eq_ofNat_of_zero_le hr.1
 rw [← e,hk2]
 obtain ⟨d,hd⟩ := gget_is (W := Dt) (k := (k : Int)) (by rw [← hk2]; exact List.mem_map.2 ⟨p,hp,rfl⟩)
 exact ⟨k,d,rfl,by omega,hd,h.i _ (gget_in hd)⟩
theorem mget_dv {Dt : List (Int × DE)} {k : Int} {d : DE} (h : gget Dt k = some d) : mget (dv Dt) k = some (dval d) := by
 rw [mget_g]
 unfold dv
 rw [gget_map dval,h]; rfl
theorem keyW_at {Dt : List (Int × DE)} {k : Nat} {d : DE} (h : gget Dt (k : Int) = some d) (T : Tb) : keyW T (dmF Dt) (k : Int) = fileW (T.ps.getD k plz) d.2 (secs d.2.size) := by
 have e : gget (dmF Dt) (k : Int) = some d.2 := by unfold dmF; rw [gget_map (fun d : DE => d.2),h]; rfl
 unfold keyW
 rw [e,Int.toNat_natCast]; rfl
theorem secJ_next {Dt : List (Int × DE)} {j k : Nat} {d : DE} (hj : j < Dt.length) (hk : (keysF (dmF Dt)).getD j 0 = (k : Int)) (h : gget Dt (k : Int) = some d) (T : Tb) : secJ T (dmF Dt) (j + 1) = secJ T (dmF Dt) j ++ fileW (T.ps.getD k plz) d.2 (secs d.2.size) := by
 have hl : j < (keysF (dmF Dt)).length := by rw [keysF_len]; exact hj
 unfold secJ
 rw [List.take_succ_eq_append_getElem hl,List.flatMap_append,← keyW_at h T,← hk,List.append_assoc,List.getD_eq_getElem?_getD,List.getElem?_eq_getElem hl,List.flatMap_cons,List.flatMap_nil,List.append_nil]; rfl
theorem dsO_in : ∀ {Ds : List DE} {d : DE},d ∈ Ds → ∀ e ∈ d.1.o 5 (bv d.2.data.toList).toList,e ∈ dsO Ds
 | x :: Ds,d,h,e,he => by
  unfold dsO
  rcases List.mem_cons.1 h with h | h
  ·exact mL (h ▸ he)
  ·exact mR (dsO_in h e he)
theorem bat_ds {z : BM} {v : BV} {T : Tb} {d : DE} (h : d ∈ v.Ds) {e : Nat × Obj} (he : e ∈ d.1.o 5 (bv d.2.data.toList).toList) : e ∈ batO z v T := List.mem_cons_of_mem _ (List.mem_cons_of_mem _ (List.mem_cons_of_mem _ (List.mem_cons_of_mem _ (List.mem_append_right _ (dsO_in h e he)))))
theorem range_hit {m : Nat} {pre rest : List Nat} {a : Nat} (h : List.range m = pre ++ a :: rest) : pre.length = a ∧ a < m := by
 have hl := congrArg List.length h
 rw [List.length_range,List.length_append,List.length_cons] at hl
 have h1 : (List.range m)[pre.length]? = some a := by rw [h,List.getElem?_append_right (Nat.le_refl _),Nat.sub_self]; rfl
 rw [List.getElem?_range om] at h1
 injection h1 with h1
 exact ⟨h1,by omega⟩
theorem bv_drop (L : List UInt8) (i j : Nat) {v : Value} (h : (bv ((L.drop i).take 512)).toList[j]? = some v) : (bv L).toList[i + j]? = some v := by
 have e : ∀ l : List UInt8,(bv l).toList = l.map fun x => Value.int .u8 (x.toNat : Int) := fun l => rfl
 rw [e,List.getElem?_map] at h ⊢
 rw [List.getElem?_take] at h
 split at h
 ·rw [List.getElem?_drop] at h; exact h
 ·cases h
theorem chunk_src {w : World} {d : DE} {t : TypeId} (h : w.heap[d.1.b]? = some (.cells ((bv d.2.data.toList).toList ++ d.1.junk).toArray t d.1.fr)) {k j : Nat} {v : Value} (hj : (bv (chL d.2 k)).toList[j]? = some v) : w.cell? ⟨d.1.b,512 * k + j,none⟩ = some v := by
 have h1 := bv_drop d.2.data.toList (512 * k) j hj
 rw [cell_cells h,List.getElem?_toArray,List.getElem?_append_left (List.getElem?_eq_some_iff.1 h1).1]; exact h1
theorem jc_copy (a : Int) {L : List UInt8} (h : L.length ≤ 512) : spl (jc (a,zb)).toArray 1 (bv L).toList = (jc (a,L ++ List.replicate (512 - L.length) 0)).toArray := by
 have e : ∀ l : List UInt8,(bv l).toList = l.map fun x => Value.int .u8 (x.toNat : Int) := fun l => rfl
 have hz : (bv zb).toList = (bv (List.replicate L.length 0)).toList ++ (bv (List.replicate (512 - L.length) 0)).toList := by
  rw [e,e,e,← List.map_append,List.replicate_append_replicate,show L.length + (512 - L.length) = 512 by omega]; rfl
 have h2 := spl_at (L := jc (a,zb)) (A := [Value.int .i64 a]) (B := (bv (List.replicate L.length 0)).toList) (T := (bv (List.replicate (512 - L.length) 0)).toList) (vs := (bv L).toList) (off := 1) (by unfold jc; rw [hz]; simp only [List.cons_append,List.nil_append]) rfl (by rw [Array.length_toList,Array.length_toList,bv_size,bv_size,List.length_replicate])
 rw [h2]
 unfold jc
 rw [e L,e (L ++ _),List.map_append,e]; simp only [List.cons_append,List.nil_append]
set_option maxRecDepth 100000 in
set_option maxHeartbeats 8000000 in
theorem fSectors (z : BM) (v : BV) (T : Tb) (w : World) (hR : Has w (batO z v T)) (hb : BOk v T) :
  Calls Tryz.prog 37 #[.pointer (some ⟨z.bb,0,none⟩)] w fun e w' => ∃ o : K.Own,OwnOk o 513 (secF T (dmF v.Dt)).length (jv (secF T (dmF v.Dt))) ∧ e = .returned (.slice (Own.a o) (secF T (dmF v.Dt)).length (Own.c o)) ∧ ∃ R1,HP w [] R1 (Own.o 101 (jv (secF T (dmF v.Dt))) o) w' := by
 have hdl := hb.d.len
 refine enterM (vs := [.pointer (some ⟨z.bb,0,none⟩)]) [] (batO z v T) [] Tryz.func37 rfl kr (HP.ofHas hR) ?_
 refine Rg [0] [] n0 trivial ?_
 refine Cfg.begL rfl ?_
 refine Le (Eff.alloc (z := (.slice none 0 0)) rfl kr) ?_
 rintro lb ⟨hlb,nlb⟩
 refine CfgL.done rfl ?_
 refine Rg [0,3,10] [] n0 trivial ?_
 refine Cfg.setO (congrArg (fun (xq : Array Value) => ([(lb,.cells xq 98 (0,0))] : LO)) (show _ = #[.slice (Own.a none) 0 (Own.c none)] from rfl)) ?_
 refine Cfg.loop rfl (ι := Nat × K.Own) (fun (xz : Nat × K.Own) => match xz with | (i,or) => [(10,[],.int .i64 (i : Int)),(3,[],pT lb),(0,[],.pointer (some ⟨z.bb,0,none⟩))]) (fun (xz : Nat × K.Own) => match xz with | (i,or) => ([(lb,.cells #[.slice (Own.a or) i (Own.c or)] 98 (0,0))] ++ (Own.o 101 (jv (shWs T.ps i)) or ++ []))) (fun (xz : Nat × K.Own) => match xz with | (i,or) => (i ≤ 24) ∧ (OwnOk or 513 i (jv (shWs T.ps i)))) (fun (xz : Nat × K.Own) => match xz with | (i,or) => 24 - i) (0,none) ?_ (Conv.mk kr) slr ?_
 ·exact ⟨Nat.zero_le _,OwnOk.none _⟩
 ·rintro ⟨i,or⟩ ⟨hi,hor⟩
  refine Rg [0,3,10,11] [] n0 trivial ?_
  refine Cfg.cond rfl (b := (decide ((i : Int) < (24 : Int)))) kr (fun c1r => ?_) (fun c1r => ?_)
  ·have c1 := (dT c1r)
   refine Rg [0,3,4,10] [] n0 trivial ?_
   refine Cfg.begA rfl kr [] ?_
   refine Ap [1,2,3,4,5,6,7] [dZ,dZ,dZ,dZ,dZ,(dS (.pointer (some ⟨z.tb,0,none⟩)))] (some [0,3,10,15,19,20]) (bF 254 13) (.cons _ (List.nil_sublist _)) 6 (fun S => [(i6 (97 + (i : Int))),(∀ w1,S w1 → w1.cell? ⟨z.bb,0,none⟩ = some (.pointer (some ⟨z.tb,0,none⟩)))]) ⟨om,(rC 0 rfl rfl),trivial⟩ ?_
   refine CfgA.two 0 8 kr (fuel' := 5) rfl ?_ ?_
   ·
    refine Ie rfl  (Eff.quiet (raw := false) (orc := some (.slice (Own.a or) i (Own.c or))) (v := .slice (Own.a or) i (Own.c or)) (nd := (fun S => [(cE S lb 0 (.slice (Own.a or) i (Own.c or)))])) (fun _ => kr) ⟨(oC 0 rfl rfl),trivial⟩ kr) (fun _ _ => List.nil_sublist _) ?_
    rintro ⟨⟩ -
    refine Ae 8 rfl 4  (Eff.callA (vs := [.pointer (some ⟨z.tb,0,none⟩),.int .i64 (i : Int)]) (.agg (bv (sheetF T.ps i))) rfl Tryz.func72 rfl rfl kr (fun w1 h => fSheet z.tb z.nr z.rm T.ps i w1 (fun e he => by rw [List.mem_singleton.1 he]; exact (h.ro _ (mG 2 rfl))) hb.tb.l hb.tb.o om)) (fun _ _ => List.nil_sublist _) ?_
    rintro ⟨⟩ -
    refine Ap [9] [(dS (.agg (jc ((97 + (i : Int)),sheetF T.ps i)).toArray))] (some [0,3,10,13,22]) (tF 10 3) (.cons _ (List.nil_sublist _)) 3 (fun S => [(∀ w1,S w1 → (Instr.build 101 #[(0,.int .i64 (97 + (i : Int))),(1,.agg (bv (sheetF T.ps i)))]).run Tryz.prog w1 = .ok (.agg (jc ((97 + (i : Int)),sheetF T.ps i)).toArray) w1)]) ⟨(fun w1 _ => build_wr ((97 + (i : Int))) (shd_w hb.tb.l hb.tb.o om) w1),trivial⟩ ?_
    refine Ae 10 rfl 2  (Eff.buildAgg (vs := (jc ((97 + (i : Int)),sheetF T.ps i)).toArray) (n := 513) rfl kr Tryz.underlying98 kr (z := (.agg (jc wz).toArray)) kr (by rw [List.size_toArray]; exact jc_len (shd_w hb.tb.l hb.tb.o om)) (by decide) (by decide)) (fun _ _ => List.nil_sublist _) ?_
    rintro wb ⟨hwb,nwb⟩
    refine Ae 11 rfl 1  (Eff.appendF rfl 513 520 Tryz.underlying98 kr (z := (.agg (jc wz).toArray)) kr kr or (xs := (jv (shWs T.ps i))) hor kr (b2 := wb) (off2 := 0) (m := 1) (c2 := 1) kr (jc ((97 + (i : Int)),sheetF T.ps i)) (jc_len (shd_w hb.tb.l hb.tb.o om)) (jc_all _) [(wb,.cells ((jc ((97 + (i : Int)),sheetF T.ps i)).toArray) 101 (0,0)),(lb,.cells #[.slice (Own.a or) i (Own.c or)] 98 (0,0))] [] (by rfl) (fun w1 h j v hj => by rw [Nat.zero_add]; exact h.ocell 0 rfl (by rw [List.getElem?_toArray]; exact hj)) om om) (fun _ _ => List.nil_sublist _) ?_
    rintro o2 ko2
    refine Ae 12 rfl 0  (Eff.store1 (b := lb) (off := 0) (v := .slice (Own.a o2) ((i + 1)) (Own.c o2)) rfl kr kr rfl kr 1 (cs := #[.slice (Own.a or) i (Own.c or)]) (e := 98) kr (by show 0 < 1; decide)) (fun _ _ => List.nil_sublist _) ?_
    rintro ⟨⟩ -
    refine CfgA.done kr ?_
    refine Cg (Γ' := [(10,[],.int .i64 (i : Int)),(3,[],pT lb),(0,[],.pointer (some ⟨z.bb,0,none⟩))]) ?_
    refine Rg [0,3,10] [] (fun _ => [(i6 ((i : Int) + 1))]) ⟨om,trivial⟩ ?_
    have hrv := shWs_jv T.ps i
    refine Cfg.setO (congrArg (fun (xq : Array Value) => (([(wb,.cells ((jc ((97 + (i : Int)),sheetF T.ps i)).toArray) 101 (0,0)),(lb,.cells xq 98 (0,0))] ++ (Own.o 101 ((jv (shWs T.ps i)) ++ (jc ((97 + (i : Int)),sheetF T.ps i))) o2 ++ [])) : LO)) (show _ = #[.slice (Own.a o2) ((i + 1)) (Own.c o2)] from rfl)) ?_
    refine Cfg.setO (congrArg (fun (xq : List Value) => (([(wb,.cells ((jc ((97 + (i : Int)),sheetF T.ps i)).toArray) 101 (0,0)),(lb,.cells #[.slice (Own.a o2) ((i + 1)) (Own.c o2)] 98 (0,0))] ++ (Own.o 101 xq o2 ++ [])) : LO)) (show _ = (jv (shWs T.ps (i + 1))) from hrv)) ?_
    refine Cfg.again rfl (i + 1,o2) ⟨by omega,hrv ▸ ko2⟩ (by show 24 - (i + 1) < 24 - i; omega) (Conv.mk kr) (.cons _ slr)
   ·
    refine Ie rfl  (Eff.callA (vs := [.pointer (some ⟨z.tb,0,none⟩),.int .i64 (i : Int)]) (.agg (bv (sheetF T.ps i))) rfl Tryz.func72 rfl rfl kr (fun w1 h => fSheet z.tb z.nr z.rm T.ps i w1 (fun e he => by rw [List.mem_singleton.1 he]; exact (h.ro _ (mG 2 rfl))) hb.tb.l hb.tb.o om)) (fun _ _ => List.nil_sublist _) ?_
    rintro ⟨⟩ -
    refine Ap [9] [(dS (.agg (jc ((97 + (i : Int)),sheetF T.ps i)).toArray))] (some [0,3,10,22]) (bF 1022 13) (.cons _ (List.nil_sublist _)) 4 (fun S => [(∀ w1,S w1 → (Instr.build 101 #[(0,.int .i64 (97 + (i : Int))),(1,.agg (bv (sheetF T.ps i)))]).run Tryz.prog w1 = .ok (.agg (jc ((97 + (i : Int)),sheetF T.ps i)).toArray) w1)]) ⟨(fun w1 _ => build_wr ((97 + (i : Int))) (shd_w hb.tb.l hb.tb.o om) w1),trivial⟩ ?_
    refine CfgA.two 0 10 kr (fuel' := 3) rfl ?_ ?_
    ·
     refine Ie rfl  (Eff.quiet (raw := false) (orc := some (.slice (Own.a or) i (Own.c or))) (v := .slice (Own.a or) i (Own.c or)) (nd := (fun S => [(cE S lb 0 (.slice (Own.a or) i (Own.c or)))])) (fun _ => kr) ⟨(oC 0 rfl rfl),trivial⟩ kr) (fun _ _ => List.nil_sublist _) ?_
     rintro ⟨⟩ -
     refine Ae 10 rfl 2  (Eff.buildAgg (vs := (jc ((97 + (i : Int)),sheetF T.ps i)).toArray) (n := 513) rfl kr Tryz.underlying98 kr (z := (.agg (jc wz).toArray)) kr (by rw [List.size_toArray]; exact jc_len (shd_w hb.tb.l hb.tb.o om)) (by decide) (by decide)) (fun _ _ => List.nil_sublist _) ?_
     rintro wb ⟨hwb,nwb⟩
     refine Ae 11 rfl 1  (Eff.appendF rfl 513 520 Tryz.underlying98 kr (z := (.agg (jc wz).toArray)) kr kr or (xs := (jv (shWs T.ps i))) hor kr (b2 := wb) (off2 := 0) (m := 1) (c2 := 1) kr (jc ((97 + (i : Int)),sheetF T.ps i)) (jc_len (shd_w hb.tb.l hb.tb.o om)) (jc_all _) [(wb,.cells ((jc ((97 + (i : Int)),sheetF T.ps i)).toArray) 101 (0,0)),(lb,.cells #[.slice (Own.a or) i (Own.c or)] 98 (0,0))] [] (by rfl) (fun w1 h j v hj => by rw [Nat.zero_add]; exact h.ocell 0 rfl (by rw [List.getElem?_toArray]; exact hj)) om om) (fun _ _ => List.nil_sublist _) ?_
     rintro o4 ko4
     refine Ae 12 rfl 0  (Eff.store1 (b := lb) (off := 0) (v := .slice (Own.a o4) ((i + 1)) (Own.c o4)) rfl kr kr rfl kr 1 (cs := #[.slice (Own.a or) i (Own.c or)]) (e := 98) kr (by show 0 < 1; decide)) (fun _ _ => List.nil_sublist _) ?_
     rintro ⟨⟩ -
     refine CfgA.done kr ?_
     refine Cg (Γ' := [(10,[],.int .i64 (i : Int)),(3,[],pT lb),(0,[],.pointer (some ⟨z.bb,0,none⟩))]) ?_
     refine Rg [0,3,10] [] (fun _ => [(i6 ((i : Int) + 1))]) ⟨om,trivial⟩ ?_
     have hrv := shWs_jv T.ps i
     refine Cfg.setO (congrArg (fun (xq : Array Value) => (([(wb,.cells ((jc ((97 + (i : Int)),sheetF T.ps i)).toArray) 101 (0,0)),(lb,.cells xq 98 (0,0))] ++ (Own.o 101 ((jv (shWs T.ps i)) ++ (jc ((97 + (i : Int)),sheetF T.ps i))) o4 ++ [])) : LO)) (show _ = #[.slice (Own.a o4) ((i + 1)) (Own.c o4)] from rfl)) ?_
     refine Cfg.setO (congrArg (fun (xq : List Value) => (([(wb,.cells ((jc ((97 + (i : Int)),sheetF T.ps i)).toArray) 101 (0,0)),(lb,.cells #[.slice (Own.a o4) ((i + 1)) (Own.c o4)] 98 (0,0))] ++ (Own.o 101 xq o4 ++ [])) : LO)) (show _ = (jv (shWs T.ps (i + 1))) from hrv)) ?_
     refine Cfg.again rfl (i + 1,o4) ⟨by omega,hrv ▸ ko4⟩ (by show 24 - (i + 1) < 24 - i; omega) (Conv.mk kr) (.cons _ slr)
    ·
     refine Ie rfl  (Eff.buildAgg (vs := (jc ((97 + (i : Int)),sheetF T.ps i)).toArray) (n := 513) rfl kr Tryz.underlying98 kr (z := (.agg (jc wz).toArray)) kr (by rw [List.size_toArray]; exact jc_len (shd_w hb.tb.l hb.tb.o om)) (by decide) (by decide)) (fun _ _ => List.nil_sublist _) ?_
     rintro wb ⟨hwb,nwb⟩
     refine Ae 0 rfl 2  (Eff.quiet (raw := false) (orc := some (.slice (Own.a or) i (Own.c or))) (v := .slice (Own.a or) i (Own.c or)) (nd := (fun S => [(cE S lb 0 (.slice (Own.a or) i (Own.c or)))])) (fun _ => kr) ⟨(oC 1 rfl rfl),trivial⟩ kr) (fun _ _ => List.nil_sublist _) ?_
     rintro ⟨⟩ -
     refine Ae 11 rfl 1  (Eff.appendF rfl 513 520 Tryz.underlying98 kr (z := (.agg (jc wz).toArray)) kr kr or (xs := (jv (shWs T.ps i))) hor kr (b2 := wb) (off2 := 0) (m := 1) (c2 := 1) kr (jc ((97 + (i : Int)),sheetF T.ps i)) (jc_len (shd_w hb.tb.l hb.tb.o om)) (jc_all _) [(wb,.cells ((jc ((97 + (i : Int)),sheetF T.ps i)).toArray) 101 (0,0)),(lb,.cells #[.slice (Own.a or) i (Own.c or)] 98 (0,0))] [] (by rfl) (fun w1 h j v hj => by rw [Nat.zero_add]; exact h.ocell 0 rfl (by rw [List.getElem?_toArray]; exact hj)) om om) (fun _ _ => List.nil_sublist _) ?_
     rintro o5 ko5
     refine Ae 12 rfl 0  (Eff.store1 (b := lb) (off := 0) (v := .slice (Own.a o5) ((i + 1)) (Own.c o5)) rfl kr kr rfl kr 1 (cs := #[.slice (Own.a or) i (Own.c or)]) (e := 98) kr (by show 0 < 1; decide)) (fun _ _ => List.nil_sublist _) ?_
     rintro ⟨⟩ -
     refine CfgA.done kr ?_
     refine Cg (Γ' := [(10,[],.int .i64 (i : Int)),(3,[],pT lb),(0,[],.pointer (some ⟨z.bb,0,none⟩))]) ?_
     refine Rg [0,3,10] [] (fun _ => [(i6 ((i : Int) + 1))]) ⟨om,trivial⟩ ?_
     have hrv := shWs_jv T.ps i
     refine Cfg.setO (congrArg (fun (xq : Array Value) => (([(wb,.cells ((jc ((97 + (i : Int)),sheetF T.ps i)).toArray) 101 (0,0)),(lb,.cells xq 98 (0,0))] ++ (Own.o 101 ((jv (shWs T.ps i)) ++ (jc ((97 + (i : Int)),sheetF T.ps i))) o5 ++ [])) : LO)) (show _ = #[.slice (Own.a o5) ((i + 1)) (Own.c o5)] from rfl)) ?_
     refine Cfg.setO (congrArg (fun (xq : List Value) => (([(wb,.cells ((jc ((97 + (i : Int)),sheetF T.ps i)).toArray) 101 (0,0)),(lb,.cells #[.slice (Own.a o5) ((i + 1)) (Own.c o5)] 98 (0,0))] ++ (Own.o 101 xq o5 ++ [])) : LO)) (show _ = (jv (shWs T.ps (i + 1))) from hrv)) ?_
     refine Cfg.again rfl (i + 1,o5) ⟨by omega,hrv ▸ ko5⟩ (by show 24 - (i + 1) < 24 - i; omega) (Conv.mk kr) (.cons _ slr)
  ·have c1 := (dF c1r)
   have hi24 : i = 24 := by omega
   refine Cfg.begL rfl ?_
   refine Lp 4 [dZ,dZ,dZ,(dS (.map (some z.db)))] (some [0,3,29]) (fun S => [(∀ w1,S w1 → w1.cell? ⟨z.bb,1,none⟩ = some (.map (some z.db)))]) ⟨(rC 0 rfl rfl),trivial⟩ ?_
   refine Le (Eff.callN (vs := [.map (some z.db)]) (fun tq => .func (.func 122) #[] #[pT tq]) (fun tq => tq) (fun _ => .cells #[.map (some z.db)] 94 (0,0)) (fun _ => True) rfl Tryz.func79 rfl rfl kr (fun w1 h => mKeysI z.db w1)) ?_
   rintro tq -
   refine Le (Eff.callOF (vs := [.func (.func 122) #[] #[pT tq]]) 3 1 v.Dt.length ((keysF (dmF v.Dt)).map Go.encZ) [(tq,.cells #[.map (some z.db)] 94 (0,0)),(lb,.cells #[.slice (Own.a or) i (Own.c or)] 98 (0,0))] (Own.o 101 (jv (shWs T.ps i)) or ++ []) rfl rfl Tryz.func78 rfl rfl kr (fun w1 h => by have h9 := sorted_gives L.ksorted79 tq z.db v.y.1 v.y.2 (dv v.Dt) w1 hb.m (h.ro _ (mG 1 rfl)) (fun p hp => by obtain ⟨q,hq,rfl⟩ := List.mem_map.1 hp; have := hb.d.k q hq; simp only; omega) (by rw [dv_len]; omega) (h.ocell 0 rfl rfl); rw [dv_len,dv_keys] at h9; exact h9)) ?_
   rintro ok kok
   refine Lp 2 [] (some [0,3,31,32,33]) n0 trivial ?_
   refine CfgL.done rfl ?_
   refine Cfg.setO (congrArg (fun (xq : Array Value) => (([(tq,.cells #[.map (some z.db)] 94 (0,0)),(lb,.cells xq 98 (0,0))] ++ (Own.o 3 ((keysF (dmF v.Dt)).map Go.encZ) ok ++ (Own.o 101 (jv (shWs T.ps i)) or ++ []))) : LO)) (show _ = #[.slice (Own.a or) ((secJ T (dmF v.Dt) 0).length) (Own.c or)] from by rw [secJ_0,shWs_len,hi24])) ?_
   refine Cfg.setO (congrArg (fun (xq : List Value) => (([(tq,.cells #[.map (some z.db)] 94 (0,0)),(lb,.cells #[.slice (Own.a or) ((secJ T (dmF v.Dt) 0).length) (Own.c or)] 98 (0,0))] ++ (Own.o 3 ((keysF (dmF v.Dt)).map Go.encZ) ok ++ (Own.o 101 xq or ++ []))) : LO)) (show _ = (jv (secJ T (dmF v.Dt) 0)) from by rw [secJ_0,hi24])) ?_
   refine Cfg.loopM rfl (ι := Nat × K.Own × List Nat) (fun (xz : Nat × K.Own × List Nat) => match xz with | (j,ow,D) => D) (fun (xz : Nat × K.Own × List Nat) => match xz with | (j,ow,D) => [(33,[],.int .i64 (j : Int)),(32,[],.int .i64 (v.Dt.length : Int)),(31,[],.slice (Own.a ok) v.Dt.length (Own.c ok)),(3,[],pT lb),(0,[],.pointer (some ⟨z.bb,0,none⟩))]) (fun (xz : Nat × K.Own × List Nat) => match xz with | (j,ow,D) => ([(lb,.cells #[.slice (Own.a ow) ((secJ T (dmF v.Dt) j).length) (Own.c ow)] 98 (0,0))] ++ (Own.o 3 ((keysF (dmF v.Dt)).map Go.encZ) ok ++ (Own.o 101 (jv (secJ T (dmF v.Dt) j)) ow ++ (markO D ++ []))))) (fun (xz : Nat × K.Own × List Nat) => match xz with | (j,ow,D) => (j ≤ v.Dt.length) ∧ ((secJ T (dmF v.Dt) j).length ≤ 24 + 64 * j) ∧ (OwnOk ow 513 (secJ T (dmF v.Dt) j).length (jv (secJ T (dmF v.Dt) j)))) (fun (xz : Nat × K.Own × List Nat) => match xz with | (j,ow,D) => v.Dt.length - j) (0,or,[]) ?_ rfl (Conv.mk kr) (.cons _ slr) ?_
   ·exact ⟨Nat.zero_le _,by rw [secJ_0,shWs_len]; omega,by rw [secJ_0,shWs_len]; exact hi24 ▸ hor⟩
   ·rintro ⟨j,ow,D⟩ ⟨hj,hln,how⟩
    refine Rg [0,3,31,32,33,34] [] n0 trivial ?_
    refine Cfg.cond rfl (b := (decide ((j : Int) < (v.Dt.length : Int)))) kr (fun c2r => ?_) (fun c2r => ?_)
    ·have c2 := (dT c2r)
     obtain ⟨⟨ob,oc,oj⟩,hok2⟩ := own_some kok om
     obtain ⟨k,d,hkk,hk,hgd,hdm⟩ := key_dt hb.d (j := j) om
     obtain ⟨P,hP⟩ : ∃ P,P = T.ps.getD k plz := ⟨_,rfl⟩
     have hstep := secJ_next om hkk hgd T
     rw [← hP] at hstep
     have hds := hb.d.s d hdm
     have hsd : secs d.2.size ≤ 64 := by have := hds.2; unfold secs; omega
     have hPo : PlOk P := by rw [hP]; exact hb.tb.o _ (K.getD_mem (by rw [hb.tb.l]; exact hk))
     have hPa := hPo.at_
     have hdc : d.2.size ≤ d.1.cap := by have := hds.1.junk; omega
     refine Cfg.setS 31 (congrArg (fun (xq : Value) => (xq : Value)) (show .slice (Own.a ok) v.Dt.length (Own.c ok) = .slice (some ⟨ob,0,none⟩) v.Dt.length oc from by rw [hok2]; rfl)) ?_
     refine Rg [0,3,6,31,32,33] [dZ,(dS (.int .i64 ((keysF (dmF v.Dt)).getD j 0)))] (fun S => [(0 ≤ (j : Int) ∧ (j : Int) < (v.Dt.length : Int)),(cE S ob j (.int .i64 ((keysF (dmF v.Dt)).getD j 0)))]) ⟨om,(fun w1 h => key_cell (h.own (ob,Obj.cells (((keysF (dmF v.Dt)).map Go.encZ) ++ oj).toArray 3 (0,0)) (show (ob,Obj.cells (((keysF (dmF v.Dt)).map Go.encZ) ++ oj).toArray 3 (0,0)) ∈ ([(lb,Obj.cells #[.slice (Own.a ow) ((secJ T (dmF v.Dt) j).length) (Own.c ow)] 98 (0,0))] ++ (Own.o 3 ((keysF (dmF v.Dt)).map Go.encZ) ok ++ (Own.o 101 (jv (secJ T (dmF v.Dt) j)) ow ++ (markO D ++ [])))) from mR (mL (by rw [hok2]; exact mH)))) (by rw [keysF_len]; omega)),trivial⟩ ?_
     refine Cfg.setS 6 (congrArg (fun (xq : Int) => (.int .i64 xq : Value)) (show ((keysF (dmF v.Dt)).getD j 0) = (k : Int) from hkk)) ?_
     refine Cfg.begL rfl ?_
     refine Lp 10 [dZ,dZ,dZ,(dS (.pointer (some ⟨z.tb,0,none⟩))),dZ,dZ,dZ,dZ,dZ,(dS (.int .i64 (P.at_ : Int)))] (some [0,3,6,31,32,33,46]) (fun S => [(∀ w1,S w1 → w1.cell? ⟨z.bb,0,none⟩ = some (.pointer (some ⟨z.tb,0,none⟩))),(iL (k : Int) 144),(∀ w1,S w1 → w1.cell? ⟨z.tb,((k * 3) + 1),none⟩ = some (.int .i64 (P.at_ : Int)))]) ⟨(rC 0 rfl rfl),om,(fun w1 h => h.rcell 2 rfl (tb_cell (by rw [hb.tb.l]; exact hk) (by rw [← hP]; rfl))),trivial⟩ ?_
     refine Le (Eff.alloc (z := (.int .i64 0)) rfl kr) ?_
     rintro ab ⟨hab,nab⟩
     refine Le (Eff.store1 (b := ab) (off := 0) (v := .int .i64 (P.at_ : Int)) rfl kr kr rfl kr 0 (cs := #[.int .i64 0]) (e := 3) kr (by show 0 < 1; decide)) ?_
     rintro ⟨⟩ -
     refine CfgL.done rfl ?_
     refine Cg (Γ' := [(7,[],pT ab),(6,[],.int .i64 (k : Int)),(33,[],.int .i64 (j : Int)),(32,[],.int .i64 (v.Dt.length : Int)),(31,[],.slice (some ⟨ob,0,none⟩) v.Dt.length oc),(3,[],pT lb),(0,[],.pointer (some ⟨z.bb,0,none⟩))]) ?_
     refine Cfg.begL rfl ?_
     refine Lp 5 [dZ,dZ,dZ,(dS (.map (some z.db)))] (some [0,3,7,31,32,33,50,51]) (fun S => [(∀ w1,S w1 → w1.cell? ⟨z.bb,1,none⟩ = some (.map (some z.db)))]) ⟨(rC 0 rfl rfl),trivial⟩ ?_
     refine Le (Eff.mapGetV (z := .slice none 0 0) (r := z.db) (k := (k : Int)) (v := dval d) rfl Tryz.underlying94 Tryz.underlying3 kr kr kr hb.m (fun w1 h => (h.ro _ (mG 1 rfl))) (mget_dv hgd)) ?_
     rintro ⟨⟩ -
     refine Le (Eff.callH (vs := [.slice (some ⟨d.1.b,0,none⟩) d.2.size d.1.cap,.int .i64 512]) (fun q : Nat × Nat => .func (.func 123) #[] #[.pointer (some ⟨q.1,0,none⟩),.pointer (some ⟨q.2,0,none⟩)]) [] (fun q => [(q.2,.cells #[.int .i64 512] 3 (0,0)),(q.1,.cells #[.slice (some ⟨d.1.b,0,none⟩) d.2.size d.1.cap] 111 (0,0))]) (fun _ => True) [] (([(ab,.cells (#[.int .i64 0].setIfInBounds 0 (.int .i64 (P.at_ : Int))) 3 (0,0)),(lb,.cells #[.slice (Own.a ow) ((secJ T (dmF v.Dt) j).length) (Own.c ow)] 98 (0,0))] ++ (Own.o 3 ((keysF (dmF v.Dt)).map Go.encZ) ok ++ (Own.o 101 (jv (secJ T (dmF v.Dt) j)) ow ++ (markO D ++ []))))) rfl rfl Tryz.func80 rfl rfl kr (fun w1 h _ _ => fChunk d.1.b d.2.size d.1.cap w1)) ?_
     rintro ⟨k1,k2⟩ -
     refine CfgL.done rfl ?_
     refine Cg (Γ' := [(53,[],.func (.func 123) #[] #[pT k1,pT k2]),(7,[],pT ab),(33,[],.int .i64 (j : Int)),(32,[],.int .i64 (v.Dt.length : Int)),(31,[],.slice (some ⟨ob,0,none⟩) v.Dt.length oc),(3,[],pT lb),(0,[],.pointer (some ⟨z.bb,0,none⟩))]) ?_
     refine Cfg.setO (congrArg (fun (xq : Array Value) => (([(k2,.cells #[.int .i64 512] 3 (0,0)),(k1,.cells #[.slice (some ⟨d.1.b,0,none⟩) d.2.size d.1.cap] 111 (0,0)),(ab,.cells xq 3 (0,0)),(lb,.cells #[.slice (Own.a ow) ((secJ T (dmF v.Dt) j).length) (Own.c ow)] 98 (0,0))] ++ (Own.o 3 ((keysF (dmF v.Dt)).map Go.encZ) ok ++ (Own.o 101 (jv (secJ T (dmF v.Dt) j)) ow ++ (markO D ++ [])))) : LO)) (show _ = #[.int .i64 (((P.at_ + 0) : Nat) : Int)] from rfl)) ?_
     refine Cfg.setO (congrArg (fun (xq : Array Value) => (([(k2,.cells #[.int .i64 512] 3 (0,0)),(k1,.cells #[.slice (some ⟨d.1.b,0,none⟩) d.2.size d.1.cap] 111 (0,0)),(ab,.cells #[.int .i64 (((P.at_ + 0) : Nat) : Int)] 3 (0,0)),(lb,.cells xq 98 (0,0))] ++ (Own.o 3 ((keysF (dmF v.Dt)).map Go.encZ) ok ++ (Own.o 101 (jv (secJ T (dmF v.Dt) j)) ow ++ (markO D ++ [])))) : LO)) (show _ = #[.slice (Own.a ow) (((secJ T (dmF v.Dt) j).length + 0)) (Own.c ow)] from rfl)) ?_
     refine Cfg.setO (congrArg (fun (xq : List Value) => (([(k2,.cells #[.int .i64 512] 3 (0,0)),(k1,.cells #[.slice (some ⟨d.1.b,0,none⟩) d.2.size d.1.cap] 111 (0,0)),(ab,.cells #[.int .i64 (((P.at_ + 0) : Nat) : Int)] 3 (0,0)),(lb,.cells #[.slice (Own.a ow) (((secJ T (dmF v.Dt) j).length + 0)) (Own.c ow)] 98 (0,0))] ++ (Own.o 3 ((keysF (dmF v.Dt)).map Go.encZ) ok ++ (Own.o 101 xq ow ++ (markO D ++ [])))) : LO)) (show _ = (jv ((secJ T (dmF v.Dt) j) ++ fileW P d.2 0)) from (congrArg jv (List.append_nil _)).symm)) ?_
     refine Cfg.rangeJ rfl (caps := #[pT k1,pT k2]) kr Tryz.func123 kr rfl kr (chunkIt k1 k2 d.1.b d.2.size d.1.cap hds.2 hdc) (σ := K.Own × Nat) (fun (x : K.Own × Nat) => ([(k2,.cells #[.int .i64 512] 3 (0,0)),(k1,.cells #[.slice (some ⟨d.1.b,0,none⟩) d.2.size d.1.cap] 111 (0,0)),(ab,.cells #[.int .i64 (((P.at_ + x.2) : Nat) : Int)] 3 (0,0)),(lb,.cells #[.slice (Own.a x.1) (((secJ T (dmF v.Dt) j).length + x.2)) (Own.c x.1)] 98 (0,0))] ++ (Own.o 3 ((keysF (dmF v.Dt)).map Go.encZ) ok ++ (Own.o 101 (jv ((secJ T (dmF v.Dt) j) ++ fileW P d.2 x.2)) x.1 ++ (markO D ++ []))))) (fun (pre : List Nat) (x : K.Own × Nat) => x.2 = pre.length ∧ OwnOk x.1 513 ((secJ T (dmF v.Dt) j).length + x.2) (jv ((secJ T (dmF v.Dt) j) ++ fileW P d.2 x.2))) (ow,0) ⟨rfl,by rw [show fileW P d.2 0 = [] from rfl,List.append_nil]; exact how⟩ [(d.1.b,.cells ((bv d.2.data.toList).toList ++ d.1.junk).toArray 5 d.1.fr)] (by rfl) (fun e he => bat_ds hdm he) (fun w1 h => List.nodup_cons.2 ⟨(fun h => by cases h),List.nodup_nil⟩) (fun (x : K.Own × Nat) => ([(k2,.cells #[.int .i64 512] 3 (0,0)),(k1,.cells #[.slice (some ⟨d.1.b,0,none⟩) d.2.size d.1.cap] 111 (0,0)),(ab,.cells #[.int .i64 (((P.at_ + x.2) : Nat) : Int)] 3 (0,0)),(lb,.cells #[.slice (Own.a x.1) (((secJ T (dmF v.Dt) j).length + x.2)) (Own.c x.1)] 98 (0,0))] ++ (Own.o 3 ((keysF (dmF v.Dt)).map Go.encZ) ok ++ (Own.o 101 (jv ((secJ T (dmF v.Dt) j) ++ fileW P d.2 x.2)) x.1 ++ (markO D ++ ([(d.1.b,Obj.cells ((bv d.2.data.toList).toList ++ d.1.junk).toArray 5 d.1.fr)] ++ [])))))) (fun _ => by simp only [List.append_assoc,List.nil_append,List.append_nil,List.cons_append]) (fun _ => true) (fun pre x _ _ e he => by simp only [List.mem_cons,List.not_mem_nil,or_false] at he; rcases he with rfl | rfl; exact mL (List.mem_cons_of_mem _ mH); exact mL mH) (.ret) rfl ?_ ?_ ?_
     ·intro l ob1 ob2 w2 M2 pre ⟨o,i⟩ k9 rest hal hJx hit
      obtain ⟨hx1,hx2⟩ := hJx
      obtain ⟨hx3,hx4⟩ := range_hit hit
      simp only at hx1 hx2
      obtain rfl : i = k9 := by omega
      refine ⟨Unit,fun _ => True,fun (_ : Unit) => [(8,[],.slice (some ⟨d.1.b,512 * i,none⟩) (mC d.2.size i) (mC d.2.size i)),(7,[],pT ab),(3,[],pT lb)],fun (_ : Unit) => ([(k2,.cells #[.int .i64 512] 3 (0,0)),(k1,.cells #[.slice (some ⟨d.1.b,0,none⟩) d.2.size d.1.cap] 111 (0,0)),(ab,.cells #[.int .i64 (((P.at_ + i) : Nat) : Int)] 3 (0,0)),(lb,.cells #[.slice (Own.a o) (((secJ T (dmF v.Dt) j).length + i)) (Own.c o)] 98 (0,0))] ++ (Own.o 3 ((keysF (dmF v.Dt)).map Go.encZ) ok ++ (Own.o 101 (jv ((secJ T (dmF v.Dt) j) ++ fileW P d.2 i)) o ++ (markO D ++ ([(d.1.b,Obj.cells ((bv d.2.data.toList).toList ++ d.1.junk).toArray 5 d.1.fr)] ++ []))))),?_,?_⟩
      ·
       refine Rg [3,7,8] [] n0 trivial ?_
       refine Cfg.mid rfl () trivial (Conv.mk kr) slr
      ·rintro ⟨⟩ -
       refine Cfg.begL rfl ?_
       refine Lp 2 [(dS (.int .i64 (((P.at_ + i) : Nat) : Int))),(dS (.agg (jc ((((P.at_ + i) : Nat) : Int),zb)).toArray))] (some [3,7,8,56]) (fun S => [(cE S ab 0 (.int .i64 (((P.at_ + i) : Nat) : Int))),(∀ w1,S w1 → (Instr.build 101 #[(0,.int .i64 (((P.at_ + i) : Nat) : Int))]).run Tryz.prog w1 = .ok (.agg (jc ((((P.at_ + i) : Nat) : Int),zb)).toArray) w1)]) ⟨(oC 3 rfl rfl),(fun w1 _ => kr),trivial⟩ ?_
       refine Le (Eff.alloc (z := (.agg (jc wz).toArray)) rfl kr) ?_
       rintro wq ⟨hwq,nwq⟩
       refine Le (Eff.storeN (b := wq) (off := 0) (vs := (jc ((((P.at_ + i) : Nat) : Int),zb)).toArray) (n := 513) rfl kr kr kr (by rw [List.size_toArray,jc_len zb_len]) (jc_all _) 0 (cs := (jc wz).toArray) (e := 101) kr (by show 0 + 513 ≤ (jc wz).toArray.size; rw [List.size_toArray,jc_len zb_len]; decide)) ?_
       rintro ⟨⟩ -
       refine CfgL.setO (congrArg (fun (xq : Array Value) => (([(wq,.cells xq 101 (0,0)),(l,ob2),(k2,.cells #[.int .i64 512] 3 (0,0)),(k1,.cells #[.slice (some ⟨d.1.b,0,none⟩) d.2.size d.1.cap] 111 (0,0)),(ab,.cells #[.int .i64 (((P.at_ + i) : Nat) : Int)] 3 (0,0)),(lb,.cells #[.slice (Own.a o) (((secJ T (dmF v.Dt) j).length + i)) (Own.c o)] 98 (0,0))] ++ (Own.o 3 ((keysF (dmF v.Dt)).map Go.encZ) ok ++ (Own.o 101 (jv ((secJ T (dmF v.Dt) j) ++ fileW P d.2 i)) o ++ (markO D ++ ([(d.1.b,Obj.cells ((bv d.2.data.toList).toList ++ d.1.junk).toArray 5 d.1.fr)] ++ []))))) : LO)) (show _ = ((jc ((((P.at_ + i) : Nat) : Int),zb)).toArray) from spl_all (by rw [List.size_toArray,List.size_toArray,jc_len zb_len]; exact (jc_len zb_len).symm))) ?_
       refine CfgL.done rfl ?_
       refine Cg (Γ' := [(9,[],pT wq),(8,[],.slice (some ⟨d.1.b,512 * i,none⟩) (mC d.2.size i) (mC d.2.size i)),(7,[],pT ab),(3,[],pT lb)]) ?_
       refine Cfg.begL rfl ?_
       refine Lp 3 [] (some [3,7,9,58,59]) (fun _ => [(512 ≤ 512)]) ⟨om,trivial⟩ ?_
       refine Le (Eff.copyC rfl Tryz.underlying111 (e := 5) 1 kr (b := wq) (off := 1) (dl := 512) (c := 512) kr (b2 := d.1.b) (off2 := 512 * i) (sl := mC d.2.size i) (c2 := mC d.2.size i) kr 0 (cs := (jc ((((P.at_ + i) : Nat) : Int),zb)).toArray) (te := 101) kr (mC d.2.size i) (by unfold mC; omega) (bv (chL d.2 i)).toList (by rw [Array.length_toList,bv_size,chL_len,Nat.mul_one]) (all_bv _) (fun w1 h j v hj => chunk_src (h.own (d.1.b,_) (mR (mR (mR (mR (mL (List.mem_singleton.2 rfl))))))) hj) (by rw [Array.length_toList,bv_size,chL_len,List.size_toArray,jc_len zb_len]; unfold mC; omega)) ?_
       rintro ⟨⟩ -
       refine CfgL.done rfl ?_
       refine Cg (Γ' := [(9,[],pT wq),(7,[],pT ab),(3,[],pT lb)]) ?_
       refine Cfg.setO (congrArg (fun (xq : Array Value) => (([(wq,.cells xq 101 (0,0)),(l,ob2),(k2,.cells #[.int .i64 512] 3 (0,0)),(k1,.cells #[.slice (some ⟨d.1.b,0,none⟩) d.2.size d.1.cap] 111 (0,0)),(ab,.cells #[.int .i64 (((P.at_ + i) : Nat) : Int)] 3 (0,0)),(lb,.cells #[.slice (Own.a o) (((secJ T (dmF v.Dt) j).length + i)) (Own.c o)] 98 (0,0))] ++ (Own.o 3 ((keysF (dmF v.Dt)).map Go.encZ) ok ++ (Own.o 101 (jv ((secJ T (dmF v.Dt) j) ++ fileW P d.2 i)) o ++ (markO D ++ ([(d.1.b,Obj.cells ((bv d.2.data.toList).toList ++ d.1.junk).toArray 5 d.1.fr)] ++ []))))) : LO)) (show _ = ((jc (((P.at_ + i : Nat) : Int),chunkF d.2 i)).toArray) from jc_copy _ (by rw [chL_len]; unfold mC; omega))) ?_
       refine Cfg.begL rfl ?_
       refine Lp 2 [(dS (.slice (Own.a o) (((secJ T (dmF v.Dt) j).length + i)) (Own.c o))),(dS (.agg (jc (((P.at_ + i : Nat) : Int),chunkF d.2 i)).toArray))] (some [3,7,61,62]) (fun S => [(cE S lb 0 (.slice (Own.a o) (((secJ T (dmF v.Dt) j).length + i)) (Own.c o))),(∀ w1,S w1 → (loadVar 101 ⟨wq,0,none⟩).run Tryz.prog w1 = .ok (.agg (jc (((P.at_ + i : Nat) : Int),chunkF d.2 i)).toArray) w1)]) ⟨(oC 5 rfl rfl),(fun w1 h => load_list Tryz.underlying101 rfl kr (jc_len (chunkF_len _ _)) (fun k v hv => by rw [Nat.zero_add]; exact h.ocell 0 rfl (by rw [List.getElem?_toArray]; exact hv))),trivial⟩ ?_
       refine Le (Eff.buildAgg (vs := (jc (((P.at_ + i : Nat) : Int),chunkF d.2 i)).toArray) (n := 513) rfl kr Tryz.underlying98 kr (z := (.agg (jc wz).toArray)) kr (by rw [List.size_toArray]; exact jc_len (chunkF_len _ _)) (by decide) (by decide)) ?_
       rintro sb ⟨hsb,nsb⟩
       refine Le (Eff.appendF rfl 513 520 Tryz.underlying98 kr (z := (.agg (jc wz).toArray)) kr kr o (xs := (jv ((secJ T (dmF v.Dt) j) ++ fileW P d.2 i))) hx2 kr (b2 := sb) (off2 := 0) (m := 1) (c2 := 1) kr (jc (((P.at_ + i : Nat) : Int),chunkF d.2 i)) (jc_len (chunkF_len _ _)) (jc_all _) ([(sb,.cells ((jc (((P.at_ + i : Nat) : Int),chunkF d.2 i)).toArray) 101 (0,0)),(wq,.cells ((jc (((P.at_ + i : Nat) : Int),chunkF d.2 i)).toArray) 101 (0,0)),(l,ob2),(k2,.cells #[.int .i64 512] 3 (0,0)),(k1,.cells #[.slice (some ⟨d.1.b,0,none⟩) d.2.size d.1.cap] 111 (0,0)),(ab,.cells #[.int .i64 (((P.at_ + i) : Nat) : Int)] 3 (0,0)),(lb,.cells #[.slice (Own.a o) (((secJ T (dmF v.Dt) j).length + i)) (Own.c o)] 98 (0,0))] ++ Own.o 3 ((keysF (dmF v.Dt)).map Go.encZ) ok) ([] ++ (markO D ++ ([(d.1.b,Obj.cells ((bv d.2.data.toList).toList ++ d.1.junk).toArray 5 d.1.fr)] ++ []))) (by rfl) (fun w1 h j v hj => by rw [Nat.zero_add]; exact h.ocell 0 rfl (by rw [List.getElem?_toArray]; exact hj)) om om) ?_
       rintro o10 ko10
       refine Le (Eff.store1 (b := lb) (off := 0) (v := .slice (Own.a o10) ((((secJ T (dmF v.Dt) j).length + i) + 1)) (Own.c o10)) rfl kr kr rfl kr 6 (cs := #[.slice (Own.a o) (((secJ T (dmF v.Dt) j).length + i)) (Own.c o)]) (e := 98) kr (by show 0 < 1; decide)) ?_
       rintro ⟨⟩ -
       refine CfgL.done rfl ?_
       refine Cg (Γ' := [(7,[],pT ab)]) ?_
       refine Cfg.begL rfl ?_
       refine Lp 2 [(dS (.int .i64 (((P.at_ + i) : Nat) : Int)))] (some [7,66]) (fun S => [(cE S ab 0 (.int .i64 (((P.at_ + i) : Nat) : Int))),(i6 ((((P.at_ + i) : Nat) : Int) + 1))]) ⟨(oC 5 rfl rfl),om,trivial⟩ ?_
       refine Le (Eff.store1 (b := ab) (off := 0) (v := .int .i64 ((((P.at_ + i) : Nat) : Int) + 1)) rfl kr kr rfl kr 5 (cs := #[.int .i64 (((P.at_ + i) : Nat) : Int)]) (e := 3) kr (by show 0 < 1; decide)) ?_
       rintro ⟨⟩ -
       refine CfgL.done rfl ?_
       refine Cg (Γ' := []) ?_
       refine Cfg.finR rfl (fun w1 hp => ?_)
       have hfj := fileW_jv (secJ T (dmF v.Dt) j) P d.2 i
       rw [hfj] at ko10 hp
       exact ⟨(o10,i + 1),⟨by simp only [List.length_append,List.length_cons,List.length_nil,hx3],ko10⟩,rfl,hp.sub (.cons _ (.cons _ slr))⟩
     ·intro dr1 ⟨o2,i2⟩ hal hJy
      obtain ⟨hy1,hy2⟩ := hJy
      simp only [List.length_range] at hy1 hy2
      subst hy1
      refine Rg [0,3,31,32,33] [] (fun _ => [(i6 ((j : Int) + 1))]) ⟨om,trivial⟩ ?_
      have hln2 : (secJ T (dmF v.Dt) (j + 1)).length = (secJ T (dmF v.Dt) j).length + secs d.2.size := by rw [hstep,List.length_append,fileW_len]
      refine Cfg.setO (congrArg (fun (xq : Array Value) => (([(dr1,.deferred (some [])),(k2,.cells #[.int .i64 512] 3 (0,0)),(k1,.cells #[.slice (some ⟨d.1.b,0,none⟩) d.2.size d.1.cap] 111 (0,0)),(ab,.cells #[.int .i64 (((P.at_ + (secs d.2.size)) : Nat) : Int)] 3 (0,0)),(lb,.cells xq 98 (0,0))] ++ (Own.o 3 ((keysF (dmF v.Dt)).map Go.encZ) ok ++ (Own.o 101 (jv ((secJ T (dmF v.Dt) j) ++ fileW P d.2 (secs d.2.size))) o2 ++ (markO D ++ [])))) : LO)) (show _ = #[.slice (Own.a o2) ((secJ T (dmF v.Dt) (j + 1)).length) (Own.c o2)] from by rw [hln2])) ?_
      refine Cfg.setO (congrArg (fun (xq : List Value) => (([(dr1,.deferred (some [])),(k2,.cells #[.int .i64 512] 3 (0,0)),(k1,.cells #[.slice (some ⟨d.1.b,0,none⟩) d.2.size d.1.cap] 111 (0,0)),(ab,.cells #[.int .i64 (((P.at_ + (secs d.2.size)) : Nat) : Int)] 3 (0,0)),(lb,.cells #[.slice (Own.a o2) ((secJ T (dmF v.Dt) (j + 1)).length) (Own.c o2)] 98 (0,0))] ++ (Own.o 3 ((keysF (dmF v.Dt)).map Go.encZ) ok ++ (Own.o 101 xq o2 ++ (markO D ++ [])))) : LO)) (show _ = (jv (secJ T (dmF v.Dt) (j + 1))) from by rw [hstep])) ?_
      refine Cfg.setS 31 (congrArg (fun (xq : Value) => (xq : Value)) (show .slice (some ⟨ob,0,none⟩) v.Dt.length oc = .slice (Own.a ok) v.Dt.length (Own.c ok) from by rw [hok2]; rfl)) ?_
      refine Cfg.permO (O' := ([(k2,.cells #[.int .i64 512] 3 (0,0)),(k1,.cells #[.slice (some ⟨d.1.b,0,none⟩) d.2.size d.1.cap] 111 (0,0)),(ab,.cells #[.int .i64 (((P.at_ + (secs d.2.size)) : Nat) : Int)] 3 (0,0)),(lb,.cells #[.slice (Own.a o2) ((secJ T (dmF v.Dt) (j + 1)).length) (Own.c o2)] 98 (0,0))] ++ (Own.o 3 ((keysF (dmF v.Dt)).map Go.encZ) ok ++ (Own.o 101 (jv (secJ T (dmF v.Dt) (j + 1))) o2 ++ (markO (dr1 :: D) ++ []))))) (by exact pdr2 (x := (dr1,Obj.deferred (some []))) (A := [(k2,Obj.cells #[.int .i64 512] 3 (0,0)),(k1,Obj.cells #[.slice (some ⟨d.1.b,0,none⟩) d.2.size d.1.cap] 111 (0,0)),(ab,Obj.cells #[.int .i64 (((P.at_ + (secs d.2.size)) : Nat) : Int)] 3 (0,0)),(lb,Obj.cells #[.slice (Own.a o2) ((secJ T (dmF v.Dt) (j + 1)).length) (Own.c o2)] 98 (0,0))]) (B := Own.o 3 ((keysF (dmF v.Dt)).map Go.encZ) ok) (C := Own.o 101 (jv (secJ T (dmF v.Dt) (j + 1))) o2) (T := markO D ++ [])) ?_
      refine Cfg.againM rfl (j + 1,o2,(dr1 :: D)) ⟨by omega,by omega,by rw [hln2,hstep]; exact hy2⟩ (by show v.Dt.length - (j + 1) < v.Dt.length - j; omega) rfl (Conv.mk kr) (.cons _ (.cons _ (.cons _ slr)))
     ·intro dr1 ⟨o2,i2⟩ pre k9 rest hit hal hpa hJy
      cases hpa
    ·have c2 := (dF c2r)
     refine Rg [2] [(dS (.slice (Own.a ow) ((secJ T (dmF v.Dt) j).length) (Own.c ow)))] (fun S => [(cE S lb 0 (.slice (Own.a ow) ((secJ T (dmF v.Dt) j).length) (Own.c ow)))]) ⟨(oC 0 rfl rfl),trivial⟩ ?_
     refine Cfg.permO (O' := markO D ++ ([(lb,Obj.cells #[.slice (Own.a ow) ((secJ T (dmF v.Dt) j).length) (Own.c ow)] 98 (0,0))] ++ (Own.o 3 ((keysF (dmF v.Dt)).map Go.encZ) ok ++ (Own.o 101 (jv (secJ T (dmF v.Dt) j)) ow ++ [])))) (pfr2 (A := [(lb,Obj.cells #[.slice (Own.a ow) ((secJ T (dmF v.Dt) j).length) (Own.c ow)] 98 (0,0))]) (B := Own.o 3 ((keysF (dmF v.Dt)).map Go.encZ) ok) (C := Own.o 101 (jv (secJ T (dmF v.Dt) j)) ow)) ?_
     refine Cfg.retM (O' := ([(lb,.cells #[.slice (Own.a ow) ((secJ T (dmF v.Dt) j).length) (Own.c ow)] 98 (0,0))] ++ (Own.o 3 ((keysF (dmF v.Dt)).map Go.encZ) ok ++ (Own.o 101 (jv (secJ T (dmF v.Dt) j)) ow ++ [])))) rfl (rs := [.tmp 2]) rfl [.slice (Own.a ow) ((secJ T (dmF v.Dt) j).length) (Own.c ow)] slr ⟨kr,trivial⟩ (fun w1 hp => ?_)
     have hje : j = v.Dt.length := by omega
     have hsf : (secJ T (dmF v.Dt) j) = secF T (dmF v.Dt) := by rw [hje]; unfold secJ secF; rw [List.take_of_length_le (by rw [keysF_len]; exact Nat.le_refl _)]
     have h9 : HP w [] _ (Own.o 101 (jv (secJ T (dmF v.Dt) j)) ow ++ []) w1 := hp.sub (.cons _ (show List.Sublist (Own.o 101 (jv (secJ T (dmF v.Dt) j)) ow ++ []) (Own.o 3 ((keysF (dmF v.Dt)).map Go.encZ) ok ++ (Own.o 101 (jv (secJ T (dmF v.Dt) j)) ow ++ [])) from (List.Sublist.trans (List.Sublist.append (List.Sublist.refl (Own.o 101 (jv (secJ T (dmF v.Dt) j)) ow)) (List.nil_sublist _)) (List.sublist_append_right (Own.o 3 ((keysF (dmF v.Dt)).map Go.encZ) ok) _))))
     rw [hsf] at how h9
     rw [List.append_nil] at h9
     exact ⟨ow,how,by rw [hsf]; rfl,_,h9⟩
end Go.Proofs.YtfgdepggdiibdaaGreatDoor
namespace Go.Proofs.YtfgdepggdiibdaaGreatDoor
open K
set_option linter.unusedVariables false
theorem getD_setL {α : Type} {d : α} (l : List α) (i j : Nat) (v : α) (h : i < l.length) : (l.set i v).getD j d = if j = i then v else l.getD j d := by
 rw [List.getD_eq_getElem?_getD,List.getElem?_set,List.getD_eq_getElem?_getD]
 by_cases hij : i = j
 ·subst hij; simp [h]
 ·rw [if_neg hij,if_neg (fun e => hij e.symm)]
theorem wget_mem_iff (W : Wt) (k : Int) : (wget W k).isSome = true ↔ k ∈ W.map (·.1) := by
 induction W with
 | nil => simp [wget]
 | cons p W ih =>
  unfold wget
  rw [List.map_cons,List.mem_cons]
  split
  ·rename_i h; simp [h]
  ·rename_i h; rw [ih]; simp [h]
theorem setl_true (W : Wt) : ∀ (ks : List Int) (k : Nat) (L : List (List UInt8)) (i : Nat),(∀ q ∈ ks,0 ≤ q ∧ q < (L.length : Int)) → (setl (fun _ => true) W k ks L).getD i zb = if (i : Int) ∈ ks then (wget W (i : Int)).getD zb else L.getD i zb
 | [],_,_,_,_ => by simp [setl]
 | q :: ks,k,L,i,h0 => by
  have hq := h0 q mH
  rw [setl,if_pos rfl,setl_true W ks (k + 1) _ i (fun x hx => by rw [List.length_set]; exact h0 x (List.mem_cons_of_mem _ hx))]
  by_cases h1 : (i : Int) ∈ ks
  ·rw [if_pos h1,if_pos (List.mem_cons_of_mem _ h1)]
  ·rw [if_neg h1,getD_setL _ _ _ _ om]
   by_cases h2 : i = q.toNat
   ·rw [if_pos h2,if_pos (by rw [h2,Int.toNat_of_nonneg hq.1]; exact mH),h2,Int.toNat_of_nonneg hq.1]
   ·rw [if_neg h2,if_neg (fun h => by rcases List.mem_cons.1 h with h | h; omega; exact h1 h)]
theorem keys_rng {D : DK} (h : DG D) : ∀ q ∈ keysW D.wait,0 ≤ q ∧ q < (D.last.length : Int) := fun q hq => by
 obtain ⟨p,hp,rfl⟩ := List.mem_map.1 ((keys_mem _ _).1 hq)
 exact h.k p hp
theorem shown_none {D : DK} {q : Int} (h : ¬ q ∈ keysW D.wait) : wget D.wait q = none := by
 cases hg : wget D.wait q with
 | none => rfl
 | some b => exact absurd ((keys_mem _ _).2 ((wget_mem_iff _ _).1 (by rw [hg]; rfl))) h
theorem settle_shown {D : DK} (p : Nat → Bool) (i : Nat) : shown (settleF p D) (i : Int) = (settleF p D).last.getD i zb := by
 show (wget [] (i : Int)).getD ((settleF p D).last.getD ((i : Int)).toNat zb) = _
 rw [Int.toNat_natCast]; rfl
theorem commit_D (J : JS) (l : List Wr) : (commitF J l).2.D = J.D ∨ (commitF J l).2.D = (transF J.D ((J.num + 1) % 18446744073709551616) (risF l)).2 := by
 unfold commitF
 repeat' split
 all_goals first | exact .inl rfl | exact .inr rfl
theorem commit_good {J : JS} {l : List Wr} (h : DG J.D) (hw : WW l) : DG (commitF J l).2.D := by
 rcases commit_D J l with e | e
 ·rw [e]; exact h
 ·rw [e]; exact h.lays (stages_w (risF_w hw) _)
theorem commit_steps (J : JS) (l : List Wr) : J.D.steps ≤ (commitF J l).2.D.steps ∧ (commitF J l).2.D.steps ≤ J.D.steps + (2 * l.length + 6 : Nat) := by
 rcases commit_D J l with e | e
 ·rw [e]; omega
 ·rw [e]
  have h1 := laysF_steps (stagesF ((J.num + 1) % 18446744073709551616) (risF l)) J.D
  rw [stages_tot] at h1
  have h2 := lastM_len l l.length
  rw [← risF_len] at h2
  unfold transF
  omega
theorem open_new {n : Nat} (hn : 64 ≤ n) : openF (newD n) = (0,0,newD n) := by
 have h0 : readF (newD n) 0 = zb := by
  unfold readF
  split
  ·show (List.replicate n zb).getD (0 : Int).toNat zb = zb
   rw [List.getD_eq_getElem?_getD,List.getElem?_replicate]
   split <;> rfl
  ·rfl
 refine op_no ?_ ?_
 ·show fltF (newD n) 0 = 0
  unfold fltF
  rw [if_neg (by show ¬ false = true; decide),if_pos (by show (0 : Int) ≤ 0 ∧ (0 : Int) < ((List.replicate n zb).length : Int); rw [List.length_replicate]; omega)]
 ·unfold openG
  rw [h0]
  exact par_no1 (by decide)
structure Wl (D : DK) : Prop where
 g : DG D
 f : D.fuse = -1
 d : D.down = false
 n : D.last.length = 200
theorem Wl.flt {D : DK} (h : Wl D) {q : Int} (hq : 0 ≤ q ∧ q < 200) : fltF D q = 0 := flt_ok h.n h.d hq
theorem Wl.read {D : DK} (h : Wl D) {q : Int} (hq : 0 ≤ q ∧ q < 200) : readF D q = shown D q := by unfold readF; rw [if_pos (h.flt hq)]
theorem Wl.sp {D : DK} (h : Wl D) : spF D = (true,{ D with steps := D.steps + 1 }) := by
 have hf := h.f
 unfold spF
 rw [if_neg (by rw [h.d]; decide),if_neg om,if_neg om]
theorem Wl.write {D : DK} (h : Wl D) {q : Int} (hq : 0 ≤ q ∧ q < 200) {b : List UInt8} (hb : b.length = 512) : (writeF D q b).1 = 0 ∧ Wl (writeF D q b).2 ∧ ∀ r : Int,shown (writeF D q b).2 r = if r = q then b else shown D r := by
 have hg := h.g.write q hb
 have e : writeF D q b = (0,{ D with steps := D.steps + 1,wait := wset D.wait q b }) := by
  unfold writeF
  rw [if_neg (by rw [h.flt hq]; decide),h.sp]; rfl
 rw [e] at hg ⊢
 refine ⟨rfl,⟨hg,h.f,h.d,h.n⟩,fun r => ?_⟩
 unfold shown
 simp only
 rw [wget_set]
 split <;> rfl
theorem Wl.bar {D : DK} (h : Wl D) : (barF D).1 = 0 ∧ Wl (barF D).2 ∧ ∀ r : Int,0 ≤ r → shown (barF D).2 r = shown D r := by
 have hg := h.g.bar
 have hl := barF_len D
 have e : barF D = (0,settleF (fun _ => true) { D with steps := D.steps + 1 }) := by
  unfold barF
  rw [h.sp]; rfl
 rw [e] at hg hl ⊢
 refine ⟨rfl,⟨hg,h.f,h.d,hl.trans h.n⟩,fun r hr => ?_⟩
 obtain ⟨i,rfl⟩ := Int.eq_ofNat_of_zero_le hr
 show shown (settleF (fun _ => true) { D with steps := D.steps + 1 }) (i : Int) = _
 rw [settle_shown]
 show (setl (fun _ => true) D.wait 0 (keysW D.wait) D.last).getD i zb = shown D (i : Int)
 rw [setl_true _ _ _ _ _ (keys_rng h.g)]
 unfold shown
 split
 ·rename_i hm
  have := (wget_mem_iff D.wait (i : Int)).2 ((keys_mem _ _).1 hm)
  cases hg : wget D.wait (i : Int) with
  | none => rw [hg] at this; cases this
  | some b => rfl
 ·rename_i hm
  rw [shown_none hm,Int.toNat_natCast]; rfl
def InR (l : List Wr) : Prop := ∀ a ∈ l,(0 ≤ a.1 ∧ a.1 < 200) ∧ a.2.length = 512
theorem Wl.lay : ∀ {l : List Wr} {D : DK},Wl D → InR l → (layF D l).1 = 0 ∧ Wl (layF D l).2 ∧ ∀ r : Int,0 ≤ r → ((∀ a ∈ l,a.1 ≠ r) → shown (layF D l).2 r = shown D r) ∧ ∀ b,(r,b) ∈ l → Rise l → shown (layF D l).2 r = b
 | [],D,h,_ => by
  obtain ⟨h1,h2,h3⟩ := h.bar
  exact ⟨h1,h2,fun r hr => ⟨fun _ => h3 r hr,fun b hb => by cases hb⟩⟩
 | a :: l,D,h,hl => by
  obtain ⟨h1,h2⟩ := hl a mH
  obtain ⟨w1,w2,w3⟩ := h.write h1 h2
  obtain ⟨g1,g2,g3⟩ := Wl.lay (l := l) w2 (fun x hx => hl x (List.mem_cons_of_mem _ hx))
  unfold layF
  rw [if_neg (by rw [w1]; decide)]
  refine ⟨g1,g2,fun r hr => ⟨fun hn => ?_,fun b hb hri => ?_⟩⟩
  ·rw [(g3 r hr).1 (fun x hx => hn x (List.mem_cons_of_mem _ hx)),w3,if_neg (fun e => hn a mH e.symm)]
  ·obtain ⟨p1,p2⟩ := List.pairwise_cons.1 hri
   rcases List.mem_cons.1 hb with e | hb
   ·rw [(g3 r hr).1 (fun x hx => by have := p1 x hx; rw [← e] at this; simp only at this; omega),w3,if_pos (by rw [← e]),← e]
   ·exact (g3 r hr).2 b hb p2
theorem Wl.trans {D : DK} (h : Wl D) (n : Nat) {l : List Wr} (hl : ∀ a ∈ l,(97 ≤ a.1 ∧ a.1 < 200) ∧ a.2.length = 512) (hn : l.length ≤ 96) (hr : Rise l) : (transF D n l).1 = 0 ∧ Wl (transF D n l).2 ∧ ∀ r : Int,97 ≤ r → ((∀ a ∈ l,a.1 ≠ r) → shown (transF D n l).2 r = shown D r) ∧ ∀ b,(r,b) ∈ l → shown (transF D n l).2 r = b := by
 have hw : WW l := fun x hx => (hl x hx).2
 have i1 : InR [((0 : Int),zb)] := fun a ha => by rw [List.mem_singleton.1 ha]; exact ⟨⟨by decide,by decide⟩,zb_len⟩
 have i2 : InR (cpy l l.length) := fun a ha => by
  refine ⟨?_,cpy_w hw _ a ha⟩
  obtain ⟨k,hk,rfl⟩ := List.mem_map.1 ha
  have := List.mem_range.1 hk
  simp only
  omega
 have i3 : InR [((0 : Int),headF n l)] := fun a ha => by rw [List.mem_singleton.1 ha]; exact ⟨⟨by show (0 : Int) ≤ 0; decide,by show (0 : Int) < 200; decide⟩,headF_len _ _⟩
 have i4 : InR l := fun a ha => ⟨by have := (hl a ha).1; omega,(hl a ha).2⟩
 obtain ⟨a1,a2,a3⟩ := h.lay i1
 obtain ⟨b1,b2,b3⟩ := a2.lay i2
 obtain ⟨c1,c2,c3⟩ := b2.lay i3
 obtain ⟨d1,d2,d3⟩ := c2.lay i4
 have e : transF D n l = (0,(layF (layF (layF (layF D [((0 : Int),zb)]).2 (cpy l l.length)).2 [((0 : Int),headF n l)]).2 l).2) := by
  unfold transF stagesF
  rw [laysF,if_neg (by rw [a1]; decide),laysF,if_neg (by rw [b1]; decide),laysF,if_neg (by rw [c1]; decide),laysF,if_neg (by rw [d1]; decide),laysF]
 rw [e]
 refine ⟨rfl,d2,fun r hr2 => ⟨fun hx => ?_,fun b hb => (d3 r om).2 b hb hr⟩⟩
 rw [(d3 r om).1 hx,(c3 r om).1 (fun a ha => by rw [List.mem_singleton.1 ha]; show (0 : Int) ≠ r; omega),(b3 r om).1 (fun a ha => by
  obtain ⟨k,hk,rfl⟩ := List.mem_map.1 ha
  have := List.mem_range.1 hk
  simp only
  omega),(a3 r om).1 (fun a ha => by rw [List.mem_singleton.1 ha]; show (0 : Int) ≠ r; omega)]
theorem ris_in {l : List Wr} {x : Wr} (h : x ∈ risF l) : x ∈ l := by
 obtain ⟨a,ha,rfl⟩ := List.mem_map.1 h
 have h1 := (nget_mem _ _).2 ((keysN_mem _ _).1 ha)
 unfold atN
 cases hg : nget (lastM l l.length) a with
 | none => rw [hg] at h1; cases h1
 | some k =>
  have h2 := (lastM_lt l l.length a k hg).1
  show l.getD k wz ∈ l
  rw [List.getD_eq_getElem?_getD,List.getElem?_eq_getElem h2]; exact List.getElem_mem h2
theorem Wl.bad {D : DK} (h : Wl D) {l : List Wr} (hl : l.any (badW D) = false) : ∀ a ∈ l,97 ≤ a.1 ∧ a.1 < 200 := fun a ha => by
 have := List.any_eq_false.1 hl a ha
 unfold badW at this
 rw [h.n] at this
 simp at this
 omega
theorem Wl.commit {J : JS} (h : Wl J.D) (hw : J.why = 0) {l : List Wr} (hl : WW l) : (commitF J l).2.why = 0 ∧ Wl (commitF J l).2.D := by
 unfold commitF
 rw [if_neg (by rw [hw]; decide)]
 split
 ·exact ⟨hw,h⟩
 ·rename_i hb
  split
  ·exact ⟨hw,h⟩
  ·rename_i h9
   split
   ·exact ⟨hw,h⟩
   ·have hb' := h.bad (Bool.eq_false_iff.2 hb)
    obtain ⟨t1,t2,_⟩ := h.trans ((J.num + 1) % 18446744073709551616) (l := risF l) (fun a ha => ⟨hb' a (ris_in ha),hl a (ris_in ha)⟩) om (risF_rise l)
    rw [if_neg (by rw [t1]; decide)]
    exact ⟨rfl,t2⟩
theorem Wl.commit_ok {J : JS} (h : Wl J.D) (hw : J.why = 0) {l : List Wr} (hl : WW l) (hr : ∀ a ∈ l,97 ≤ a.1 ∧ a.1 < 200) (hn : l.length ≤ 96) : (commitF J l).1 = 0 ∧ ∀ r b,97 ≤ r → lwF l (fun _ => none) r = some (r,b) → shown (commitF J l).2.D r = b := by
 have h2 := lastM_len l l.length
 rw [← risF_len] at h2
 unfold commitF
 have hb : l.any (badW J.D) = false := List.any_eq_false.2 fun a ha => by
  have := hr a ha
  unfold badW
  rw [h.n]; simp; omega
 rw [if_neg (by rw [hw]; decide),if_neg (by rw [hb]; decide),if_neg om]
 obtain ⟨t1,t2,t3⟩ := h.trans ((J.num + 1) % 18446744073709551616) (l := risF l) (fun a ha => ⟨hr a (ris_in ha),hl a (ris_in ha)⟩) om (risF_rise l)
 split
 ·rename_i h0
  refine ⟨rfl,fun r b _ hx => ?_⟩
  have := (risF_mem l (r,b)).2 hx
  rw [List.eq_nil_of_length_eq_zero h0] at this
  cases this
 ·rw [if_neg (by rw [t1]; decide)]
  exact ⟨rfl,fun r b h97 hx => (t3 r h97).2 b ((risF_mem l (r,b)).2 hx)⟩
theorem newD_len (n : Nat) : (newD n).last.length = n := List.length_replicate
theorem Wl.open0 {D : DK} (h : Wl D) (h0 : shown D 0 = zb) : openF D = (0,0,D) := by
 refine op_no (h.flt ⟨by decide,by decide⟩) ?_
 unfold openG
 rw [h.read ⟨by decide,by decide⟩,h0]
 exact par_no1 (by decide)
end Go.Proofs.YtfgdepggdiibdaaGreatDoor
namespace Go.Proofs.YtfgdepggdiibdaaGreatDoor
open K
set_option linter.unusedVariables false
def acL (a : FA) : List Value := [.int .i64 a.k,.string a.nm,.string a.t2,.string a.da]
theorem acL_len (a : FA) : (acL a).length = 4 := rfl
theorem acL_all (a : FA) : ∀ v ∈ (acC a).toList,K.one v = true := by
 intro v h
 have h2 : v ∈ acL a := h
 simp only [acL,List.mem_cons,List.not_mem_nil,or_false] at h2
 rcases h2 with rfl | rfl | rfl | rfl <;> rfl
def faz : FA := ⟨0,ByteArray.empty,ByteArray.empty,ByteArray.empty⟩
def actsF : List FA → Tb → Dm → Int × Tb × Dm
 | [],T,dm => (0,T,dm)
 | a :: l,T,dm => if (actF T dm a).1 ≠ 0 then actF T dm a else actsF l (actF T dm a).2.1 (actF T dm a).2.2
theorem acts_drop {l : List FA} {k : Nat} {a : FA} (hk : k < l.length) (ha : a = l.getD k faz) : l.drop k = a :: l.drop (k + 1) := by
 rw [List.drop_eq_getElem_cons hk,ha,List.getD_eq_getElem?_getD,List.getElem?_eq_getElem hk]; rfl
theorem acts_go {l : List FA} {k : Nat} {a : FA} {T : Tb} {dm : Dm} (hk : k < l.length) (ha : a = l.getD k faz) (h : ¬ (actF T dm a).1 ≠ 0) : actsF (l.drop k) T dm = actsF (l.drop (k + 1)) (actF T dm a).2.1 (actF T dm a).2.2 := by
 rw [acts_drop hk ha,actsF,if_neg h]
theorem acts_stop {l : List FA} {k : Nat} {a : FA} {T : Tb} {dm : Dm} (hk : k < l.length) (ha : a = l.getD k faz) (h : (actF T dm a).1 ≠ 0) : actsF (l.drop k) T dm = actF T dm a := by
 rw [acts_drop hk ha,actsF,if_pos h]
def unl (D : DK) (w : Wr) : Bool := (fltF D w.1 != (0 : Int)) || (!(readF D w.1 == w.2))
def ulF (D : DK) (l : List Wr) : List Wr := l.filter (unl D)
def ulK (D : DK) (l : List Wr) (k : Nat) : List Wr := (l.take k).filter (unl D)
theorem ul_split {D : DK} {l : List Wr} {k : Nat} (h : k < l.length) : ulK D l (k + 1) = ulK D l k ++ [l.getD k wz].filter (unl D) := by
 unfold ulK
 have e : l[k] = l.getD k wz := by rw [List.getD_eq_getElem?_getD,List.getElem?_eq_getElem h]; rfl
 rw [List.take_succ_eq_append_getElem h,List.filter_append,e]
theorem ul_yes {D : DK} {l : List Wr} {k : Nat} {x : Wr} (h : k < l.length) (hx : x = l.getD k wz) (hp : unl D x = true) : ulK D l (k + 1) = ulK D l k ++ [x] := by
 rw [ul_split h,← hx,List.filter_cons,if_pos hp]; rfl
theorem ul_no {D : DK} {l : List Wr} {k : Nat} {x : Wr} (h : k < l.length) (hx : x = l.getD k wz) (hp : unl D x = false) : ulK D l (k + 1) = ulK D l k := by
 rw [ul_split h,← hx,List.filter_cons,if_neg (by rw [hp]; decide)]; exact List.append_nil _
theorem ul_len (D : DK) (l : List Wr) (k : Nat) : (ulK D l k).length ≤ k := by
 have h1 := List.length_filter_le (unl D) (l.take k)
 have h2 := List.length_take_le k l
 unfold ulK; omega
theorem ul_all {D : DK} {l : List Wr} {k : Nat} (h : l.length ≤ k) : ulK D l k = ulF D l := by unfold ulK ulF; rw [List.take_of_length_le h]
theorem ulF_w {D : DK} {l : List Wr} (h : WW l) : WW (ulF D l) := fun x hx => h x (List.mem_filter.1 hx).1
structure FSx9 where
 num : Nat
 D : DK
 T : Tb
def comF (s : FSx9) (T : Tb) (dm : Dm) : Int × JS := commitF ⟨0,s.num,s.D⟩ (ulF s.D (secF T dm))
def doF (s : FSx9) (l : List FA) : Int × FSx9 :=
 if l.length = 0 then (0,s) else if (actsF l s.T []).1 ≠ 0 then ((actsF l s.T []).1,s)
 else if (comF s (actsF l s.T []).2.1 (actsF l s.T []).2.2).1 ≠ 0 then ((comF s (actsF l s.T []).2.1 (actsF l s.T []).2.2).1,⟨(comF s (actsF l s.T []).2.1 (actsF l s.T []).2.2).2.num,(comF s (actsF l s.T []).2.1 (actsF l s.T []).2.2).2.D,s.T⟩)
 else (0,⟨(comF s (actsF l s.T []).2.1 (actsF l s.T []).2.2).2.num,(comF s (actsF l s.T []).2.1 (actsF l s.T []).2.2).2.D,(actsF l s.T []).2.1⟩)
theorem do_none {s : FSx9} {l : List FA} (h : l.length = 0) : doF s l = (0,s) := if_pos h
theorem do_act {s : FSx9} {l : List FA} {e : Int} {T : Tb} {dm : Dm} (h : ¬ l.length = 0) (ha : actsF l s.T [] = (e,T,dm)) (he : e ≠ 0) : doF s l = (e,s) := by
 unfold doF; rw [if_neg h,ha]; exact if_pos he
theorem do_com {s : FSx9} {l : List FA} {T : Tb} {dm : Dm} {C : Int × JS} (h : ¬ l.length = 0) (ha : actsF l s.T [] = (0,T,dm)) (hc : C = comF s T dm) (he : C.1 ≠ 0) : doF s l = (C.1,⟨C.2.num,C.2.D,s.T⟩) := by
 unfold doF; rw [if_neg h,ha,if_neg (by show ¬ (0 : Int) ≠ 0; decide)]; simp only; rw [← hc]; exact if_pos he
theorem do_ok {s : FSx9} {l : List FA} {T : Tb} {dm : Dm} {C : Int × JS} (h : ¬ l.length = 0) (ha : actsF l s.T [] = (0,T,dm)) (hc : C = comF s T dm) (he : C.1 = 0) : doF s l = (0,⟨C.2.num,C.2.D,T⟩) := by
 unfold doF; rw [if_neg h,ha,if_neg (by show ¬ (0 : Int) ≠ 0; decide)]; simp only; rw [← hc]; exact if_neg (fun e => e he)
structure FOk (z : FM) (T : Tb) : Prop where
 tb : TbOk T
 w : WOk T.W
 g : Good z.o T.fr
 sm : SMapOk z.x.1 z.x.2 T.W
theorem shWs_w {ps : List Pl} (hl : ps.length = 144) (ho : ∀ p ∈ ps,PlOk p) {i : Nat} (hi : i ≤ 24) : WW (shWs ps i) := fun x hx => by
 obtain ⟨k,hk,rfl⟩ := List.mem_map.1 hx
 exact shd_w hl ho (by have := List.mem_range.1 hk; omega)
theorem keyW_w (T : Tb) (dm : Dm) (k : Int) : WW (keyW T dm k) := fun x hx => by
 obtain ⟨j,_,rfl⟩ := List.mem_map.1 hx
 exact chunkF_len _ _
theorem secF_w {T : Tb} (h : TbOk T) (dm : Dm) : WW (secF T dm) := by
 refine WW.app (shWs_w h.l h.o (Nat.le_refl _)) fun x hx => ?_
 obtain ⟨k,_,hk⟩ := List.mem_flatMap.1 hx
 exact keyW_w T dm k x hk
theorem secJ_le {v : BV} {T : Tb} (hb : BOk v T) : ∀ j,j ≤ v.Dt.length → (secJ T (dmF v.Dt) j).length ≤ 24 + 64 * j
 | 0,_ => by rw [secJ_0,shWs_len]; omega
 | j + 1,h => by
  obtain ⟨k,d,hkk,hk,hgd,hdm⟩ := key_dt hb.d (j := j) om
  have h1 := secJ_le hb j om
  have h2 := (hb.d.s d hdm).2
  rw [secJ_next om hkk hgd T,List.length_append,fileW_len]
  have : secs d.2.size ≤ 64 := by unfold secs; omega
  omega
theorem secF_le {v : BV} {T : Tb} (hb : BOk v T) : (secF T (dmF v.Dt)).length ≤ 9240 := by
 have h1 := secJ_le hb v.Dt.length (Nat.le_refl _)
 have h2 := hb.d.len
 have e : secJ T (dmF v.Dt) v.Dt.length = secF T (dmF v.Dt) := by unfold secJ secF; rw [List.take_of_length_le (by rw [keysF_len]; exact Nat.le_refl _)]
 rw [e] at h1; omega
theorem bat_new (bb db tb nr rm : Nat) (o : K.Own) (x : Array MapEntry × Nat) (T : Tb) : batO ⟨bb,db,tb,nr,rm⟩ ⟨o,x,(#[],0),[],[]⟩ T = (bb,.cells #[.pointer (some ⟨tb,0,none⟩),.map (some db)] 96 (0,0)) :: (db,.map #[] 0) :: tabO tb nr rm T o x := by
 unfold batO dsO tabO; rw [List.append_nil]
theorem bat_make {bb db tb nr rm : Nat} {o : K.Own} {x : Array MapEntry × Nat} {T : Tb} {F D X : List (Nat × Obj)} : ((bb,.cells #[.pointer (some ⟨tb,0,none⟩),.map (some db)] 96 (0,0)) :: (db,.map #[] 0) :: (F ++ (D ++ (tabO tb nr rm T o x ++ X)))).Perm (F ++ (D ++ (batO ⟨bb,db,tb,nr,rm⟩ ⟨o,x,(#[],0),[],[]⟩ T ++ X))) := by
 rw [bat_new]
 have h := List.perm_append_comm_assoc [(bb,Obj.cells #[pT tb,.map (some db)] 96 (0,0)),(db,Obj.map #[] 0)] (F ++ D) (tabO tb nr rm T o x ++ X)
 simpa only [List.append_assoc,List.cons_append,List.nil_append] using h
theorem bat_tab (z : BM) (v : BV) (T : Tb) : (tabO z.tb z.nr z.rm T v.o v.x).Sublist (batO z v T) := .cons _ (.cons _ (.cons_cons _ (.cons_cons _ (List.sublist_append_left _ _))))
theorem go_perm (z : FM) (why : Int) (num : Nat) (m : DM) (T : Tb) (D : List (Nat × Obj)) : (gO z why num m T ++ D).Perm ([(z.fb,Obj.cells #[.pointer (some ⟨z.jb,0,none⟩),.pointer (some ⟨z.tb,0,none⟩)] 91 (0,0)),(z.jb,Obj.cells #[.int .i64 why,.pointer (some ⟨m.d,0,none⟩),.int .u64 (num : Int)] 143 (0,0))] ++ (D ++ (tabO z.tb z.nr z.rm T z.o z.x ++ []))) := by
 rw [List.append_nil]
 exact List.Perm.cons _ (List.Perm.cons _ List.perm_append_comm)
theorem com_side {w0 w : World} {M : List Nat} {R L A U T : List (Nat × Obj)} {tab : Nat × Obj} (h : HP w0 M R (L ++ (A ++ (U ++ T))) w) (ht : tab ∈ R) : Has w (tab :: U) ∧ ∀ e ∈ tab :: U,e.1 ∉ A.map (·.1) := by
 refine ⟨fun e he => ?_,fun e he hm => ?_⟩
 ·rcases List.mem_cons.1 he with rfl | he
  ·exact h.ro _ ht
  ·exact h.own _ (mR (mR (mL he)))
 ·obtain ⟨e2,h2,h3⟩ := List.mem_map.1 hm
  rcases List.mem_cons.1 he with rfl | he
  ·exact h.away (mR (mL h2)) ht h3
  ·have hd := h.dist
   rw [List.map_append,List.map_append,List.map_append] at hd
   exact (List.nodup_append.1 (List.nodup_append.1 hd).2.1).2.2 _ (List.mem_map.2 ⟨e2,h2,rfl⟩) _ (mL (List.mem_map.2 ⟨e,he,rfl⟩)) h3
set_option maxRecDepth 100000 in
set_option maxHeartbeats 8000000 in
theorem fDo (z : FM) (m : DM) (y : MX) (s : FSx9) (la : Option Addr) (cap : Nat) (l : List FA) (Rl : List (Nat × Obj)) (t0 : TypeId) (fr0 : Nat × Nat) (w : World) (hw : Wl s.D) (hf : FOk z s.T) (hmo : MapOk y.1 y.2 (wv2 s.D.wait)) (hs : 0 ≤ s.D.steps ∧ s.D.steps ≤ 4611686018425000000) (hA : Has w (gO z 0 s.num m s.T ++ dO s.D m y)) (hd : ((gO z 0 s.num m s.T ++ dO s.D m y).map (·.1)).Nodup) (hI : InF acL 4 Rl la l) (ha : ∀ a ∈ l,a.nm.size ≤ maxLen ∧ a.t2.size ≤ maxLen) (hll : l.length ≤ 1000000) (hR : Has w ((1,Obj.cells (wv Kc) t0 fr0) :: Rl)) (hnr : ∀ e ∈ (1,Obj.cells (wv Kc) t0 fr0) :: Rl,e.1 ∉ ((gO z 0 s.num m s.T ++ dO s.D m y).map (·.1))) :
  Calls Tryz.prog 9 #[.pointer (some ⟨z.fb,0,none⟩),.slice la l.length cap] w fun e w' => ∃ q : FM × MX,(q.1.fb = z.fb ∧ FOk q.1 (doF s l).2.T ∧ MapOk q.2.1 q.2.2 (wv2 (doF s l).2.D.wait) ∧ Wl (doF s l).2.D ∧ s.D.steps ≤ (doF s l).2.D.steps ∧ (doF s l).2.D.steps ≤ s.D.steps + 20000) ∧ e = .returned (.int .i64 (doF s l).1) ∧ ∃ R1,HP w ((gO z 0 s.num m s.T ++ dO s.D m y).map (·.1)) R1 (gO q.1 0 (doF s l).2.num m (doF s l).2.T ++ dO (doF s l).2.D m q.2) w' := by
 refine enter (vs := [.pointer (some ⟨z.fb,0,none⟩),.slice la l.length cap]) ((gO z 0 s.num m s.T ++ dO s.D m y).map (·.1)) ((1,Obj.cells (wv Kc) t0 fr0) :: Rl) ([(z.fb,.cells #[.pointer (some ⟨z.jb,0,none⟩),.pointer (some ⟨z.tb,0,none⟩)] 91 (0,0)),(z.jb,.cells #[.int .i64 0,.pointer (some ⟨m.d,0,none⟩),.int .u64 (s.num : Int)] 143 (0,0))] ++ (dO s.D m y ++ (tabO z.tb z.nr z.rm s.T z.o z.x ++ []))) Tryz.func9 rfl kr ((HP.ofL hA hd hR hnr).perm (go_perm _ _ _ _ _ _)) ?_
 refine Rg [0,1] [] n0 trivial ?_
 refine Cfg.begL rfl ?_
 refine Lp 1 [] none n0 trivial ?_
 refine Le (Eff.callA (vs := [.pointer (some ⟨z.fb,0,none⟩)]) (.int .i64 0) rfl Tryz.func24 rfl rfl kr (fun w1 h => fErr z 0 s.num m y s.D s.T w1 (fun e he => h.own e ((go_perm _ _ _ _ _ _).mem_iff.1 he)))) ?_
 rintro ⟨⟩ -
 refine Lp 1 [] (some [0,1,5]) n0 trivial ?_
 refine CfgL.done rfl ?_
 refine Rg [0,1,5,19] [] n0 trivial ?_
 refine Cfg.condF rfl (b := false) kr rfl ?_
 refine Rg [0,1,23] [] n0 trivial ?_
 refine Cfg.cond rfl (b := ((l.length : Int) == (0 : Int))) kr (fun c2r => ?_) (fun c2r => ?_)
 ·have c2 := (beq_iff_eq.1 c2r)
  refine Rg [4] [] n0 trivial ?_
  refine Cfg.ret rfl (rs := [.tmp 4]) rfl [.int .i64 0] ⟨kr,trivial⟩ (fun w1 hp => ?_)
  have h8 : HP w ((gO z 0 s.num m s.T ++ dO s.D m y).map (·.1)) _ ([(z.fb,Obj.cells #[.pointer (some ⟨z.jb,0,none⟩),.pointer (some ⟨z.tb,0,none⟩)] 91 (0,0)),(z.jb,Obj.cells #[.int .i64 0,.pointer (some ⟨m.d,0,none⟩),.int .u64 (s.num : Int)] 143 (0,0))] ++ (dO s.D m y ++ (tabO z.tb z.nr z.rm s.T z.o z.x ++ []))) w1 := hp.sub slr
  have h9 := h8.perm (go_perm z 0 s.num m s.T (dO s.D m y)).symm
  rw [do_none om]
  exact ⟨(z,y),⟨rfl,hf,hmo,hw,by simp only; omega,by simp only; omega⟩,rfl,_,h9⟩
 ·have c2 := (beq_eq_false_iff_ne.1 c2r)
  refine Cfg.begL rfl ?_
  refine Lp 4 [dZ,dZ,dZ,(dS (.pointer (some ⟨z.tb,0,none⟩)))] (some [0,1,27]) (fun S => [(∀ w1,S w1 → w1.cell? ⟨z.fb,1,none⟩ = some (.pointer (some ⟨z.tb,0,none⟩)))]) ⟨(oC 0 rfl rfl),trivial⟩ ?_
  refine Le (Eff.callH (vs := [.pointer (some ⟨z.tb,0,none⟩)]) (fun q : Nat × Nat × Nat × K.Own => .pointer (some ⟨q.1,0,none⟩)) [] (fun q => tabO q.1 q.2.1 q.2.2.1 s.T q.2.2.2 z.x) (fun q => Good q.2.2.2 s.T.fr) ([(z.fb,Obj.cells #[.pointer (some ⟨z.jb,0,none⟩),.pointer (some ⟨z.tb,0,none⟩)] 91 (0,0)),(z.jb,Obj.cells #[.int .i64 0,.pointer (some ⟨m.d,0,none⟩),.int .u64 (s.num : Int)] 143 (0,0))] ++ dO s.D m y) ((tabO z.tb z.nr z.rm s.T z.o z.x ++ [])) rfl rfl Tryz.func35 rfl rfl kr (fun w1 h _ _ => fCopied z 0 s.num m y s.D s.T w1 (fun e he => h.own e ((go_perm _ _ _ _ _ _).mem_iff.1 he)) hf.tb hf.g hf.sm)) ?_
  rintro ⟨tb2,nr2,rm2,o2⟩ hg2
  refine Le (Eff.mapNew rfl) ?_
  rintro db ⟨hdb,ndb⟩
  refine CfgL.pure 1 [(dS (.agg #[pT tb2,.map (some db)]))] (some [0,1,30]) (Γ' := [(30,[],.agg #[pT tb2,.map (some db)]),(0,[],.pointer (some ⟨z.fb,0,none⟩)),(1,[],.slice la l.length cap)]) (nd := (fun S => [(∀ w1,S w1 → (Instr.build 96 #[(0,pT tb2),(1,.map (some db))]).run Tryz.prog w1 = .ok (.agg #[pT tb2,.map (some db)]) w1)])) kr (fun _ => kr) ⟨(fun w1 _ => kr),trivial⟩ ?_
  refine Le (Eff.box (v := .agg #[pT tb2,.map (some db)]) rfl kr) ?_
  rintro bb ⟨hbb,nbb⟩
  refine Lp 1 [] (some [0,1,6]) n0 trivial ?_
  refine CfgL.done rfl ?_
  refine Cfg.permO (O' := ([(z.fb,.cells #[.pointer (some ⟨z.jb,0,none⟩),.pointer (some ⟨z.tb,0,none⟩)] 91 (0,0)),(z.jb,.cells #[.int .i64 0,.pointer (some ⟨m.d,0,none⟩),.int .u64 (s.num : Int)] 143 (0,0))] ++ (dO s.D m y ++ (batO ⟨bb,db,tb2,nr2,rm2⟩ (⟨o2,z.x,(#[],0),[],[]⟩ : BV) s.T ++ (tabO z.tb z.nr z.rm s.T z.o z.x ++ []))))) (by exact bat_make (F := [(z.fb,Obj.cells #[.pointer (some ⟨z.jb,0,none⟩),.pointer (some ⟨z.tb,0,none⟩)] 91 (0,0)),(z.jb,Obj.cells #[.int .i64 0,.pointer (some ⟨m.d,0,none⟩),.int .u64 (s.num : Int)] 143 (0,0))]) (D := dO s.D m y) (X := (tabO z.tb z.nr z.rm s.T z.o z.x ++ []))) ?_
  have hb0 : BOk (⟨o2,z.x,(#[],0),[],[]⟩ : BV) s.T := ⟨hf.tb,hf.w,hg2,hf.sm,MapOk.empty 0,⟨(fun p hp => by cases hp),(fun p hp => by cases hp),(fun d hd => by cases hd),List.nodup_nil⟩⟩
  refine Rg [0,6,32,33,34] [] n0 trivial ?_
  refine Cfg.loop rfl (ι := Nat × BV × Tb) (fun (xz : Nat × BV × Tb) => match xz with | (k,v,T2) => [(34,[],.int .i64 (k : Int)),(33,[],.int .i64 (l.length : Int)),(32,[],.slice la l.length cap),(6,[],pT bb),(0,[],.pointer (some ⟨z.fb,0,none⟩))]) (fun (xz : Nat × BV × Tb) => match xz with | (k,v,T2) => ([(z.fb,.cells #[.pointer (some ⟨z.jb,0,none⟩),.pointer (some ⟨z.tb,0,none⟩)] 91 (0,0)),(z.jb,.cells #[.int .i64 0,.pointer (some ⟨m.d,0,none⟩),.int .u64 (s.num : Int)] 143 (0,0))] ++ (dO s.D m y ++ (batO ⟨bb,db,tb2,nr2,rm2⟩ v T2 ++ (tabO z.tb z.nr z.rm s.T z.o z.x ++ []))))) (fun (xz : Nat × BV × Tb) => match xz with | (k,v,T2) => (k ≤ l.length) ∧ (BOk v T2) ∧ (actsF (l.drop k) T2 (dmF v.Dt) = actsF l s.T [])) (fun (xz : Nat × BV × Tb) => match xz with | (k,v,T2) => l.length - k) (0,(⟨o2,z.x,(#[],0),[],[]⟩ : BV),s.T) ?_ (Conv.mk kr) slr ?_
  ·exact ⟨Nat.zero_le _,hb0,rfl⟩
  ·rintro ⟨k,v,T2⟩ ⟨hk,hb,hra⟩
   refine Rg [0,6,32,33,34,35] [] n0 trivial ?_
   refine Cfg.cond rfl (b := (decide ((k : Int) < (l.length : Int)))) kr (fun c3r => ?_) (fun c3r => ?_)
   ·have c3 := (dT c3r)
    obtain ⟨sb,off,cs,te,fre,hsb,hmem,hcs⟩ := hI om
    obtain ⟨a,hae⟩ : ∃ a,a = l.getD k faz := ⟨_,rfl⟩
    have hasz := ha a (by rw [hae]; exact K.getD_mem om)
    refine Cfg.setS 32 (congrArg (fun (xq : Value) => (xq : Value)) (show .slice la l.length cap = .slice (some ⟨sb,off,none⟩) l.length cap from by rw [hsb])) ?_
    refine Cfg.begL rfl ?_
    refine Lp 2 [dZ,(dS (.agg (acC a)))] (some [0,6,32,33,34,37]) (fun S => [(0 ≤ (k : Int) ∧ (k : Int) < (l.length : Int)),(∀ w1,S w1 → (loadVar 34 ⟨sb,(addO off (k * 4)),none⟩).run Tryz.prog w1 = .ok (.agg (acC a)) w1)]) ⟨om,(fun w1 h => load_list (vs := acL a) Tryz.underlying34 rfl kr (acL_len _) (fun j v hj => by rw [addO_eq]; exact (cell_cells (h.ro _ (List.mem_cons_of_mem _ hmem))).trans (fl_cell faz (fun x _ => acL_len x) hcs om (by rw [← hae]; exact hj)))),trivial⟩ ?_
    refine Le (Eff.alloc (z := (.agg (acC faz))) rfl kr) ?_
    rintro xb ⟨hxb,nxb⟩
    refine Le (Eff.storeN (b := xb) (off := 0) (vs := (acC a)) (n := 4) rfl kr kr kr rfl (acL_all _) 0 (cs := (acC faz)) (e := 34) kr (Nat.le_refl 4)) ?_
    rintro ⟨⟩ -
    refine CfgL.setO (congrArg (fun (xq : Array Value) => (([(xb,.cells xq 34 (0,0)),(z.fb,.cells #[.pointer (some ⟨z.jb,0,none⟩),.pointer (some ⟨z.tb,0,none⟩)] 91 (0,0)),(z.jb,.cells #[.int .i64 0,.pointer (some ⟨m.d,0,none⟩),.int .u64 (s.num : Int)] 143 (0,0))] ++ (dO s.D m y ++ (batO ⟨bb,db,tb2,nr2,rm2⟩ v T2 ++ (tabO z.tb z.nr z.rm s.T z.o z.x ++ [])))) : LO)) (show _ = (acC a) from (show spl (acC faz) 0 (acC a).toList = acC a from spl_all rfl))) ?_
    refine CfgL.done rfl ?_
    refine Cg (Γ' := [(8,[],pT xb),(34,[],.int .i64 (k : Int)),(33,[],.int .i64 (l.length : Int)),(32,[],.slice (some ⟨sb,off,none⟩) l.length cap),(6,[],pT bb),(0,[],.pointer (some ⟨z.fb,0,none⟩))]) ?_
    refine Cfg.begL rfl ?_
    refine Lp 2 [dZ,(dS (.agg (acC a)))] (some [0,6,32,33,34,38,39]) (fun S => [(∀ w1,S w1 → (loadVar 34 ⟨xb,0,none⟩).run Tryz.prog w1 = .ok (.agg (acC a)) w1)]) ⟨(fun w1 h => h.oload 0 rfl Tryz.underlying34 rfl (n := 4) kr rfl),trivial⟩ ?_
    refine Le (Eff.callH (vs := [pT bb,.agg (acC a)]) (fun _ : BV => .int .i64 ((actF T2 (dmF v.Dt) a).1)) (batO ⟨bb,db,tb2,nr2,rm2⟩ v T2) (fun v2 => batO ⟨bb,db,tb2,nr2,rm2⟩ v2 (actF T2 (dmF v.Dt) a).2.1) (fun v2 => BOk v2 (actF T2 (dmF v.Dt) a).2.1 ∧ dmF v2.Dt = (actF T2 (dmF v.Dt) a).2.2) ([(xb,.cells (acC a) 34 (0,0)),(z.fb,.cells #[.pointer (some ⟨z.jb,0,none⟩),.pointer (some ⟨z.tb,0,none⟩)] 91 (0,0)),(z.jb,.cells #[.int .i64 0,.pointer (some ⟨m.d,0,none⟩),.int .u64 (s.num : Int)] 143 (0,0))] ++ (dO s.D m y)) (tabO z.tb z.nr z.rm s.T z.o z.x ++ []) rfl rfl Tryz.func36 rfl rfl kr (fun w1 h hA1 hd1 => fAct ⟨bb,db,tb2,nr2,rm2⟩ v T2 a w1 hA1 hd1 hb hasz)) ?_
    rintro v2 ⟨hv2,hdm2⟩
    refine Lp 1 [] (some [0,6,9,32,33,34]) n0 trivial ?_
    refine CfgL.done rfl ?_
    refine Rg [0,6,9,32,33,34,42] [] n0 trivial ?_
    refine Cfg.cond rfl (b := (((actF T2 (dmF v.Dt) a).1) != (0 : Int))) kr (fun c4r => ?_) (fun c4r => ?_)
    ·have c4 := (bne_iff_ne.1 c4r)
     refine Rg [4] [] n0 trivial ?_
     refine Cfg.ret rfl (rs := [.tmp 4]) rfl [.int .i64 ((actF T2 (dmF v.Dt) a).1)] ⟨kr,trivial⟩ (fun w1 hp => ?_)
     have h8 : HP w ((gO z 0 s.num m s.T ++ dO s.D m y).map (·.1)) _ ([(z.fb,Obj.cells #[.pointer (some ⟨z.jb,0,none⟩),.pointer (some ⟨z.tb,0,none⟩)] 91 (0,0)),(z.jb,Obj.cells #[.int .i64 0,.pointer (some ⟨m.d,0,none⟩),.int .u64 (s.num : Int)] 143 (0,0))] ++ (dO s.D m y ++ (tabO z.tb z.nr z.rm s.T z.o z.x ++ []))) w1 := hp.sub (.cons _ (.cons_cons _ (.cons_cons _ (show List.Sublist (dO s.D m y ++ (tabO z.tb z.nr z.rm s.T z.o z.x ++ [])) (dO s.D m y ++ (batO ⟨bb,db,tb2,nr2,rm2⟩ v2 ((actF T2 (dmF v.Dt) a).2.1) ++ (tabO z.tb z.nr z.rm s.T z.o z.x ++ []))) from (List.Sublist.append (List.Sublist.refl (dO s.D m y)) (List.Sublist.trans (List.Sublist.append (List.Sublist.refl (tabO z.tb z.nr z.rm s.T z.o z.x)) (List.nil_sublist _)) (List.sublist_append_right (batO ⟨bb,db,tb2,nr2,rm2⟩ v2 ((actF T2 (dmF v.Dt) a).2.1)) _)))))))
     have h9 := h8.perm (go_perm z 0 s.num m s.T (dO s.D m y)).symm
     rw [do_act (s := s) om (hra.symm.trans (acts_stop om hae c4)) c4]
     exact ⟨(z,y),⟨rfl,hf,hmo,hw,by simp only; omega,by simp only; omega⟩,rfl,_,h9⟩
    ·have c4 := (bne_eq_false_iff_eq.1 c4r)
     refine Rg [0,6,32,33,34] [] (fun _ => [(i6 ((k : Int) + 1))]) ⟨om,trivial⟩ ?_
     refine Cfg.setS 32 (congrArg (fun (xq : Value) => (xq : Value)) (show .slice (some ⟨sb,off,none⟩) l.length cap = .slice la l.length cap from by rw [hsb])) ?_
     refine Cfg.again rfl (k + 1,v2,(actF T2 (dmF v.Dt) a).2.1) ⟨by omega,hv2,by rw [hdm2]; exact (acts_go om hae (fun e => e c4)).symm.trans hra⟩ (by show l.length - (k + 1) < l.length - k; omega) (Conv.mk kr) (.cons _ slr)
   ·have c3 := (dF c3r)
    refine Rg [0,6,10] [] n0 trivial ?_
    have hact : actsF l s.T [] = (0,T2,dmF v.Dt) := by rw [← hra,List.drop_eq_nil_of_le om]; rfl
    obtain ⟨W,hW⟩ : ∃ W,W = secF T2 (dmF v.Dt) := ⟨_,rfl⟩
    have hWw : WW W := by rw [hW]; exact secF_w hb.tb _
    have hWl : W.length ≤ 9240 := by rw [hW]; exact secF_le hb
    refine Cfg.begL rfl ?_
    refine Lp 1 [] none n0 trivial ?_
    refine Le (Eff.callH (vs := [pT bb]) (fun o : K.Own => .slice (Own.a o) W.length (Own.c o)) [] (fun o => Own.o 101 (jv W) o) (fun o => OwnOk o 513 W.length (jv W)) ([(z.fb,Obj.cells #[.pointer (some ⟨z.jb,0,none⟩),.pointer (some ⟨z.tb,0,none⟩)] 91 (0,0)),(z.jb,Obj.cells #[.int .i64 0,.pointer (some ⟨m.d,0,none⟩),.int .u64 (s.num : Int)] 143 (0,0))] ++ dO s.D m y) ((batO ⟨bb,db,tb2,nr2,rm2⟩ v T2 ++ (tabO z.tb z.nr z.rm s.T z.o z.x ++ []))) rfl rfl Tryz.func37 rfl rfl kr (fun w1 h _ _ => by have h9 := fSectors ⟨bb,db,tb2,nr2,rm2⟩ v T2 w1 (fun e he => h.own e (show _ ∈ (([(z.fb,Obj.cells #[.pointer (some ⟨z.jb,0,none⟩),.pointer (some ⟨z.tb,0,none⟩)] 91 (0,0)),(z.jb,Obj.cells #[.int .i64 0,.pointer (some ⟨m.d,0,none⟩),.int .u64 (s.num : Int)] 143 (0,0))] ++ (dO s.D m y ++ (batO ⟨bb,db,tb2,nr2,rm2⟩ v T2 ++ (tabO z.tb z.nr z.rm s.T z.o z.x ++ [])))) : LO) from (mR (mR (mL he))))) hb; rw [← hW] at h9; exact h9)) ?_
    rintro ws hws
    refine Lp 2 [] (some [0,6,10,46,47,48]) n0 trivial ?_
    refine CfgL.done rfl ?_
    refine Cfg.loop rfl (ι := Nat × K.Own) (fun (xz : Nat × K.Own) => match xz with | (q,un) => [(48,[],.int .i64 (q : Int)),(47,[],.int .i64 (W.length : Int)),(46,[],.slice (Own.a ws) W.length (Own.c ws)),(10,[],.slice (Own.a un) ((ulK s.D W q).length) (Own.c un)),(6,[],pT bb),(0,[],.pointer (some ⟨z.fb,0,none⟩))]) (fun (xz : Nat × K.Own) => match xz with | (q,un) => ([(z.fb,.cells #[.pointer (some ⟨z.jb,0,none⟩),.pointer (some ⟨z.tb,0,none⟩)] 91 (0,0)),(z.jb,.cells #[.int .i64 0,.pointer (some ⟨m.d,0,none⟩),.int .u64 (s.num : Int)] 143 (0,0))] ++ (dO s.D m y ++ (Own.o 101 (jv (ulK s.D W q)) un ++ (Own.o 101 (jv W) ws ++ (batO ⟨bb,db,tb2,nr2,rm2⟩ v T2 ++ (tabO z.tb z.nr z.rm s.T z.o z.x ++ []))))))) (fun (xz : Nat × K.Own) => match xz with | (q,un) => (q ≤ W.length) ∧ (OwnOk un 513 (ulK s.D W q).length (jv (ulK s.D W q)))) (fun (xz : Nat × K.Own) => match xz with | (q,un) => W.length - q) (0,none) ?_ (Conv.mk kr) slr ?_
    ·exact ⟨Nat.zero_le _,OwnOk.none _⟩
    ·rintro ⟨q,un⟩ ⟨hq,hun⟩
     refine Rg [0,6,10,46,47,48,49] [] n0 trivial ?_
     refine Cfg.cond rfl (b := (decide ((q : Int) < (W.length : Int)))) kr (fun c5r => ?_) (fun c5r => ?_)
     ·have c5 := (dT c5r)
      obtain ⟨sb,off,cs,te,fre,hsb,hmem,hcs⟩ := inW_own1 (e := 101) hws om
      obtain ⟨wq,hwq⟩ : ∃ x,x = W.getD q wz := ⟨_,rfl⟩
      have hql : wq.2.length = 512 := by rw [hwq]; exact hWw.at q
      have hule := ul_len s.D W q
      refine Cfg.setS 46 (congrArg (fun (xq : Value) => (xq : Value)) (show .slice (Own.a ws) W.length (Own.c ws) = .slice (some ⟨sb,off,none⟩) W.length (Own.c ws) from by rw [hsb])) ?_
      refine Cfg.begL rfl ?_
      refine Lp 2 [dZ,(dS (.agg (jc wq).toArray))] (some [0,6,10,46,47,48,51]) (fun S => [(0 ≤ (q : Int) ∧ (q : Int) < (W.length : Int)),(∀ w1,S w1 → (loadVar 101 ⟨sb,(addO off (q * 513)),none⟩).run Tryz.prog w1 = .ok (.agg (jc wq).toArray) w1)]) ⟨om,(fun w1 h => load_list Tryz.underlying101 rfl kr (jc_len hql) (fun j v9 hj => by rw [addO_eq]; exact (cell_cells (h.own _ (show _ ∈ (([(z.fb,Obj.cells #[.pointer (some ⟨z.jb,0,none⟩),.pointer (some ⟨z.tb,0,none⟩)] 91 (0,0)),(z.jb,Obj.cells #[.int .i64 0,.pointer (some ⟨m.d,0,none⟩),.int .u64 (s.num : Int)] 143 (0,0))] ++ (dO s.D m y ++ (Own.o 101 (jv (ulK s.D W q)) un ++ (Own.o 101 (jv W) ws ++ (batO ⟨bb,db,tb2,nr2,rm2⟩ v T2 ++ (tabO z.tb z.nr z.rm s.T z.o z.x ++ [])))))) : LO) from (mR (mR (mR (mL hmem))))))).trans (wr_cell hWw hcs om (by rw [← hwq]; exact hj)))),trivial⟩ ?_
      refine Le (Eff.alloc (z := (.agg (jc wz).toArray)) rfl kr) ?_
      rintro wb ⟨hwb,nwb⟩
      refine Le (Eff.storeN (b := wb) (off := 0) (vs := (jc wq).toArray) (n := 513) rfl kr kr kr (by rw [List.size_toArray,jc_len hql]) (jc_all _) 0 (cs := (jc wz).toArray) (e := 101) kr (by show 0 + 513 ≤ (jc wz).toArray.size; rw [List.size_toArray,jc_len zb_len]; decide)) ?_
      rintro ⟨⟩ -
      refine CfgL.setO (congrArg (fun (xq : Array Value) => (([(wb,.cells xq 101 (0,0)),(z.fb,.cells #[.pointer (some ⟨z.jb,0,none⟩),.pointer (some ⟨z.tb,0,none⟩)] 91 (0,0)),(z.jb,.cells #[.int .i64 0,.pointer (some ⟨m.d,0,none⟩),.int .u64 (s.num : Int)] 143 (0,0))] ++ (dO s.D m y ++ (Own.o 101 (jv (ulK s.D W q)) un ++ (Own.o 101 (jv W) ws ++ (batO ⟨bb,db,tb2,nr2,rm2⟩ v T2 ++ (tabO z.tb z.nr z.rm s.T z.o z.x ++ [])))))) : LO)) (show _ = ((jc wq).toArray) from spl_all (by rw [List.size_toArray,List.size_toArray,jc_len hql]; exact (jc_len zb_len).symm))) ?_
      refine CfgL.done rfl ?_
      refine Cg (Γ' := [(12,[],pT wb),(48,[],.int .i64 (q : Int)),(47,[],.int .i64 (W.length : Int)),(46,[],.slice (some ⟨sb,off,none⟩) W.length (Own.c ws)),(10,[],.slice (Own.a un) ((ulK s.D W q).length) (Own.c un)),(6,[],pT bb),(0,[],.pointer (some ⟨z.fb,0,none⟩))]) ?_
      refine Cfg.begA rfl kr ([(wb,.cells ((jc wq).toArray) 101 (0,0)),(z.fb,.cells #[.pointer (some ⟨z.jb,0,none⟩),.pointer (some ⟨z.tb,0,none⟩)] 91 (0,0)),(z.jb,.cells #[.int .i64 0,.pointer (some ⟨m.d,0,none⟩),.int .u64 (s.num : Int)] 143 (0,0))] ++ (dO s.D m y ++ (Own.o 101 (jv (ulK s.D W q)) un ++ (Own.o 101 (jv W) ws ++ (batO ⟨bb,db,tb2,nr2,rm2⟩ v T2 ++ (tabO z.tb z.nr z.rm s.T z.o z.x ++ [])))))) ?_
      refine CfgA.join (ι := Nat) (fun (hb2 : Nat) => ([(hb2,.cells (bv (readF s.D wq.1)) 37 (0,0)),(wb,.cells ((jc wq).toArray) 101 (0,0)),(z.fb,.cells #[.pointer (some ⟨z.jb,0,none⟩),.pointer (some ⟨z.tb,0,none⟩)] 91 (0,0)),(z.jb,.cells #[.int .i64 0,.pointer (some ⟨m.d,0,none⟩),.int .u64 (s.num : Int)] 143 (0,0))] ++ (dO s.D m y ++ (Own.o 101 (jv (ulK s.D W q)) un ++ (Own.o 101 (jv W) ws ++ (batO ⟨bb,db,tb2,nr2,rm2⟩ v T2 ++ (tabO z.tb z.nr z.rm s.T z.o z.x ++ []))))))) (fun (hb2 : Nat) => [(14,[],.int .i64 (fltF s.D wq.1)),(13,[],pT hb2),(12,[],pT wb),(48,[],.int .i64 (q : Int)),(47,[],.int .i64 (W.length : Int)),(46,[],.slice (some ⟨sb,off,none⟩) W.length (Own.c ws)),(10,[],.slice (Own.a un) ((ulK s.D W q).length) (Own.c un)),(6,[],pT bb),(0,[],.pointer (some ⟨z.fb,0,none⟩))]) ?_ ?_
      ·rintro hb2
       refine Rg [0,6,10,12,46,47,48,69] [dZ,dZ,dZ,(dS (.agg (bv (readF s.D wq.1)))),dZ,(dS (.agg (bv wq.2))),(dS (.bool ((readF s.D wq.1) == wq.2)))] (fun S => [((.bool ((fltF s.D wq.1) != (0 : Int)) : Value) = .bool false → (∀ w1,S w1 → (loadVar 37 ⟨hb2,0,none⟩).run Tryz.prog w1 = .ok (.agg (bv (readF s.D wq.1))) w1)),((.bool ((fltF s.D wq.1) != (0 : Int)) : Value) = .bool false → (∀ w1,S w1 → (loadVar 37 ⟨wb,1,none⟩).run Tryz.prog w1 = .ok (.agg (bv wq.2)) w1)),((.bool ((fltF s.D wq.1) != (0 : Int)) : Value) = .bool false → (∀ w1,S w1 → (Op.equal 37 (.agg (bv (readF s.D wq.1))) (.agg (bv wq.2))).run Tryz.prog w1 = .ok ((readF s.D wq.1) == wq.2) w1))]) ⟨(fun g0 => have q0 : ((fltF s.D wq.1) = (0 : Int)) := (bne_eq_false_iff_eq.1 (boolV g0)); (fun w1 h => h.oload 0 rfl Tryz.underlying37 rfl (n := 512) kr ((bv_size _).trans (readF_len hw.g _)))),(fun g0 => have q0 : ((fltF s.D wq.1) = (0 : Int)) := (bne_eq_false_iff_eq.1 (boolV g0)); (fun w1 h => load_bytes Tryz.underlying37 rfl kr hql (fun j hj => by rw [cell_cells (h.own (wb,Obj.cells (jc wq).toArray 101 (0,0)) (mL (mG 1 rfl))),List.getElem?_toArray]; exact jc_byte hql hj))),(fun g0 => have q0 : ((fltF s.D wq.1) = (0 : Int)) := (bne_eq_false_iff_eq.1 (boolV g0)); (fun _ _ => equal_bv Tryz.underlying37 Tryz.underlying5 kr (readF_len hw.g _) hql)),trivial⟩ ?_
       refine Cfg.cond rfl (b := (((fltF s.D wq.1) != (0 : Int)) || (!((readF s.D wq.1) == wq.2)))) kr (fun c6r => ?_) (fun c6r => ?_)
       ·have c6 : (((fltF s.D wq.1) ≠ (0 : Int)) ∨ (((readF s.D wq.1) == wq.2) = false)) := ((orT c6r).elim (fun h => Or.inl (bne_iff_ne.1 h)) (fun h => Or.inr (notT h)))
        refine Cfg.begL rfl ?_
        refine Lp 2 [dZ,(dS (.agg (jc wq).toArray))] (some [0,6,10,46,47,48,70,71]) (fun S => [(∀ w1,S w1 → (loadVar 101 ⟨wb,0,none⟩).run Tryz.prog w1 = .ok (.agg (jc wq).toArray) w1)]) ⟨(fun w1 h => load_list Tryz.underlying101 rfl kr (jc_len hql) (fun k v hv => by rw [Nat.zero_add]; exact h.ocell 1 rfl (by rw [List.getElem?_toArray]; exact hv))),trivial⟩ ?_
        refine Le (Eff.buildAgg (vs := (jc wq).toArray) (n := 513) rfl kr Tryz.underlying98 kr (z := (.agg (jc wz).toArray)) kr (by rw [List.size_toArray]; exact jc_len hql) (by decide) (by decide)) ?_
        rintro sb2 ⟨hsb2,nsb2⟩
        refine Le (Eff.appendF rfl 513 520 Tryz.underlying98 kr (z := (.agg (jc wz).toArray)) kr kr un (xs := (jv (ulK s.D W q))) hun kr (b2 := sb2) (off2 := 0) (m := 1) (c2 := 1) kr (jc wq) (jc_len hql) (jc_all _) ([(sb2,.cells ((jc wq).toArray) 101 (0,0)),(hb2,.cells (bv (readF s.D wq.1)) 37 (0,0)),(wb,.cells ((jc wq).toArray) 101 (0,0)),(z.fb,.cells #[.pointer (some ⟨z.jb,0,none⟩),.pointer (some ⟨z.tb,0,none⟩)] 91 (0,0)),(z.jb,.cells #[.int .i64 0,.pointer (some ⟨m.d,0,none⟩),.int .u64 (s.num : Int)] 143 (0,0))] ++ dO s.D m y) ([] ++ (Own.o 101 (jv W) ws ++ (batO ⟨bb,db,tb2,nr2,rm2⟩ v T2 ++ (tabO z.tb z.nr z.rm s.T z.o z.x ++ [])))) (by rfl) (fun w1 h j v hj => by rw [Nat.zero_add]; exact h.ocell 0 rfl (by rw [List.getElem?_toArray]; exact hj)) om om) ?_
        rintro o5 ko5
        refine Lp 1 [] (some [0,6,10,46,47,48]) n0 trivial ?_
        refine CfgL.done rfl ?_
        refine Rg [0,6,10,46,47,48] [] (fun _ => [(i6 ((q : Int) + 1))]) ⟨om,trivial⟩ ?_
        have hul := ul_yes om hwq c6r
        refine Cfg.setO (congrArg (fun (xq : List Value) => (([(sb2,.cells ((jc wq).toArray) 101 (0,0)),(hb2,.cells (bv (readF s.D wq.1)) 37 (0,0)),(wb,.cells ((jc wq).toArray) 101 (0,0)),(z.fb,.cells #[.pointer (some ⟨z.jb,0,none⟩),.pointer (some ⟨z.tb,0,none⟩)] 91 (0,0)),(z.jb,.cells #[.int .i64 0,.pointer (some ⟨m.d,0,none⟩),.int .u64 (s.num : Int)] 143 (0,0))] ++ (dO s.D m y ++ (Own.o 101 xq o5 ++ (Own.o 101 (jv W) ws ++ (batO ⟨bb,db,tb2,nr2,rm2⟩ v T2 ++ (tabO z.tb z.nr z.rm s.T z.o z.x ++ [])))))) : LO)) (show _ = (jv (ulK s.D W (q + 1))) from by rw [hul,jv_app,jv_one])) ?_
        refine Cfg.setS 46 (congrArg (fun (xq : Value) => (xq : Value)) (show .slice (some ⟨sb,off,none⟩) W.length (Own.c ws) = .slice (Own.a ws) W.length (Own.c ws) from by rw [hsb])) ?_
        refine Cfg.setS 10 (congrArg (fun (xq : Nat) => (.slice (Own.a o5) xq (Own.c o5) : Value)) (show (((ulK s.D W q).length + 1)) = ((ulK s.D W (q + 1)).length) from by rw [hul,List.length_append]; rfl)) ?_
        refine Cfg.again rfl (q + 1,o5) ⟨by omega,by rw [hul,List.length_append,jv_app,jv_one]; exact ko5⟩ (by show W.length - (q + 1) < W.length - q; omega) (Conv.mk kr) (.cons _ (.cons _ (.cons _ slr)))
       ·have c6 : (((fltF s.D wq.1) = (0 : Int)) ∧ (((readF s.D wq.1) == wq.2) = true)) := ⟨(bne_eq_false_iff_eq.1 (orF1 c6r)),(notF (orF2 c6r))⟩
        refine Rg [0,6,10,46,47,48] [] (fun _ => [(i6 ((q : Int) + 1))]) ⟨om,trivial⟩ ?_
        have hul := ul_no om hwq c6r
        refine Cfg.setO (congrArg (fun (xq : List Value) => (([(hb2,.cells (bv (readF s.D wq.1)) 37 (0,0)),(wb,.cells ((jc wq).toArray) 101 (0,0)),(z.fb,.cells #[.pointer (some ⟨z.jb,0,none⟩),.pointer (some ⟨z.tb,0,none⟩)] 91 (0,0)),(z.jb,.cells #[.int .i64 0,.pointer (some ⟨m.d,0,none⟩),.int .u64 (s.num : Int)] 143 (0,0))] ++ (dO s.D m y ++ (Own.o 101 xq un ++ (Own.o 101 (jv W) ws ++ (batO ⟨bb,db,tb2,nr2,rm2⟩ v T2 ++ (tabO z.tb z.nr z.rm s.T z.o z.x ++ [])))))) : LO)) (show _ = (jv (ulK s.D W (q + 1))) from by rw [hul])) ?_
        refine Cfg.setS 46 (congrArg (fun (xq : Value) => (xq : Value)) (show .slice (some ⟨sb,off,none⟩) W.length (Own.c ws) = .slice (Own.a ws) W.length (Own.c ws) from by rw [hsb])) ?_
        refine Cfg.setS 10 (congrArg (fun (xq : Nat) => (.slice (Own.a un) xq (Own.c un) : Value)) (show ((ulK s.D W q).length) = ((ulK s.D W (q + 1)).length) from by rw [hul])) ?_
        refine Cfg.again rfl (q + 1,un) ⟨by omega,by rw [hul]; exact hun⟩ (by show W.length - (q + 1) < W.length - q; omega) (Conv.mk kr) (.cons _ (.cons _ slr))
      ·intro hj
       refine CfgA.pure [0,1,2,3,4,5] [dZ,dZ,dZ,(dS (.pointer (some ⟨z.jb,0,none⟩))),dZ,(dS (.int .i64 wq.1))] (some [0,6,10,12,46,47,48,56,58]) (l' := tF 6 7) kr kr slr 7 rfl (Γ' := [(58,[],.int .i64 wq.1),(56,[],.pointer (some ⟨z.jb,0,none⟩)),(12,[],pT wb),(48,[],.int .i64 (q : Int)),(47,[],.int .i64 (W.length : Int)),(46,[],.slice (some ⟨sb,off,none⟩) W.length (Own.c ws)),(10,[],.slice (Own.a un) ((ulK s.D W q).length) (Own.c un)),(6,[],pT bb),(0,[],.pointer (some ⟨z.fb,0,none⟩))]) (nd := (fun S => [(∀ w1,S w1 → w1.cell? ⟨z.fb,0,none⟩ = some (.pointer (some ⟨z.jb,0,none⟩))),(cE S wb 0 (.int .i64 wq.1))])) (fun _ => kr) ⟨(oC 1 rfl rfl),(oC 0 rfl rfl),trivial⟩ ?_
       refine CfgA.two 6 10 kr (fuel' := 6) rfl ?_ ?_
       ·
        refine Ie rfl  (Eff.callA (vs := [.pointer (some ⟨z.jb,0,none⟩),.int .i64 wq.1]) (.tuple #[.agg (bv (readF s.D wq.1)),.int .i64 (fltF s.D wq.1)]) rfl Tryz.func33 rfl rfl kr (fun w1 h => by have h9 := jRead z.jb 0 s.num m y s.D wq.1 w1 hw.g hmo (fun e he => (List.mem_cons.1 he).elim (fun h1 => h1 ▸ (h.own (z.jb,Obj.cells #[.int .i64 0,.pointer (some ⟨m.d,0,none⟩),.int .u64 (s.num : Int)] 143 (0,0)) (show (z.jb,Obj.cells #[.int .i64 0,.pointer (some ⟨m.d,0,none⟩),.int .u64 (s.num : Int)] 143 (0,0)) ∈ ([(wb,Obj.cells ((jc wq).toArray) 101 (0,0)),(z.fb,Obj.cells #[.pointer (some ⟨z.jb,0,none⟩),.pointer (some ⟨z.tb,0,none⟩)] 91 (0,0)),(z.jb,Obj.cells #[.int .i64 0,.pointer (some ⟨m.d,0,none⟩),.int .u64 (s.num : Int)] 143 (0,0))] ++ (dO s.D m y ++ (Own.o 101 (jv (ulK s.D W q)) un ++ (Own.o 101 (jv W) ws ++ (batO ⟨bb,db,tb2,nr2,rm2⟩ v T2 ++ (tabO z.tb z.nr z.rm s.T z.o z.x ++ [])))))) from (mL (mG 2 rfl))))) (fun h1 => h.own e (show _ ∈ (([(wb,Obj.cells ((jc wq).toArray) 101 (0,0)),(z.fb,Obj.cells #[.pointer (some ⟨z.jb,0,none⟩),.pointer (some ⟨z.tb,0,none⟩)] 91 (0,0)),(z.jb,Obj.cells #[.int .i64 0,.pointer (some ⟨m.d,0,none⟩),.int .u64 (s.num : Int)] 143 (0,0))] ++ (dO s.D m y ++ (Own.o 101 (jv (ulK s.D W q)) un ++ (Own.o 101 (jv W) ws ++ (batO ⟨bb,db,tb2,nr2,rm2⟩ v T2 ++ (tabO z.tb z.nr z.rm s.T z.o z.x ++ [])))))) : LO) from (mR (mL h1))))); rw [if_neg (by decide),if_neg (by decide)] at h9; exact h9)) (fun _ _ => slr) ?_
        rintro ⟨⟩ -
        refine Ap [7,8,9] [] (some [0,6,10,12,46,47,48,60,61]) (tF 10 3) slr 3 n0 trivial ?_
        refine Ae 10 rfl 2  (Eff.alloc (z := (.agg (bv (List.replicate 512 0)))) rfl kr) (fun _ _ => (.cons _ slr)) ?_
        rintro hb2 ⟨hhb2,nhb2⟩
        refine Ae 11 rfl 1  (Eff.storeN (b := hb2) (off := 0) (vs := (bv (readF s.D wq.1))) (n := 512) rfl kr kr kr ((bv_size _).trans (readF_len hw.g _)) (all_bv _) 0 (cs := (bv (List.replicate 512 0))) (e := 37) kr (by rw [zsz512]; omega)) (fun _ _ => (.cons _ slr)) ?_
        rintro ⟨⟩ -
        refine CfgA.setO (congrArg (fun (xq : Array Value) => (([(hb2,.cells xq 37 (0,0)),(wb,.cells ((jc wq).toArray) 101 (0,0)),(z.fb,.cells #[.pointer (some ⟨z.jb,0,none⟩),.pointer (some ⟨z.tb,0,none⟩)] 91 (0,0)),(z.jb,.cells #[.int .i64 0,.pointer (some ⟨m.d,0,none⟩),.int .u64 (s.num : Int)] 143 (0,0))] ++ (dO s.D m y ++ (Own.o 101 (jv (ulK s.D W q)) un ++ (Own.o 101 (jv W) ws ++ (batO ⟨bb,db,tb2,nr2,rm2⟩ v T2 ++ (tabO z.tb z.nr z.rm s.T z.o z.x ++ [])))))) : LO)) (show _ = (bv (readF s.D wq.1)) from spl_all (((bv_size _).trans (readF_len hw.g _)).trans zsz512.symm))) ?_
        refine Ap [12] [] (some [0,6,10,12,13,14,46,47,48]) (tF 13 0) (.cons _ slr) 0 n0 trivial ?_
        refine CfgA.done kr ?_
        refine Cg (Γ' := [(14,[],.int .i64 (fltF s.D wq.1)),(13,[],pT hb2),(12,[],pT wb),(48,[],.int .i64 (q : Int)),(47,[],.int .i64 (W.length : Int)),(46,[],.slice (some ⟨sb,off,none⟩) W.length (Own.c ws)),(10,[],.slice (Own.a un) ((ulK s.D W q).length) (Own.c un)),(6,[],pT bb),(0,[],.pointer (some ⟨z.fb,0,none⟩))]) ?_
        exact hj hb2
       ·
        refine Ie rfl  (Eff.alloc (z := (.agg (bv (List.replicate 512 0)))) rfl kr) (fun _ _ => (.cons _ slr)) ?_
        rintro hb2 ⟨hhb2,nhb2⟩
        refine Ae 6 rfl 5  (Eff.callA (vs := [.pointer (some ⟨z.jb,0,none⟩),.int .i64 wq.1]) (.tuple #[.agg (bv (readF s.D wq.1)),.int .i64 (fltF s.D wq.1)]) rfl Tryz.func33 rfl rfl kr (fun w1 h => by have h9 := jRead z.jb 0 s.num m y s.D wq.1 w1 hw.g hmo (fun e he => (List.mem_cons.1 he).elim (fun h1 => h1 ▸ (h.own (z.jb,Obj.cells #[.int .i64 0,.pointer (some ⟨m.d,0,none⟩),.int .u64 (s.num : Int)] 143 (0,0)) (show (z.jb,Obj.cells #[.int .i64 0,.pointer (some ⟨m.d,0,none⟩),.int .u64 (s.num : Int)] 143 (0,0)) ∈ ([(hb2,Obj.cells (bv (List.replicate 512 0)) 37 (0,0)),(wb,Obj.cells ((jc wq).toArray) 101 (0,0)),(z.fb,Obj.cells #[.pointer (some ⟨z.jb,0,none⟩),.pointer (some ⟨z.tb,0,none⟩)] 91 (0,0)),(z.jb,Obj.cells #[.int .i64 0,.pointer (some ⟨m.d,0,none⟩),.int .u64 (s.num : Int)] 143 (0,0))] ++ (dO s.D m y ++ (Own.o 101 (jv (ulK s.D W q)) un ++ (Own.o 101 (jv W) ws ++ (batO ⟨bb,db,tb2,nr2,rm2⟩ v T2 ++ (tabO z.tb z.nr z.rm s.T z.o z.x ++ [])))))) from (mL (mG 3 rfl))))) (fun h1 => h.own e (show _ ∈ (([(hb2,Obj.cells (bv (List.replicate 512 0)) 37 (0,0)),(wb,Obj.cells ((jc wq).toArray) 101 (0,0)),(z.fb,Obj.cells #[.pointer (some ⟨z.jb,0,none⟩),.pointer (some ⟨z.tb,0,none⟩)] 91 (0,0)),(z.jb,Obj.cells #[.int .i64 0,.pointer (some ⟨m.d,0,none⟩),.int .u64 (s.num : Int)] 143 (0,0))] ++ (dO s.D m y ++ (Own.o 101 (jv (ulK s.D W q)) un ++ (Own.o 101 (jv W) ws ++ (batO ⟨bb,db,tb2,nr2,rm2⟩ v T2 ++ (tabO z.tb z.nr z.rm s.T z.o z.x ++ [])))))) : LO) from (mR (mL h1))))); rw [if_neg (by decide),if_neg (by decide)] at h9; exact h9)) (fun _ _ => (.cons _ slr)) ?_
        rintro ⟨⟩ -
        refine Ap [7,8,9] [] (some [0,6,10,12,13,46,47,48,60,61]) (tF 11 2) (.cons _ slr) 2 n0 trivial ?_
        refine Ae 11 rfl 1  (Eff.storeN (b := hb2) (off := 0) (vs := (bv (readF s.D wq.1))) (n := 512) rfl kr kr kr ((bv_size _).trans (readF_len hw.g _)) (all_bv _) 0 (cs := (bv (List.replicate 512 0))) (e := 37) kr (by rw [zsz512]; omega)) (fun _ _ => (.cons _ slr)) ?_
        rintro ⟨⟩ -
        refine CfgA.setO (congrArg (fun (xq : Array Value) => (([(hb2,.cells xq 37 (0,0)),(wb,.cells ((jc wq).toArray) 101 (0,0)),(z.fb,.cells #[.pointer (some ⟨z.jb,0,none⟩),.pointer (some ⟨z.tb,0,none⟩)] 91 (0,0)),(z.jb,.cells #[.int .i64 0,.pointer (some ⟨m.d,0,none⟩),.int .u64 (s.num : Int)] 143 (0,0))] ++ (dO s.D m y ++ (Own.o 101 (jv (ulK s.D W q)) un ++ (Own.o 101 (jv W) ws ++ (batO ⟨bb,db,tb2,nr2,rm2⟩ v T2 ++ (tabO z.tb z.nr z.rm s.T z.o z.x ++ [])))))) : LO)) (show _ = (bv (readF s.D wq.1)) from spl_all (((bv_size _).trans (readF_len hw.g _)).trans zsz512.symm))) ?_
        refine Ap [12] [] (some [0,6,10,12,13,14,46,47,48]) (tF 13 0) (.cons _ slr) 0 n0 trivial ?_
        refine CfgA.done kr ?_
        refine Cg (Γ' := [(14,[],.int .i64 (fltF s.D wq.1)),(13,[],pT hb2),(12,[],pT wb),(48,[],.int .i64 (q : Int)),(47,[],.int .i64 (W.length : Int)),(46,[],.slice (some ⟨sb,off,none⟩) W.length (Own.c ws)),(10,[],.slice (Own.a un) ((ulK s.D W q).length) (Own.c un)),(6,[],pT bb),(0,[],.pointer (some ⟨z.fb,0,none⟩))]) ?_
        exact hj hb2
     ·have c5 := (dF c5r)
      obtain ⟨U,hU⟩ : ∃ U,U = ulF s.D W := ⟨_,rfl⟩
      have hUq : (ulK s.D W q) = U := by rw [hU]; exact ul_all om
      have hUw : WW U := by rw [hU]; exact ulF_w hWw
      rw [hUq] at hun
      have hUl : U.length ≤ 100000 := by rw [← hUq]; have := ul_len s.D W q; omega
      obtain ⟨C,hC⟩ : ∃ C,C = commitF ⟨0,s.num,s.D⟩ U := ⟨_,rfl⟩
      have hCw : C.2.why = 0 := by rw [hC]; exact (hw.commit rfl hUw).1
      have hCd : Wl C.2.D := by rw [hC]; exact (hw.commit rfl hUw).2
      have hCs : s.D.steps ≤ C.2.D.steps ∧ C.2.D.steps ≤ s.D.steps + 20000 := by
       have h8 := commit_steps ⟨0,s.num,s.D⟩ U
       rw [← hC] at h8
       have h7 := ul_len s.D W q
       rw [hUq] at h7
       simp only at h8
       omega
      have hCc : C = comF s T2 (dmF v.Dt) := by rw [hC,hU,hW]; rfl
      refine Cfg.setS 10 (congrArg (fun (xq : Nat) => (.slice (Own.a un) xq (Own.c un) : Value)) (show ((ulK s.D W q).length) = U.length from by rw [hUq])) ?_
      refine Cfg.setO (congrArg (fun (xq : List Value) => (([(z.fb,.cells #[.pointer (some ⟨z.jb,0,none⟩),.pointer (some ⟨z.tb,0,none⟩)] 91 (0,0)),(z.jb,.cells #[.int .i64 0,.pointer (some ⟨m.d,0,none⟩),.int .u64 (s.num : Int)] 143 (0,0))] ++ (dO s.D m y ++ (Own.o 101 xq un ++ (Own.o 101 (jv W) ws ++ (batO ⟨bb,db,tb2,nr2,rm2⟩ v T2 ++ (tabO z.tb z.nr z.rm s.T z.o z.x ++ [])))))) : LO)) (show _ = (jv U) from by rw [hUq])) ?_
      refine Cfg.begL rfl ?_
      refine Lp 5 [dZ,dZ,dZ,(dS (.pointer (some ⟨z.jb,0,none⟩)))] (some [0,6,78,79]) (fun S => [(∀ w1,S w1 → w1.cell? ⟨z.fb,0,none⟩ = some (.pointer (some ⟨z.jb,0,none⟩)))]) ⟨(oC 0 rfl rfl),trivial⟩ ?_
      refine Le (Eff.callH (vs := [.pointer (some ⟨z.jb,0,none⟩),.slice (Own.a un) U.length (Own.c un)]) (fun _ : MX => .int .i64 C.1) ((z.jb,Obj.cells #[.int .i64 0,.pointer (some ⟨m.d,0,none⟩),.int .u64 (s.num : Int)] 143 (0,0)) :: dO s.D m y) (fun x2 => (z.jb,Obj.cells #[.int .i64 0,.pointer (some ⟨m.d,0,none⟩),.int .u64 (C.2.num : Int)] 143 (0,0)) :: dO C.2.D m x2) (fun x2 => MapOk x2.1 x2.2 (wv2 C.2.D.wait)) [(z.fb,Obj.cells #[.pointer (some ⟨z.jb,0,none⟩),.pointer (some ⟨z.tb,0,none⟩)] 91 (0,0))] ((Own.o 101 (jv U) un ++ (Own.o 101 (jv W) ws ++ (batO ⟨bb,db,tb2,nr2,rm2⟩ v T2 ++ (tabO z.tb z.nr z.rm s.T z.o z.x ++ []))))) rfl rfl Tryz.func38 rfl rfl kr (fun w1 h hA1 hd1 => by have h9 := jCommit z.jb 0 s.num m y s.D (Own.a un) (Own.c un) U (Own.o 101 (jv U) un) t0 fr0 w1 hw.g hmo hA1 hd1 (inW_own1 hun) hUw hUl hs (com_side (L := [(z.fb,Obj.cells #[.pointer (some ⟨z.jb,0,none⟩),.pointer (some ⟨z.tb,0,none⟩)] 91 (0,0))]) (A := (z.jb,Obj.cells #[.int .i64 0,.pointer (some ⟨m.d,0,none⟩),.int .u64 (s.num : Int)] 143 (0,0)) :: dO s.D m y) (U := (Own.o 101 (jv U) un)) (T := (Own.o 101 (jv W) ws ++ (batO ⟨bb,db,tb2,nr2,rm2⟩ v T2 ++ (tabO z.tb z.nr z.rm s.T z.o z.x ++ [])))) h mH).1 (com_side (L := [(z.fb,Obj.cells #[.pointer (some ⟨z.jb,0,none⟩),.pointer (some ⟨z.tb,0,none⟩)] 91 (0,0))]) (A := (z.jb,Obj.cells #[.int .i64 0,.pointer (some ⟨m.d,0,none⟩),.int .u64 (s.num : Int)] 143 (0,0)) :: dO s.D m y) (U := (Own.o 101 (jv U) un)) (T := (Own.o 101 (jv W) ws ++ (batO ⟨bb,db,tb2,nr2,rm2⟩ v T2 ++ (tabO z.tb z.nr z.rm s.T z.o z.x ++ [])))) h mH).2; rw [← hC,hCw] at h9; exact h9)) ?_
      rintro y2 hy2
      refine Lp 1 [] (some [0,6,15]) n0 trivial ?_
      refine CfgL.done rfl ?_
      refine Rg [0,6,15,82] [] n0 trivial ?_
      refine Cfg.cond rfl (b := (C.1 != (0 : Int))) kr (fun c7r => ?_) (fun c7r => ?_)
      ·have c7 := (bne_iff_ne.1 c7r)
       refine Rg [4] [] n0 trivial ?_
       refine Cfg.ret rfl (rs := [.tmp 4]) rfl [.int .i64 C.1] ⟨kr,trivial⟩ (fun w1 hp => ?_)
       have h8 : HP w ((gO z 0 s.num m s.T ++ dO s.D m y).map (·.1)) _ ([(z.fb,Obj.cells #[.pointer (some ⟨z.jb,0,none⟩),.pointer (some ⟨z.tb,0,none⟩)] 91 (0,0)),(z.jb,Obj.cells #[.int .i64 0,.pointer (some ⟨m.d,0,none⟩),.int .u64 (C.2.num : Int)] 143 (0,0))] ++ (dO C.2.D m y2 ++ (tabO z.tb z.nr z.rm s.T z.o z.x ++ []))) w1 := hp.sub (.cons_cons _ (.cons_cons _ (show List.Sublist (dO C.2.D m y2 ++ (tabO z.tb z.nr z.rm s.T z.o z.x ++ [])) (dO C.2.D m y2 ++ (Own.o 101 (jv U) un ++ (Own.o 101 (jv W) ws ++ (batO ⟨bb,db,tb2,nr2,rm2⟩ v T2 ++ (tabO z.tb z.nr z.rm s.T z.o z.x ++ []))))) from (List.Sublist.append (List.Sublist.refl (dO C.2.D m y2)) (List.Sublist.trans (List.Sublist.trans (List.Sublist.trans (List.Sublist.append (List.Sublist.refl (tabO z.tb z.nr z.rm s.T z.o z.x)) (List.nil_sublist _)) (List.sublist_append_right (batO ⟨bb,db,tb2,nr2,rm2⟩ v T2) _)) (List.sublist_append_right (Own.o 101 (jv W) ws) _)) (List.sublist_append_right (Own.o 101 (jv U) un) _))))))
       have h9 := h8.perm (go_perm z 0 C.2.num m s.T (dO C.2.D m y2)).symm
       rw [do_com (s := s) om hact hCc c7]
       exact ⟨(z,y2),⟨rfl,hf,hy2,hCd,hCs⟩,rfl,_,h9⟩
      ·have c7 := (bne_eq_false_iff_eq.1 c7r)
       refine Cfg.begL rfl ?_
       refine Lp 7 [dZ,dZ,dZ,dZ,(dS (pT tb2))] (some [88,90]) (fun S => [(cE S bb 0 (pT tb2))]) ⟨(fun w1 h => (cell_cells (h.own (bb,Obj.cells #[pT tb2,.map (some db)] 96 (0,0)) (show _ ∈ (([(z.fb,Obj.cells #[.pointer (some ⟨z.jb,0,none⟩),.pointer (some ⟨z.tb,0,none⟩)] 91 (0,0)),(z.jb,Obj.cells #[.int .i64 0,.pointer (some ⟨m.d,0,none⟩),.int .u64 (C.2.num : Int)] 143 (0,0))] ++ (dO C.2.D m y2 ++ (Own.o 101 (jv U) un ++ (Own.o 101 (jv W) ws ++ (batO ⟨bb,db,tb2,nr2,rm2⟩ v T2 ++ (tabO z.tb z.nr z.rm s.T z.o z.x ++ [])))))) : LO) from (mR (mR (mR (mR (mL mH)))))))).trans rfl),trivial⟩ ?_
       refine Le (Eff.store1 (b := z.fb) (off := 1) (v := pT tb2) rfl kr kr rfl kr 0 (cs := #[.pointer (some ⟨z.jb,0,none⟩),.pointer (some ⟨z.tb,0,none⟩)]) (e := 91) kr (by show 1 < 2; decide)) ?_
       rintro ⟨⟩ -
       refine CfgL.done rfl ?_
       refine Cg (Γ' := []) ?_
       refine Rg [4] [] n0 trivial ?_
       refine Cfg.ret rfl (rs := [.tmp 4]) rfl [.int .i64 0] ⟨kr,trivial⟩ (fun w1 hp => ?_)
       have h8 : HP w ((gO z 0 s.num m s.T ++ dO s.D m y).map (·.1)) _ ([(z.fb,Obj.cells #[.pointer (some ⟨z.jb,0,none⟩),pT tb2] 91 (0,0)),(z.jb,Obj.cells #[.int .i64 0,.pointer (some ⟨m.d,0,none⟩),.int .u64 (C.2.num : Int)] 143 (0,0))] ++ (dO C.2.D m y2 ++ (tabO tb2 nr2 rm2 T2 v.o v.x ++ []))) w1 := hp.sub (List.Sublist.cons_cons _ (List.Sublist.cons_cons _ (show List.Sublist (dO C.2.D m y2 ++ (tabO tb2 nr2 rm2 T2 v.o v.x ++ [])) (dO C.2.D m y2 ++ (Own.o 101 (jv U) un ++ (Own.o 101 (jv W) ws ++ (batO ⟨bb,db,tb2,nr2,rm2⟩ v T2 ++ (tabO z.tb z.nr z.rm s.T z.o z.x ++ []))))) from (List.Sublist.append (List.Sublist.refl (dO C.2.D m y2)) (List.Sublist.trans (List.Sublist.append (bat_tab ⟨bb,db,tb2,nr2,rm2⟩ v T2) (List.nil_sublist (tabO z.tb z.nr z.rm s.T z.o z.x ++ []))) (List.Sublist.trans (List.sublist_append_right (Own.o 101 (jv W) ws) _) (List.sublist_append_right (Own.o 101 (jv U) un) _)))))))
       have h9 := h8.perm (go_perm ⟨z.fb,z.jb,tb2,nr2,rm2,v.o,v.x⟩ 0 C.2.num m T2 (dO C.2.D m y2)).symm
       rw [do_ok (s := s) om hact hCc (by simpa using c7)]
       exact ⟨(⟨z.fb,z.jb,tb2,nr2,rm2,v.o,v.x⟩,y2),⟨rfl,⟨hb.tb,hb.w,hb.g,hb.sm⟩,hy2,hCd,hCs⟩,rfl,_,h9⟩
end Go.Proofs.YtfgdepggdiibdaaGreatDoor
namespace Go.Proofs.YtfgdepggdiibdaaGreatDoor
open K
set_option linter.unusedVariables false
def lOk (n : Nat) (a : FA) : Bool := decide (n ≤ 12) && (decide (a.nm.size ≤ 200) && (decide (a.t2.size ≤ 200) && decide (a.da.size ≤ 6000)))
def lightF (l : List FA) : Bool := l.all (lOk l.length)
theorem light_no {l : List FA} {i : Nat} {a : FA} (hi : i < l.length) (ha : a = l.getD i faz) (h : lOk l.length a = false) : lightF l = false := by
 unfold lightF
 rw [List.all_eq_false]
 refine ⟨a,by rw [ha]; exact K.getD_mem hi,by rw [h]; decide⟩
theorem light_yes {l : List FA} (h : ∀ j,j < l.length → lOk l.length (l.getD j faz) = true) : lightF l = true := by
 unfold lightF
 rw [List.all_eq_true]
 intro x hx
 obtain ⟨i,hi,rfl⟩ := List.mem_iff_getElem.1 hx
 have := h i hi
 rwa [List.getD_eq_getElem?_getD,List.getElem?_eq_getElem hi] at this
theorem light_at {l : List FA} (h : lightF l = true) : ∀ a ∈ l,l.length ≤ 12 ∧ FaOk a := fun a ha => by
 unfold lightF at h
 have h2 := List.all_eq_true.1 h a ha
 unfold lOk at h2
 simp only [Bool.and_eq_true,decide_eq_true_eq] at h2
 exact ⟨h2.1,h2.2.1,h2.2.2.1,h2.2.2.2⟩
theorem light_len {l : List FA} (h : lightF l = true) : l.length ≤ 12 := by
 cases l with
 | nil => exact Nat.zero_le _
 | cons a l => exact (light_at h a mH).1
set_option maxRecDepth 100000 in
set_option maxHeartbeats 1000000 in
theorem fLight (la : Option Addr) (cap : Nat) (l : List FA) (Rl : List (Nat × Obj)) (w : World) (hI : InF acL 4 Rl la l) (hll : l.length ≤ maxLen) (hR : Has w Rl) :
  Calls Tryz.prog 6 #[.slice la l.length cap] w fun e w' => e = .returned (.bool (lightF l)) ∧ Ext [] w w' := by
 have hl2 : l.length ≤ 9223372036854775807 := hll
 refine enter (vs := [.slice la l.length cap]) [] Rl [] Tryz.func6 rfl kr (HP.ofHas hR) ?_
 refine Rg [0] [] n0 trivial ?_
 refine Rg [0,5,6,7] [] n0 trivial ?_
 refine Cfg.loop rfl (ι := Nat) (fun (i : Nat) => [(7,[],.int .i64 (i : Int)),(6,[],.int .i64 (l.length : Int)),(5,[],.slice la l.length cap),(0,[],.slice la l.length cap)]) (fun (i : Nat) => []) (fun (i : Nat) => (i ≤ l.length) ∧ (∀ j,j < i → lOk l.length (l.getD j faz) = true)) (fun (i : Nat) => l.length - i) 0 ?_ (Conv.mk kr) .slnil ?_
 ·exact ⟨Nat.zero_le _,fun j h => absurd h (Nat.not_lt_zero j)⟩
 ·rintro i ⟨hi,hal⟩
  refine Rg [0,5,6,7,8] [] n0 trivial ?_
  refine Cfg.cond rfl (b := (decide ((i : Int) < (l.length : Int)))) kr (fun c1r => ?_) (fun c1r => ?_)
  ·have c1 := (dT c1r)
   obtain ⟨sb,off,cs,te,fre,hsb,hmem,hcs⟩ := hI om
   obtain ⟨a,hae⟩ : ∃ a,a = l.getD i faz := ⟨_,rfl⟩
   refine Cfg.setS 5 (congrArg (fun (xq : Value) => (xq : Value)) (show .slice la l.length cap = .slice (some ⟨sb,off,none⟩) l.length cap from by rw [hsb])) ?_
   refine Cfg.begL rfl ?_
   refine Lp 2 [dZ,(dS (.agg (acC a)))] (some [0,5,6,7,10]) (fun S => [(0 ≤ (i : Int) ∧ (i : Int) < (l.length : Int)),(∀ w1,S w1 → (loadVar 34 ⟨sb,(addO off (i * 4)),none⟩).run Tryz.prog w1 = .ok (.agg (acC a)) w1)]) ⟨om,(fun w1 h => load_list (vs := acL a) Tryz.underlying34 rfl kr (acL_len _) (fun j v hj => by rw [addO_eq]; exact (cell_cells (h.ro _ hmem)).trans (fl_cell faz (fun x _ => acL_len x) hcs om (by rw [← hae]; exact hj)))),trivial⟩ ?_
   refine Le (Eff.alloc (z := (.agg (acC faz))) rfl kr) ?_
   rintro xb ⟨hxb,nxb⟩
   refine Le (Eff.storeN (b := xb) (off := 0) (vs := (acC a)) (n := 4) rfl kr kr kr rfl (acL_all _) 0 (cs := (acC faz)) (e := 34) kr (Nat.le_refl 4)) ?_
   rintro ⟨⟩ -
   refine CfgL.setO (congrArg (fun (xq : Array Value) => ([(xb,.cells xq 34 (0,0))] : LO)) (show _ = (acC a) from (show spl (acC faz) 0 (acC a).toList = acC a from spl_all rfl))) ?_
   refine CfgL.done rfl ?_
   refine Cg (Γ' := [(4,[],pT xb),(7,[],.int .i64 (i : Int)),(6,[],.int .i64 (l.length : Int)),(5,[],.slice (some ⟨sb,off,none⟩) l.length cap),(0,[],.slice la l.length cap)]) ?_
   refine Cfg.begL rfl ?_
   refine Lp 4 [] (some [0,4,5,6,7,14]) n0 trivial ?_
   by_cases c2 : (decide ((l.length : Int) > (12 : Int))) = true
   ·have c2k : (decide ((l.length : Int) > (12 : Int))) = true := c2
    have c2q := (dT c2k)
    refine CfgL.known 14 (b := (decide ((l.length : Int) > (12 : Int)))) kr true c2k ?_
    refine Lp 15 [(2,false,none),(2,false,none),(2,false,none),(2,false,none),(2,false,none),(2,false,none),(2,false,none),(2,false,none),dZ,dZ,(2,false,none),(2,false,none),(2,false,none),(2,false,none)] (some [0,5,6,7,29]) (fun _ => [((.bool true : Value) ≠ .bool false),((.bool true : Value) ≠ .bool false),((.bool true : Value) ≠ .bool false),((.bool true : Value) ≠ .bool false),((.bool true : Value) ≠ .bool false),((.bool true : Value) ≠ .bool false),((.bool true : Value) ≠ .bool false),((.bool true : Value) ≠ .bool false),((.bool true : Value) ≠ .bool false),((.bool true : Value) ≠ .bool false),((.bool true : Value) ≠ .bool false),((.bool true : Value) ≠ .bool false)]) ⟨(by simp),(by simp),(by simp),(by simp),(by simp),(by simp),(by simp),(by simp),(by simp),(by simp),(by simp),(by simp),trivial⟩ ?_
    refine CfgL.done rfl ?_
    refine Cfg.condT rfl (b := true) kr rfl ?_
    refine Rg [2] [] n0 trivial ?_
    refine Cfg.ret rfl (rs := [.tmp 2]) rfl [.bool false] ⟨kr,trivial⟩ (fun w1 hp => ?_)
    have h1 := c2q
    have hno : lOk l.length a = false := by
     unfold lOk
     rw [Bool.eq_false_iff]
     simp only [ne_eq,Bool.and_eq_true,decide_eq_true_eq]
     intro h9
     omega
    exact ⟨by rw [light_no om hae hno]; rfl,hp.ext⟩
   ·have c2k : (decide ((l.length : Int) > (12 : Int))) = false := (by simpa using c2)
    have c2q := (dF c2k)
    refine CfgL.known 14 (b := (decide ((l.length : Int) > (12 : Int)))) kr false c2k ?_
    refine Lp 6 [(1,false,none),(1,false,some (.string a.nm)),(1,false,none),(1,false,none),(1,false,some (.string a.t2)),(1,false,none)] (some [0,4,5,6,7,14,17,20]) (fun S => [((.bool false : Value) = .bool false),((.bool false : Value) = .bool false),(cE S xb 1 (.string a.nm)),((.bool false : Value) = .bool false),((.bool false : Value) = .bool false),((.bool false : Value) = .bool false),(cE S xb 2 (.string a.t2)),((.bool false : Value) = .bool false)]) ⟨rfl,rfl,(oC 0 rfl rfl),rfl,rfl,rfl,(oC 0 rfl rfl),rfl,trivial⟩ ?_
    refine Le (Eff.maxI (k := .i64) (a := (a.nm.size : Int)) (b := (a.t2.size : Int)) rfl kr kr) ?_
    rintro ⟨⟩ -
    refine Lp 8 [(1,false,none),dZ,dZ,dZ,(dS (.string a.da))] (some [0,5,6,7,29]) (fun S => [((.bool false : Value) = .bool false),((.bool (decide ((if (a.t2.size : Int) > (a.nm.size : Int) then (a.t2.size : Int) else (a.nm.size : Int)) > (200 : Int))) : Value) = .bool false → (cE S xb 3 (.string a.da)))]) ⟨rfl,(fun g0 => have q0 : (¬ ((if (a.t2.size : Int) > (a.nm.size : Int) then (a.t2.size : Int) else (a.nm.size : Int)) > (200 : Int))) := (dF (boolV g0)); (oC 0 rfl rfl)),trivial⟩ ?_
    refine CfgL.done rfl ?_
    refine Cfg.cond rfl (b := ((decide ((if (a.t2.size : Int) > (a.nm.size : Int) then (a.t2.size : Int) else (a.nm.size : Int)) > (200 : Int))) || (decide ((a.da.size : Int) > (6000 : Int))))) kr (fun c4r => ?_) (fun c4r => ?_)
    ·have c4 : (((if (a.t2.size : Int) > (a.nm.size : Int) then (a.t2.size : Int) else (a.nm.size : Int)) > (200 : Int)) ∨ ((a.da.size : Int) > (6000 : Int))) := ((orT c4r).elim (fun h => Or.inl (dT h)) (fun h => Or.inr (dT h)))
     refine Rg [2] [] n0 trivial ?_
     refine Cfg.ret rfl (rs := [.tmp 2]) rfl [.bool false] ⟨kr,trivial⟩ (fun w1 hp => ?_)
     have h1 := c2q
     have h2 := c4
     have hno : lOk l.length a = false := by
      unfold lOk
      rw [Bool.eq_false_iff]
      simp only [ne_eq,Bool.and_eq_true,decide_eq_true_eq]
      intro h9
      split at h2 <;> omega
     exact ⟨by rw [light_no om hae hno]; rfl,hp.ext⟩
    ·have c4 : ((¬ ((if (a.t2.size : Int) > (a.nm.size : Int) then (a.t2.size : Int) else (a.nm.size : Int)) > (200 : Int))) ∧ (¬ ((a.da.size : Int) > (6000 : Int)))) := ⟨(dF (orF1 c4r)),(dF (orF2 c4r))⟩
     refine Rg [0,5,6,7] [] (fun _ => [(i6 ((i : Int) + 1))]) ⟨om,trivial⟩ ?_
     have hok : lOk l.length a = true := by
      unfold lOk
      simp only [Bool.and_eq_true,decide_eq_true_eq]
      have h1 := c2q
      have h2 := c4
      split at h2 <;> omega
     refine Cfg.setS 5 (congrArg (fun (xq : Value) => (xq : Value)) (show .slice (some ⟨sb,off,none⟩) l.length cap = .slice la l.length cap from by rw [hsb])) ?_
     refine Cfg.again rfl (i + 1) ⟨by omega,fun j hj => by rcases Nat.lt_or_ge j i with h | h; exact hal j h; rw [show j = i by omega,← hae]; exact hok⟩ (by show l.length - (i + 1) < l.length - i; omega) (Conv.mk kr) (.cons _ .slnil)
  ·have c1 := (dF c1r)
   refine Rg [2] [] n0 trivial ?_
   refine Cfg.ret rfl (rs := [.tmp 2]) rfl [.bool true] ⟨kr,trivial⟩ (fun w1 hp => ?_)
   have hle : i = l.length := by omega
   subst hle
   exact ⟨by rw [light_yes hal]; rfl,hp.ext⟩
set_option maxRecDepth 100000 in
theorem fMkPut (s t : ByteArray) (w : World) :
  Calls Tryz.prog 28 #[.string s,.string t] w fun e w' => e = .returned (.agg (acC ⟨1,s,ByteArray.empty,t⟩)) ∧ Ext [] w w' := by
 refine enter (vs := [.string s,.string t]) [] [] [] Tryz.func28 rfl kr (HP.start w) ?_
 refine Cfg.begL rfl ?_
 refine Le (Eff.alloc (z := (.agg (acC faz))) rfl kr) ?_
 rintro ab ⟨hab,nab⟩
 refine CfgL.done rfl ?_
 refine Cfg.begL rfl ?_
 refine Lp 3 [dZ,dZ,(dS (.agg (acC ⟨1,s,ByteArray.empty,t⟩)))] (some [4,7]) (fun S => [(∀ w1,S w1 → (Instr.build 34 #[(0,.int .i64 1),(1,.string s),(3,.string t)]).run Tryz.prog w1 = .ok (.agg (acC ⟨1,s,ByteArray.empty,t⟩)) w1)]) ⟨(fun _ _ => kr),trivial⟩ ?_
 refine Le (Eff.storeN (b := ab) (off := 0) (vs := (acC ⟨1,s,ByteArray.empty,t⟩)) (n := 4) rfl kr kr kr rfl (acL_all _) 0 (cs := (acC faz)) (e := 34) kr (Nat.le_refl 4)) ?_
 rintro ⟨⟩ -
 refine CfgL.setO (congrArg (fun (xq : Array Value) => ([(ab,.cells xq 34 (0,0))] : LO)) (show _ = (acC ⟨1,s,ByteArray.empty,t⟩) from (show spl (acC faz) 0 (acC ⟨1,s,ByteArray.empty,t⟩).toList = acC ⟨1,s,ByteArray.empty,t⟩ from spl_all rfl))) ?_
 refine CfgL.done rfl ?_
 refine Cg (Γ' := [(4,[],pT ab)]) ?_
 refine Cfg.ret rfl (rs := [.cell 4 34]) rfl [.agg (acC ⟨1,s,ByteArray.empty,t⟩)] ⟨⟨_,by kernel_rfl,(fun w1 h => h.oload 0 rfl Tryz.underlying34 rfl (n := 4) kr rfl)⟩,trivial⟩ (fun w1 hp => ?_)
 exact ⟨rfl,hp.ext⟩
set_option maxRecDepth 100000 in
theorem fMkRen (s t : ByteArray) (w : World) :
  Calls Tryz.prog 29 #[.string s,.string t] w fun e w' => e = .returned (.agg (acC ⟨3,s,t,ByteArray.empty⟩)) ∧ Ext [] w w' := by
 refine enter (vs := [.string s,.string t]) [] [] [] Tryz.func29 rfl kr (HP.start w) ?_
 refine Cfg.begL rfl ?_
 refine Le (Eff.alloc (z := (.agg (acC faz))) rfl kr) ?_
 rintro ab ⟨hab,nab⟩
 refine CfgL.done rfl ?_
 refine Cfg.begL rfl ?_
 refine Lp 3 [dZ,dZ,(dS (.agg (acC ⟨3,s,t,ByteArray.empty⟩)))] (some [4,7]) (fun S => [(∀ w1,S w1 → (Instr.build 34 #[(0,.int .i64 3),(1,.string s),(2,.string t)]).run Tryz.prog w1 = .ok (.agg (acC ⟨3,s,t,ByteArray.empty⟩)) w1)]) ⟨(fun _ _ => kr),trivial⟩ ?_
 refine Le (Eff.storeN (b := ab) (off := 0) (vs := (acC ⟨3,s,t,ByteArray.empty⟩)) (n := 4) rfl kr kr kr rfl (acL_all _) 0 (cs := (acC faz)) (e := 34) kr (Nat.le_refl 4)) ?_
 rintro ⟨⟩ -
 refine CfgL.setO (congrArg (fun (xq : Array Value) => ([(ab,.cells xq 34 (0,0))] : LO)) (show _ = (acC ⟨3,s,t,ByteArray.empty⟩) from (show spl (acC faz) 0 (acC ⟨3,s,t,ByteArray.empty⟩).toList = acC ⟨3,s,t,ByteArray.empty⟩ from spl_all rfl))) ?_
 refine CfgL.done rfl ?_
 refine Cg (Γ' := [(4,[],pT ab)]) ?_
 refine Cfg.ret rfl (rs := [.cell 4 34]) rfl [.agg (acC ⟨3,s,t,ByteArray.empty⟩)] ⟨⟨_,by kernel_rfl,(fun w1 h => h.oload 0 rfl Tryz.underlying34 rfl (n := 4) kr rfl)⟩,trivial⟩ (fun w1 hp => ?_)
 exact ⟨rfl,hp.ext⟩
end Go.Proofs.YtfgdepggdiibdaaGreatDoor
namespace Go.Proofs.YtfgdepggdiibdaaGreatDoor
open K
set_option linter.unusedVariables false
theorem count_set : ∀ (l : List Bool) (i : Nat),i < l.length → l.getD i false = true → (l.set i false).count true + 1 = l.count true
 | [],i,h,_ => by simp at h
 | b :: l,0,_,h => by
  have hb : b = true := by simpa using h
  subst hb; simp
 | b :: l,i + 1,h,ht => by
  have h1 := count_set l i (by simpa using h) (by simpa using ht)
  simp only [List.set_cons_succ,List.count_cons]
  omega
theorem loop_cnt (k : Nat) : ∀ (c n : Nat) (nx : List Bool),(loopF false k c n nx).1 = 0 → (loopF false k c n nx).2.count true + c = nx.count true ∧ (0 < c → k + n + c ≤ nx.length)
 | 0,n,nx,_ => ⟨rfl,fun h => absurd h (Nat.lt_irrefl 0)⟩
 | c + 1,n,nx,h => by
  rw [loopF] at h ⊢
  split at h
  ·cases h
  ·rename_i h1
   split at h
   ·cases h
   ·rename_i h2
    rw [if_neg h1,if_neg h2]
    obtain ⟨h3,h4⟩ := loop_cnt k c (n + 1) _ h
    have hg : nx.getD (k + n) false = true := by simpa using h2
    have h5 := count_set nx (k + n) om hg
    have h6 : (nx.set (k + n) false).length = nx.length := List.length_set
    refine ⟨by omega,fun _ => ?_⟩
    rcases Nat.eq_zero_or_pos c with h7 | h7
    ·omega
    ·have := h4 h7; omega
theorem turn1 {f : Int} {fr : List Bool} {a n : Nat} (h : (turnF f fr.length false [((a : Int),(n : Int))] fr).1 = 0) : f ≤ (a : Int) ∧ (a : Int) + n ≤ f + fr.length ∧ (turnR f false [((a : Int),(n : Int))] fr).count true + n = fr.count true := by
 unfold turnR
 rw [if_pos h]
 rw [turnF] at h ⊢
 split at h
 ·cases h
 ·rename_i h1
  split at h
  ·rename_i h2
   split at h
   ·rename_i h3
    rw [if_neg h1,if_pos h2,if_pos h3]
    obtain ⟨h4,h5⟩ := loop_cnt _ _ _ _ h3
    have h6 : ∀ nx : List Bool,(turnF f fr.length false [] nx).2 = nx := fun nx => by rw [turnF]
    rw [h6]
    unfold inP at h2
    rw [decide_eq_true_eq] at h2
    simp only [Int.toNat_natCast] at h1 h2 h4 h5 ⊢
    have := h5 om
    refine ⟨by omega,by omega,by omega⟩
   ·rename_i h3; exact absurd h h3
  ·cases h
def psum (ps : List Pl) (W : List (ByteArray × Value)) : Nat := (W.map fun p => secs (ps.getD (vk p.2) plz).sz).sum
theorem smset_new {W : List (ByteArray × Value)} {k : ByteArray} {v : Value} (h : smget W k = none) : smset W k v = W ++ [(k,v)] := by
 induction W with
 | nil => rfl
 | cons p W ih =>
  unfold smget at h
  split at h
  ·cases h
  ·rename_i hk
   unfold smset
   rw [if_neg hk,ih h]; rfl
theorem smget_of {W : List (ByteArray × Value)} (hn : (W.map (·.1)).Nodup) : ∀ {k : ByteArray} {v : Value},(k,v) ∈ W → smget W k = some v := by
 induction W with
 | nil => intro k v h; cases h
 | cons p W ih =>
  intro k v h
  rw [List.map_cons,List.nodup_cons] at hn
  unfold smget
  rcases List.mem_cons.1 h with h | h
  ·rw [← h,if_pos rfl]
  ·rw [if_neg (fun e => hn.1 (by rw [← e]; exact List.mem_map.2 ⟨_,h,rfl⟩)),ih hn.2 h]
def plIn (p : Pl) : Prop := p.sz = 0 ∨ (121 ≤ p.at_ ∧ p.at_ + secs p.sz ≤ 200)
structure EntI (q : Nat) (T : Tb) : Prop where
 ok : TbOk T
 fl : T.fr.length = 79
 nd : (T.W.map (·.1)).Nodup
 w : ∀ p ∈ T.W,∃ k : Nat,p.2 = .int .i64 (k : Int) ∧ k < q ∧ k < 144 ∧ namB p.1 = true ∧ plIn (T.ps.getD k plz)
 s : psum T.ps T.W + T.fr.count true = 79
 ln : T.W.length ≤ q
theorem EntI.up {q q2 : Nat} {T : Tb} (h : EntI q T) (hq : q ≤ q2) : EntI q2 T := ⟨h.ok,h.fl,h.nd,fun p hp => by obtain ⟨k,a,b,c⟩ := h.w p hp; exact ⟨k,a,by omega,c⟩,h.s,Nat.le_trans h.ln hq⟩
theorem getD_setN {ps : List Pl} {q k : Nat} {p : Pl} (h : k ≠ q) : (ps.set q p).getD k plz = ps.getD k plz := by
 rw [List.getD_eq_getElem?_getD,List.getD_eq_getElem?_getD,List.getElem?_set_ne (fun e => h e.symm)]
theorem getD_setE {ps : List Pl} {q : Nat} {p : Pl} (h : q < ps.length) : (ps.set q p).getD q plz = p := by
 rw [List.getD_eq_getElem?_getD,List.getElem?_set_self h]; rfl
theorem EntI.add {q : Nat} {T T2 : Tb} {raw : List UInt8} (h : EntI q T) (hq : q < 144) (he : entP q raw T = some T2) : EntI (q + 1) T2 := by
 unfold entP at he
 split at he
 ·injection he with he; subst he; exact h.up (Nat.le_succ q)
 ·split at he
  ·cases he
  ·rename_i hb
   split at he
   ·cases he
   ·rename_i hp
    split at he
    ·cases he
    ·rename_i ht
     injection he with he
     have ht' := Decidable.of_not_not ht
     have hp' : badP T.W (plOf raw) = false := Bool.eq_false_iff.2 hp
     have hb' : badN raw = false := Bool.eq_false_iff.2 hb
     unfold badP at hp'
     rw [Bool.or_eq_false_iff,Bool.or_eq_false_iff,decide_eq_false_iff_not] at hp'
     unfold badN at hb'
     rw [Bool.or_eq_false_iff] at hb'
     have hnam : namB (plOf raw).nm = true := by show namB (nmOf raw) = true; simpa using hb'.2
     have hpo : PlOk (plOf raw) := plOf_ok hp'.2.1
     have hnone : smget T.W (plOf raw).nm = none := by simpa using hp'.1
     generalize plOf raw = p at *
     have hl := h.ok.l
     have hrun : (turnR 121 false (runF p) T.fr).count true + secs p.sz = T.fr.count true ∧ plIn p := by
      unfold runF at ht' ⊢
      split at ht'
      ·rename_i h0
       rw [if_pos h0,h0]
       refine ⟨?_,.inl h0⟩
       have e : turnR 121 false [] T.fr = T.fr := by unfold turnR; rw [turnF]; rfl
       rw [e]; rfl
      ·rename_i h0
       rw [if_neg h0]
       obtain ⟨a1,a2,a3⟩ := turn1 ht'
       have := h.fl
       exact ⟨a3,.inr ⟨by omega,by omega⟩⟩
     subst he
     have hold : ∀ x ∈ T.W,(T.ps.set q p).getD (vk x.2) plz = T.ps.getD (vk x.2) plz := fun x hx => by
      obtain ⟨k,e,hk,_⟩ := h.w x hx
      rw [e]
      exact getD_setN (by show ((k : Int)).toNat ≠ q; omega)
     refine ⟨tb_in h.ok hpo hq (turnR_len _ _ _ _),by show (turnR 121 false (runF p) T.fr).length = 79; rw [turnR_len]; exact h.fl,?_,?_,?_,?_⟩
     ·show ((smset T.W p.nm _).map (·.1)).Nodup
      exact smset_nodup h.nd
     ·intro x hx
      have hx' : x ∈ smset T.W p.nm (.int .i64 (q : Int)) := hx
      rw [smset_new hnone] at hx'
      rcases List.mem_append.1 hx' with hx' | hx'
      ·obtain ⟨k,e,hk,hk2,h3,h4⟩ := h.w x hx'
       refine ⟨k,e,by omega,hk2,h3,?_⟩
       show plIn ((T.ps.set q p).getD k plz)
       rw [getD_setN om]; exact h4
      ·rw [List.mem_singleton.1 hx']
       refine ⟨q,rfl,Nat.lt_succ_self q,hq,hnam,?_⟩
       show plIn ((T.ps.set q p).getD q plz)
       rw [getD_setE om]; exact hrun.2
     ·show psum (T.ps.set q p) (smset T.W p.nm (.int .i64 (q : Int))) + (turnR 121 false (runF p) T.fr).count true = 79
      have e1 : psum (T.ps.set q p) (smset T.W p.nm (.int .i64 (q : Int))) = psum T.ps T.W + secs p.sz := by
       rw [smset_new hnone]
       unfold psum
       rw [List.map_append,List.sum_append,List.map_congr_left (fun x hx => by rw [hold x hx])]
       simp only [List.map_cons,List.map_nil,List.sum_cons,List.sum_nil,Nat.add_zero]
       have e2 : (T.ps.set q p).getD (vk (Value.int .i64 (q : Int))) plz = p := by
        show (T.ps.set q p).getD ((q : Int)).toNat plz = p
        rw [Int.toNat_natCast]; exact getD_setE om
       rw [e2]
      have := h.s
      have := hrun.1
      rw [e1]; omega
     ·show (smset T.W p.nm _).length ≤ q + 1
      rw [smset_new hnone,List.length_append]
      exact Nat.succ_le_succ h.ln
theorem EntI.ent {b : List UInt8} {n : Nat} (hn : n < 24) : ∀ (j : Nat) (T : Tb),j ≤ 6 → EntI (6 * n + (6 - j)) T → (entL b n j T).1 = true → EntI (6 * n + 6) (entL b n j T).2
 | 0,T,_,h,_ => h
 | j + 1,T,hj,h,ht => by
  unfold entL at ht ⊢
  cases he : entP (6 * n + (5 - j)) (rawAt b (5 - j)) T with
  | none => rw [he] at ht; cases ht
  | some T2 =>
   rw [he] at ht
   simp only at ht ⊢
   refine EntI.ent hn j T2 om ?_ ht
   rw [show 6 * n + (6 - j) = 6 * n + (5 - j) + 1 by omega]
   rw [show 6 - (j + 1) = 5 - j by omega] at h
   exact h.add om he
theorem EntI.op {D : DK} : ∀ (j : Nat) (T : Tb),j ≤ 24 → EntI (6 * (24 - j)) T → (opL D j T).1 = true → EntI 144 (opL D j T).2
 | 0,T,_,h,_ => h
 | j + 1,T,hj,h,ht => by
  unfold opL at ht ⊢
  split at ht
  ·rename_i he
   rw [if_pos he]
   refine EntI.op j _ om ?_ ht
   have := EntI.ent (b := readF D (97 + ((23 - j : Nat) : Int))) (n := 23 - j) om 6 T (Nat.le_refl 6) (by rw [show 6 * (23 - j) + (6 - 6) = 6 * (24 - (j + 1)) by omega]; exact h) he
   rw [show 6 * (24 - j) = 6 * (23 - j) + 6 by omega]; exact this
  ·cases ht
theorem fr00 : newF 121 200 = List.replicate 79 true := rfl
theorem EntI.z : EntI 0 T00 := ⟨T00_ok,by show (newF 121 200).length = 79; rw [fr00,List.length_replicate],List.nodup_nil,(fun p hp => by cases hp),by show 0 + (newF 121 200).count true = 79; rw [fr00,List.count_replicate_self],Nat.le_refl _⟩
theorem EntI.opened {D : DK} (h : (opL D 24 T00).1 = true) : EntI 144 (opL D 24 T00).2 := EntI.op 24 T00 (Nat.le_refl _) EntI.z h
theorem EntI.wok {q : Nat} {T : Tb} (h : EntI q T) : WOk T.W := ⟨fun p hp => by obtain ⟨k,e,_,hk,_⟩ := h.w p hp; exact ⟨k,hk,e⟩,h.nd⟩
end Go.Proofs.YtfgdepggdiibdaaGreatDoor
namespace Go.Proofs.YtfgdepggdiibdaaGreatDoor
open K
set_option linter.unusedVariables false
theorem bv_take (y : List UInt8) (n j : Nat) {v : Value} (h : (bv (y.take n)).toList[j]? = some v) : (bv y)[j]? = some v := by
 have e : ∀ l : List UInt8,(bv l).toList = l.map fun x => Value.int .u8 (x.toNat : Int) := fun l => rfl
 rw [← Array.getElem?_toList]
 rw [e,List.getElem?_map] at h ⊢
 rw [List.getElem?_take] at h
 split at h
 ·exact h
 ·cases h
def fdat (D : DK) (p : Pl) (i : Nat) : List UInt8 := (List.range i).flatMap fun (n : Nat) => (readF D ((p.at_ : Int) + (n : Int))).take (mC p.sz n)
theorem fdat_next (D : DK) (p : Pl) (i : Nat) : fdat D p (i + 1) = fdat D p i ++ (readF D ((p.at_ : Int) + (i : Int))).take (mC p.sz i) := by
 unfold fdat
 rw [List.range_succ,List.flatMap_append,List.flatMap_cons,List.flatMap_nil,List.append_nil]
theorem fdat_len {D : DK} (h : DG D) (p : Pl) : ∀ i,(fdat D p i).length = min (512 * i) p.sz
 | 0 => by show 0 = min (512 * 0) p.sz; omega
 | i + 1 => by
  have h1 := readF_len h ((p.at_ : Int) + (i : Int))
  rw [fdat_next,List.length_append,fdat_len h p i,List.length_take,h1]
  unfold mC; omega
def rdK (D : DK) (p : Pl) (j : Nat) : List UInt8 := if j = 0 then [] else fdat D p (secs p.sz)
theorem rdK_end (D : DK) (p : Pl) : rdK D p (runF p).length = fdat D p (secs p.sz) := by
 unfold rdK
 by_cases h0 : p.sz = 0
 ·have e : runF p = [] := if_pos h0
  rw [e,h0]; rfl
 ·have e : runF p = [((p.at_ : Int),(secs p.sz : Int))] := if_neg h0
  rw [e]; exact if_neg (show ¬ 1 = 0 by decide)
theorem run_pos {p : Pl} {j : Nat} (h : j < (runF p).length) : p.sz ≠ 0 ∧ j = 0 ∧ (runF p).length = 1 := by
 unfold runF at h ⊢
 split at h
 ·cases h
 ·rename_i h0
  have h1 : j < 1 := h
  exact ⟨h0,by omega,by rw [if_neg h0]; rfl⟩
set_option maxRecDepth 100000 in
theorem bWriteT (b : Nat) (l : List UInt8) (B : Bd) (d n c : Nat) (y : List UInt8) (te : TypeId) (w : World) (hok : BdOk b l B) (hh : Has w (bl 113 5 b l B)) (hd : ((bl 113 5 b l B).map (·.1)).Nodup) (hr : l.length + n ≤ 140737488355328) (hn : 0 < n) (hx : n ≤ y.length) (hD : w.heap[d]? = some (.cells (bv y) te (0,0))) (hdn : d ∉ (bl 113 5 b l B).map (·.1)) :
  Calls Tryz.prog 45 #[.pointer (some ⟨b,0,none⟩),.slice (some ⟨d,0,none⟩) n c] w fun e w' => ∃ B' : Bd,BdOk b (l ++ y.take n) B' ∧ e = .returned (.tuple #[.int .i64 (n : Int),.nilIface]) ∧ ∃ R1,HP w ((bl 113 5 b l B).map (·.1)) R1 (bl 113 5 b (l ++ y.take n) B') w' := by
 have hxt : (y.take n).length = n := by rw [List.length_take]; omega
 refine enter (vs := [pT b,.slice (some ⟨d,0,none⟩) n c]) ((bl 113 5 b l B).map (·.1)) [(d,.cells (bv y) te (0,0))] ([(b,.cells #[B.1,.slice (Own.a B.2) l.length (Own.c B.2)] 113 (0,0))] ++ (Own.o 5 ((bv l).toList) B.2 ++ [])) Tryz.func45 rfl kr (bl_start hh hd (R := [(d,.cells (bv y) te (0,0))]) (fun e he => by rw [List.mem_singleton.1 he]; exact hD) (fun e he => by rw [List.mem_singleton.1 he]; exact hdn)) ?_
 refine Rg [0,1] [] n0 trivial ?_
 refine Cfg.begL rfl ?_
 refine Lp 1 [] none n0 trivial ?_
 refine Le (Eff.callM (vs := [pT b]) (.tuple #[]) 0 (b := b) (ob := .cells #[B.1,.slice (Own.a B.2) l.length (Own.c B.2)] 113 (0,0)) (.cells #[pT b,.slice (Own.a B.2) l.length (Own.c B.2)] 113 (0,0)) rfl Tryz.func87 rfl rfl kr kr (fun w1 h => bCheck b B.1 (.slice (Own.a B.2) l.length (Own.c B.2)) w1 hok.ptr (h.own (b,_) mH))) ?_
 rintro ⟨⟩ -
 refine CfgL.done rfl ?_
 refine Cg (Γ' := [(0,[],pT b),(1,[],.slice (some ⟨d,0,none⟩) n c)]) ?_
 refine Cfg.begL rfl ?_
 refine Lp 6 [dZ,dZ,dZ,dZ,(dS (.slice (Own.a B.2) l.length (Own.c B.2)))] (some [1,8,12,13]) (fun S => [(cE S b 1 (.slice (Own.a B.2) l.length (Own.c B.2)))]) ⟨(oC 0 rfl rfl),trivial⟩ ?_
 refine Le (Eff.appendP rfl Tryz.underlying111 kr (z := .int .u8 0) kr rfl B.2 hok.own kr (b2 := d) (off2 := 0) (m := n) (c2 := c) kr (bv (y.take n)).toList (by rw [bv_len,hxt,Nat.mul_one]) (all_bv _) [(b,.cells #[pT b,.slice (Own.a B.2) l.length (Own.c B.2)] 113 (0,0))] [] rfl (fun w1 h j v hj => by rw [Nat.zero_add]; exact h.rcell 0 rfl (bv_take y n j hj)) om om om) ?_
 rintro o ⟨ko,kp⟩
 refine Lp 2 [] (some [1,14,16]) n0 trivial ?_
 refine Le (Eff.store1 (b := b) (off := 1) (v := .slice (Own.a o) ((l.length + n)) (Own.c o)) rfl kr kr rfl kr 0 (cs := #[pT b,.slice (Own.a B.2) l.length (Own.c B.2)]) (e := 113) kr (Nat.lt_succ_self 1)) ?_
 rintro ⟨⟩ -
 refine CfgL.done rfl ?_
 refine Cg (Γ' := [(1,[],.slice (some ⟨d,0,none⟩) n c)]) ?_
 refine Rg [4,5] [] n0 trivial ?_
 refine Cfg.ret rfl (rs := [.tmp 4,.tmp 5]) rfl [.int .i64 (n : Int),.nilIface] ⟨kr,by kernel_rfl,trivial⟩ (fun w1 hp => ?_)
 rw [bv_app] at hp ko
 have hlen : l.length + n = (l ++ y.take n).length := by rw [List.length_append,hxt]
 rw [hlen] at ko hp
 exact ⟨(.pointer (some ⟨b,0,none⟩),o),⟨.inr rfl,ko,kp⟩,rfl,_,bl_end hp⟩
set_option maxRecDepth 100000 in
set_option maxHeartbeats 4000000 in
theorem fRead (z : FM) (num : Nat) (m : DM) (y : MX) (D : DK) (T : Tb) (s : ByteArray) (k : Nat) (w : World) (hR : Has w (gO z 0 num m T ++ dO D m y)) (hw : Wl D) (hmo : MapOk y.1 y.2 (wv2 D.wait)) (hf : FOk z T) (hk : k < 144) (hsk : smget T.W s = some (.int .i64 (k : Int))) (hin : plIn (T.ps.getD k plz)) :
  Calls Tryz.prog 13 #[.pointer (some ⟨z.fb,0,none⟩),.string s] w fun e w' => e = .returned (.tuple #[.string (tx (fdat D (T.ps.getD k plz) (secs (T.ps.getD k plz).sz))),.int .i64 0]) ∧ Ext [] w w' := by
 obtain ⟨P,hP⟩ : ∃ P,P = T.ps.getD k plz := ⟨_,rfl⟩
 rw [← hP] at hin
 have hPo : PlOk P := by rw [hP]; exact hf.tb.o _ (K.getD_mem (by rw [hf.tb.l]; exact hk))
 have hPz := hPo.sz
 have hPa := hPo.at_
 have hs64 : secs P.sz ≤ 64 := by unfold secs; omega
 rw [← hP]
 refine enter (vs := [.pointer (some ⟨z.fb,0,none⟩),.string s]) [] (gO z 0 num m T ++ dO D m y) [] Tryz.func13 rfl kr (HP.ofHas hR) ?_
 refine Rg [0,1] [] n0 trivial ?_
 refine Cfg.begL rfl ?_
 refine Lp 1 [] none n0 trivial ?_
 refine Le (Eff.callA (vs := [.pointer (some ⟨z.fb,0,none⟩)]) (.int .i64 0) rfl Tryz.func24 rfl rfl kr (fun w1 h => fErr z 0 num m y D T w1 (h.hasR (fun e he => he)))) ?_
 rintro ⟨⟩ -
 refine Lp 1 [] (some [0,1,6]) n0 trivial ?_
 refine CfgL.done rfl ?_
 refine Rg [0,1,6,19] [] n0 trivial ?_
 refine Cfg.condF rfl (b := false) kr rfl ?_
 refine Cfg.begL rfl ?_
 refine Lp 8 [dZ,dZ,dZ,(dS (.pointer (some ⟨z.tb,0,none⟩))),dZ,dZ,(dS (.map (some z.nr)))] (some [0,28,29]) (fun S => [(∀ w1,S w1 → w1.cell? ⟨z.fb,1,none⟩ = some (.pointer (some ⟨z.tb,0,none⟩))),(∀ w1,S w1 → w1.cell? ⟨z.tb,432,none⟩ = some (.map (some z.nr)))]) ⟨(rC 0 rfl rfl),(fun w1 h => h.rcell 2 rfl (tb_names hf.tb.l)),trivial⟩ ?_
 refine Le (Eff.sGet (z := .int .i64 0) (r := z.nr) (k := s) (es := z.x.1) (ck := z.x.2) (W := T.W) rfl Tryz.underlying81 Tryz.underlying9 kr kr kr hf.sm (fun w1 h => (h.ro _ (mG 3 rfl)))) ?_
 rintro ⟨⟩ -
 refine Lp 5 [] (some [0,7,8]) n0 trivial ?_
 refine CfgL.done rfl ?_
 refine Cfg.setS 7 (congrArg (fun (xq : Value) => (xq : Value)) (show (smget T.W s).getD (.int .i64 0) = .int .i64 (k : Int) from by rw [hsk]; rfl)) ?_
 refine Cfg.setS 8 (congrArg (fun (xq : Bool) => (.bool xq : Value)) (show (smget T.W s).isSome = true from by rw [hsk]; rfl)) ?_
 refine Rg [0,7,34] [] n0 trivial ?_
 refine Cfg.condF rfl (b := false) kr rfl ?_
 refine Cfg.begL rfl ?_
 refine Lp 9 [dZ,dZ,dZ,(dS (.pointer (some ⟨z.tb,0,none⟩))),dZ,dZ,dZ,dZ,(dS (.agg (plc P).toArray))] (some [0,43]) (fun S => [(∀ w1,S w1 → w1.cell? ⟨z.fb,1,none⟩ = some (.pointer (some ⟨z.tb,0,none⟩))),(iL (k : Int) 144),(∀ w1,S w1 → (loadVar 85 ⟨z.tb,(k * 3),none⟩).run Tryz.prog w1 = .ok (.agg (plc P).toArray) w1)]) ⟨(rC 0 rfl rfl),om,(fun w1 h => load_list (vs := plc P) Tryz.underlying85 rfl kr (plc_len _) (fun q9 v hq9 => h.rcell 2 rfl (tb_cell (by rw [hf.tb.l]; exact hk) (by rw [← hP]; exact hq9)))),trivial⟩ ?_
 refine Le (Eff.alloc (z := (.agg (plc plz).toArray)) rfl kr) ?_
 rintro pb ⟨hpb,npb⟩
 refine Le (Eff.storeN (b := pb) (off := 0) (vs := (plc P).toArray) (n := 3) rfl kr kr kr rfl (all_plc _) 0 (cs := (plc plz).toArray) (e := 85) kr (Nat.le_refl 3)) ?_
 rintro ⟨⟩ -
 refine CfgL.setO (congrArg (fun (xq : Array Value) => ([(pb,.cells xq 85 (0,0))] : LO)) (show _ = ((plc P).toArray) from (show spl (plc plz).toArray 0 (plc P).toArray.toList = _ from spl_all rfl))) ?_
 refine CfgL.done rfl ?_
 refine Cg (Γ' := [(9,[],pT pb),(0,[],.pointer (some ⟨z.fb,0,none⟩))]) ?_
 refine Cfg.begL rfl ?_
 refine Le (Eff.allocB 5 [(pb,.cells ((plc P).toArray) 85 (0,0))] [] rfl rfl kr) ?_
 rintro b ⟨hb,nb⟩
 refine CfgL.done rfl ?_
 refine Cfg.begL rfl ?_
 refine Lp 1 [(dS (.agg (plc P).toArray))] none (fun S => [(∀ w1,S w1 → (loadVar 85 ⟨pb,0,none⟩).run Tryz.prog w1 = .ok (.agg (plc P).toArray) w1)]) ⟨(fun w1 h => load_list (vs := plc P) Tryz.underlying85 rfl kr (plc_len _) (fun q9 v hq9 => h.ocell 0 rfl (by rw [List.getElem?_toArray,Nat.zero_add]; exact hq9))),trivial⟩ ?_
 refine Le (Eff.callH (vs := [.agg (plc P).toArray]) (fun rb : Nat => .slice (rA P rb) ((runF P).length) ((runF P).length)) [] (fun rb => rnO P rb) (fun _ => True) ([(pb,.cells ((plc P).toArray) 85 (0,0))] ++ (bl 113 5 b ([]) bd0)) [] rfl rfl Tryz.func44 rfl rfl kr (fun w1 h _ _ => fRunU P w1 hPo)) ?_
 rintro rb -
 refine Lp 2 [] (some [0,9,10,45,46,47]) n0 trivial ?_
 refine CfgL.done rfl ?_
 refine Cfg.setO (congrArg (fun (xq : List UInt8) => (([(pb,.cells ((plc P).toArray) 85 (0,0))] ++ (bl 113 5 b xq bd0 ++ (rnO P rb ++ []))) : LO)) (show _ = (rdK D P 0) from rfl)) ?_
 refine Cfg.loop rfl (ι := Nat × Bd) (fun (xz : Nat × Bd) => match xz with | (j,B) => [(47,[],.int .i64 (j : Int)),(46,[],.int .i64 ((runF P).length : Int)),(45,[],.slice (rA P rb) ((runF P).length) ((runF P).length)),(10,[],pT b),(9,[],pT pb),(0,[],.pointer (some ⟨z.fb,0,none⟩))]) (fun (xz : Nat × Bd) => match xz with | (j,B) => ([(pb,.cells ((plc P).toArray) 85 (0,0))] ++ (bl 113 5 b (rdK D P j) B ++ (rnO P rb ++ [])))) (fun (xz : Nat × Bd) => match xz with | (j,B) => (j ≤ (runF P).length) ∧ (BdOk b (rdK D P j) B)) (fun (xz : Nat × Bd) => match xz with | (j,B) => (runF P).length - j) (0,bd0) ?_ (Conv.mk kr) slr ?_
 ·exact ⟨Nat.zero_le _,bd0_ok b⟩
 ·rintro ⟨j,B⟩ ⟨hj,hB⟩
  refine Rg [0,9,10,45,46,47,48] [] n0 trivial ?_
  refine Cfg.cond rfl (b := (decide ((j : Int) < ((runF P).length : Int)))) kr (fun c3r => ?_) (fun c3r => ?_)
  ·have c3 := (dT c3r)
   obtain ⟨hj1,hj2,hj3⟩ := run_pos (p := P) (j := j) om
   refine Cfg.setS 45 (congrArg (fun (xq : Value) => (xq : Value)) (show .slice (rA P rb) ((runF P).length) ((runF P).length) = .slice (some ⟨rb,0,none⟩) (runF P).length (runF P).length from by unfold rA; rw [if_neg hj1])) ?_
   refine Cfg.begL rfl ?_
   refine Lp 2 [dZ,(dS (.agg #[.int .i64 (P.at_ : Int),.int .i64 (secs P.sz : Int)]))] (some [0,9,10,45,46,47,50]) (fun S => [(0 ≤ (j : Int) ∧ (j : Int) < ((runF P).length : Int)),(∀ w1,S w1 → (loadVar 117 ⟨rb,(j * 2),none⟩).run Tryz.prog w1 = .ok (.agg #[.int .i64 (P.at_ : Int),.int .i64 (secs P.sz : Int)]) w1)]) ⟨om,(fun w1 h => load_list (vs := [.int .i64 (P.at_ : Int),.int .i64 (secs P.sz : Int)]) Tryz.underlying117 rfl kr rfl (fun q9 v hq9 => by rw [cell_cells (h.own (rb,Obj.cells #[.int .i64 (P.at_ : Int),.int .i64 (secs P.sz : Int)] 117 (0,0)) (mR (mR (mL (by unfold rnO; rw [if_neg hj1]; exact mH))))),hj2,Nat.zero_mul,Nat.zero_add,List.getElem?_toArray]; exact hq9)),trivial⟩ ?_
   refine Le (Eff.alloc (z := (.agg #[.int .i64 0,.int .i64 0])) rfl kr) ?_
   rintro ub ⟨hub,nub⟩
   refine Le (Eff.storeN (b := ub) (off := 0) (vs := #[.int .i64 (P.at_ : Int),.int .i64 (secs P.sz : Int)]) (n := 2) rfl kr kr kr rfl (two_one rfl rfl) 0 (cs := #[.int .i64 0,.int .i64 0]) (e := 117) kr (Nat.le_refl 2)) ?_
   rintro ⟨⟩ -
   refine CfgL.setO (congrArg (fun (xq : Array Value) => (([(ub,.cells xq 117 (0,0)),(pb,.cells ((plc P).toArray) 85 (0,0))] ++ (bl 113 5 b (rdK D P j) B ++ (rnO P rb ++ []))) : LO)) (show _ = #[.int .i64 (P.at_ : Int),.int .i64 ((secs P.sz) : Int)] from rfl)) ?_
   refine CfgL.done rfl ?_
   refine Cg (Γ' := [(12,[],pT ub),(47,[],.int .i64 (j : Int)),(46,[],.int .i64 ((runF P).length : Int)),(45,[],.slice (some ⟨rb,0,none⟩) (runF P).length (runF P).length),(10,[],pT b),(9,[],pT pb),(0,[],.pointer (some ⟨z.fb,0,none⟩))]) ?_
   refine Rg [0,9,10,12,45,46,47,52,53] [dZ,(dS (.int .i64 ((secs P.sz) : Int)))] (fun S => [(cE S ub 1 (.int .i64 ((secs P.sz) : Int)))]) ⟨(oC 0 rfl rfl),trivial⟩ ?_
   refine Cfg.setO (congrArg (fun (xq : List UInt8) => (([(ub,.cells #[.int .i64 (P.at_ : Int),.int .i64 ((secs P.sz) : Int)] 117 (0,0)),(pb,.cells ((plc P).toArray) 85 (0,0))] ++ (bl 113 5 b xq B ++ (rnO P rb ++ []))) : LO)) (show _ = (fdat D P 0) from by rw [hj2]; rfl)) ?_
   refine Cfg.loop rfl (ι := Nat × Bd) (fun (xz : Nat × Bd) => match xz with | (i,B2) => [(53,[],.int .i64 (i : Int)),(52,[],.int .i64 ((secs P.sz) : Int)),(12,[],pT ub),(47,[],.int .i64 (j : Int)),(46,[],.int .i64 ((runF P).length : Int)),(45,[],.slice (some ⟨rb,0,none⟩) (runF P).length (runF P).length),(10,[],pT b),(9,[],pT pb),(0,[],.pointer (some ⟨z.fb,0,none⟩))]) (fun (xz : Nat × Bd) => match xz with | (i,B2) => ([(ub,.cells #[.int .i64 (P.at_ : Int),.int .i64 ((secs P.sz) : Int)] 117 (0,0)),(pb,.cells ((plc P).toArray) 85 (0,0))] ++ (bl 113 5 b (fdat D P i) B2 ++ (rnO P rb ++ [])))) (fun (xz : Nat × Bd) => match xz with | (i,B2) => (i ≤ secs P.sz) ∧ (BdOk b (fdat D P i) B2)) (fun (xz : Nat × Bd) => match xz with | (i,B2) => secs P.sz - i) (0,B) ?_ (Conv.mk kr) slr ?_
   ·exact ⟨Nat.zero_le _,by have h9 := hB; rw [hj2] at h9; exact h9⟩
   ·rintro ⟨i,B2⟩ ⟨hi,hB2⟩
    refine Rg [0,9,10,12,45,46,47,52,53,54] [] n0 trivial ?_
    refine Cfg.cond rfl (b := (decide ((i : Int) < ((secs P.sz) : Int)))) kr (fun c4r => ?_) (fun c4r => ?_)
    ·have c4 := (dT c4r)
     refine Rg [0,9,10,12,13,45,46,47,52,53] [] n0 trivial ?_
     refine Cfg.begA rfl kr ([(ub,.cells #[.int .i64 (P.at_ : Int),.int .i64 ((secs P.sz) : Int)] 117 (0,0)),(pb,.cells ((plc P).toArray) 85 (0,0))] ++ (bl 113 5 b (fdat D P i) B2 ++ (rnO P rb ++ []))) ?_
     refine CfgA.join (ι := Nat) (fun (hb2 : Nat) => ([(hb2,.cells (bv (readF D ((P.at_ : Int) + (i : Int)))) 37 (0,0)),(ub,.cells #[.int .i64 (P.at_ : Int),.int .i64 ((secs P.sz) : Int)] 117 (0,0)),(pb,.cells ((plc P).toArray) 85 (0,0))] ++ (bl 113 5 b (fdat D P i) B2 ++ (rnO P rb ++ [])))) (fun (hb2 : Nat) => [(15,[],.int .i64 0),(14,[],pT hb2),(13,[],.int .i64 (i : Int)),(53,[],.int .i64 (i : Int)),(52,[],.int .i64 ((secs P.sz) : Int)),(12,[],pT ub),(47,[],.int .i64 (j : Int)),(46,[],.int .i64 ((runF P).length : Int)),(45,[],.slice (some ⟨rb,0,none⟩) (runF P).length (runF P).length),(10,[],pT b),(9,[],pT pb),(0,[],.pointer (some ⟨z.fb,0,none⟩))]) ?_ ?_
     ·rintro hb2
      refine Rg [0,9,10,12,13,14,15,45,46,47,52,53,69] [] n0 trivial ?_
      refine Cfg.condF rfl (b := false) kr rfl ?_
      have hsd : secs P.sz = (P.sz + 511) / 512 := rfl
      have hmC : 0 < mC P.sz i ∧ mC P.sz i ≤ 512 := by unfold mC; omega
      refine Cfg.begL rfl ?_
      refine Lp 5 [dZ,(dS (.int .i64 (P.sz : Int)))] (some [0,9,10,12,14,45,46,47,52,53,75]) (fun S => [(cE S pb 2 (.int .i64 (P.sz : Int))),(i6 ((i : Int) * 512)),(i6 ((P.sz : Int) - ((i : Int) * 512)))]) ⟨(oC 2 rfl rfl),om,om,trivial⟩ ?_
      refine Le (Eff.minI2 (k := .i64) (a := (512 : Int)) (b := ((P.sz : Int) - ((i : Int) * 512))) ((mC P.sz i : Nat) : Int) (by unfold mC; split <;> omega) rfl kr kr) ?_
      rintro ⟨⟩ -
      refine Lp 1 [] (some [0,9,10,12,45,46,47,52,53,77]) (fun _ => [(0 ≤ ((mC P.sz i) : Int)),(((mC P.sz i)) ≤ 512)]) ⟨om,om,trivial⟩ ?_
      refine Le (Eff.callH (vs := [pT b,.slice (some ⟨hb2,0,none⟩) (((mC P.sz i))) 512]) (fun _ => (.tuple #[.int .i64 ((mC P.sz i) : Int),.nilIface] : Value)) (bl 113 5 b (fdat D P i) B2) (fun B1 => bl 113 5 b ((fdat D P i) ++ ((readF D ((P.at_ : Int) + (i : Int)))).take (mC P.sz i)) B1) (fun B1 => BdOk b ((fdat D P i) ++ ((readF D ((P.at_ : Int) + (i : Int)))).take (mC P.sz i)) B1) [(hb2,.cells (bv (readF D ((P.at_ : Int) + (i : Int)))) 37 (0,0)),(ub,.cells #[.int .i64 (P.at_ : Int),.int .i64 ((secs P.sz) : Int)] 117 (0,0)),(pb,.cells ((plc P).toArray) 85 (0,0))] (rnO P rb ++ []) (by rfl) rfl Tryz.func45 rfl rfl kr (fun w1 h hh hd => bWriteT b (fdat D P i) B2 hb2 (mC P.sz i) 512 (readF D ((P.at_ : Int) + (i : Int))) 37 w1 hB2 hh hd (by have := fdat_len hw.g P i; omega) hmC.1 (by rw [readF_len hw.g]; exact hmC.2) (h.own (hb2,_) (mL (mG 0 rfl))) (HP.sep (Fl := [(hb2,Obj.cells (bv (readF D ((P.at_ : Int) + (i : Int)))) 37 (0,0)),(ub,Obj.cells #[.int .i64 (P.at_ : Int),.int .i64 ((secs P.sz) : Int)] 117 (0,0)),(pb,Obj.cells ((plc P).toArray) 85 (0,0))]) (Al := bl 113 5 b (fdat D P i) B2) (T := (rnO P rb ++ [])) h (mG 0 rfl)))) ?_
      rintro B4 kB4
      refine CfgL.done rfl ?_
      refine Cg (Γ' := [(53,[],.int .i64 (i : Int)),(52,[],.int .i64 ((secs P.sz) : Int)),(12,[],pT ub),(47,[],.int .i64 (j : Int)),(46,[],.int .i64 ((runF P).length : Int)),(45,[],.slice (some ⟨rb,0,none⟩) (runF P).length (runF P).length),(10,[],pT b),(9,[],pT pb),(0,[],.pointer (some ⟨z.fb,0,none⟩))]) ?_
      refine Rg [0,9,10,12,45,46,47,52,53] [] (fun _ => [(i6 ((i : Int) + 1))]) ⟨om,trivial⟩ ?_
      have hfn := fdat_next D P i
      refine Cfg.setO (congrArg (fun (xq : List UInt8) => (([(hb2,.cells (bv (readF D ((P.at_ : Int) + (i : Int)))) 37 (0,0)),(ub,.cells #[.int .i64 (P.at_ : Int),.int .i64 ((secs P.sz) : Int)] 117 (0,0)),(pb,.cells ((plc P).toArray) 85 (0,0))] ++ (bl 113 5 b xq B4 ++ (rnO P rb ++ []))) : LO)) (show _ = (fdat D P (i + 1)) from hfn.symm)) ?_
      refine Cfg.again rfl (i + 1,B4) ⟨by omega,hfn ▸ kB4⟩ (by show secs P.sz - (i + 1) < secs P.sz - i; omega) (Conv.mk kr) (.cons _ slr)
     ·intro hj
      refine CfgA.pure (List.range 8) [dZ,dZ,dZ,(dS (.pointer (some ⟨z.jb,0,none⟩))),dZ,(dS (.int .i64 (P.at_ : Int)))] (some [0,9,10,12,13,45,46,47,52,53,60,64]) (l' := tF 8 7) kr kr slr 7 rfl (Γ' := [(64,[],.int .i64 ((P.at_ : Int) + (i : Int))),(60,[],.pointer (some ⟨z.jb,0,none⟩)),(13,[],.int .i64 (i : Int)),(53,[],.int .i64 (i : Int)),(52,[],.int .i64 ((secs P.sz) : Int)),(12,[],pT ub),(47,[],.int .i64 (j : Int)),(46,[],.int .i64 ((runF P).length : Int)),(45,[],.slice (some ⟨rb,0,none⟩) (runF P).length (runF P).length),(10,[],pT b),(9,[],pT pb),(0,[],.pointer (some ⟨z.fb,0,none⟩))]) (nd := (fun S => [(∀ w1,S w1 → w1.cell? ⟨z.fb,0,none⟩ = some (.pointer (some ⟨z.jb,0,none⟩))),(cE S ub 0 (.int .i64 (P.at_ : Int))),(i6 ((P.at_ : Int) + (i : Int)))])) (fun _ => kr) ⟨(rC 0 rfl rfl),(oC 0 rfl rfl),om,trivial⟩ ?_
      refine CfgA.two 8 12 kr (fuel' := 6) rfl ?_ ?_
      ·
       refine Ie rfl  (Eff.callA (vs := [.pointer (some ⟨z.jb,0,none⟩),.int .i64 ((P.at_ : Int) + (i : Int))]) (.tuple #[.agg (bv (readF D ((P.at_ : Int) + (i : Int)))),.int .i64 0]) rfl Tryz.func33 rfl rfl kr (fun w1 h => by have h9 := jRead z.jb 0 num m y D ((P.at_ : Int) + (i : Int)) w1 hw.g hmo (fun e he => (List.mem_cons.1 he).elim (fun h1 => h1 ▸ h.ro _ (mG 1 rfl)) (fun h1 => h.ro e (mR h1))); rw [if_neg (by decide),if_neg (by decide),hw.flt (by unfold plIn at hin; omega)] at h9; exact h9)) (fun _ _ => slr) ?_
       rintro ⟨⟩ -
       refine Ap [9,10,11] [] (some [0,9,10,12,13,45,46,47,52,53,66,67]) (tF 12 3) slr 3 n0 trivial ?_
       refine Ae 12 rfl 2  (Eff.alloc (z := (.agg (bv (List.replicate 512 0)))) rfl kr) (fun _ _ => (.cons _ slr)) ?_
       rintro hb2 ⟨hhb2,nhb2⟩
       refine Ae 13 rfl 1  (Eff.storeN (b := hb2) (off := 0) (vs := (bv (readF D ((P.at_ : Int) + (i : Int))))) (n := 512) rfl kr kr kr ((bv_size _).trans (readF_len hw.g _)) (all_bv _) 0 (cs := (bv (List.replicate 512 0))) (e := 37) kr (by rw [zsz512]; omega)) (fun _ _ => (.cons _ slr)) ?_
       rintro ⟨⟩ -
       refine CfgA.setO (congrArg (fun (xq : Array Value) => (([(hb2,.cells xq 37 (0,0)),(ub,.cells #[.int .i64 (P.at_ : Int),.int .i64 ((secs P.sz) : Int)] 117 (0,0)),(pb,.cells ((plc P).toArray) 85 (0,0))] ++ (bl 113 5 b (fdat D P i) B2 ++ (rnO P rb ++ []))) : LO)) (show _ = (bv (readF D ((P.at_ : Int) + (i : Int)))) from spl_all (((bv_size _).trans (readF_len hw.g _)).trans zsz512.symm))) ?_
       refine Ap [14] [] (some [0,9,10,12,13,14,15,45,46,47,52,53]) (tF 15 0) (.cons _ slr) 0 n0 trivial ?_
       refine CfgA.done kr ?_
       refine Cg (Γ' := [(15,[],.int .i64 0),(14,[],pT hb2),(13,[],.int .i64 (i : Int)),(53,[],.int .i64 (i : Int)),(52,[],.int .i64 ((secs P.sz) : Int)),(12,[],pT ub),(47,[],.int .i64 (j : Int)),(46,[],.int .i64 ((runF P).length : Int)),(45,[],.slice (some ⟨rb,0,none⟩) (runF P).length (runF P).length),(10,[],pT b),(9,[],pT pb),(0,[],.pointer (some ⟨z.fb,0,none⟩))]) ?_
       exact hj hb2
      ·
       refine Ie rfl  (Eff.alloc (z := (.agg (bv (List.replicate 512 0)))) rfl kr) (fun _ _ => (.cons _ slr)) ?_
       rintro hb2 ⟨hhb2,nhb2⟩
       refine Ae 8 rfl 5  (Eff.callA (vs := [.pointer (some ⟨z.jb,0,none⟩),.int .i64 ((P.at_ : Int) + (i : Int))]) (.tuple #[.agg (bv (readF D ((P.at_ : Int) + (i : Int)))),.int .i64 0]) rfl Tryz.func33 rfl rfl kr (fun w1 h => by have h9 := jRead z.jb 0 num m y D ((P.at_ : Int) + (i : Int)) w1 hw.g hmo (fun e he => (List.mem_cons.1 he).elim (fun h1 => h1 ▸ h.ro _ (mG 1 rfl)) (fun h1 => h.ro e (mR h1))); rw [if_neg (by decide),if_neg (by decide),hw.flt (by unfold plIn at hin; omega)] at h9; exact h9)) (fun _ _ => (.cons _ slr)) ?_
       rintro ⟨⟩ -
       refine Ap [9,10,11] [] (some [0,9,10,12,13,14,45,46,47,52,53,66,67]) (tF 13 2) (.cons _ slr) 2 n0 trivial ?_
       refine Ae 13 rfl 1  (Eff.storeN (b := hb2) (off := 0) (vs := (bv (readF D ((P.at_ : Int) + (i : Int))))) (n := 512) rfl kr kr kr ((bv_size _).trans (readF_len hw.g _)) (all_bv _) 0 (cs := (bv (List.replicate 512 0))) (e := 37) kr (by rw [zsz512]; omega)) (fun _ _ => (.cons _ slr)) ?_
       rintro ⟨⟩ -
       refine CfgA.setO (congrArg (fun (xq : Array Value) => (([(hb2,.cells xq 37 (0,0)),(ub,.cells #[.int .i64 (P.at_ : Int),.int .i64 ((secs P.sz) : Int)] 117 (0,0)),(pb,.cells ((plc P).toArray) 85 (0,0))] ++ (bl 113 5 b (fdat D P i) B2 ++ (rnO P rb ++ []))) : LO)) (show _ = (bv (readF D ((P.at_ : Int) + (i : Int)))) from spl_all (((bv_size _).trans (readF_len hw.g _)).trans zsz512.symm))) ?_
       refine Ap [14] [] (some [0,9,10,12,13,14,15,45,46,47,52,53]) (tF 15 0) (.cons _ slr) 0 n0 trivial ?_
       refine CfgA.done kr ?_
       refine Cg (Γ' := [(15,[],.int .i64 0),(14,[],pT hb2),(13,[],.int .i64 (i : Int)),(53,[],.int .i64 (i : Int)),(52,[],.int .i64 ((secs P.sz) : Int)),(12,[],pT ub),(47,[],.int .i64 (j : Int)),(46,[],.int .i64 ((runF P).length : Int)),(45,[],.slice (some ⟨rb,0,none⟩) (runF P).length (runF P).length),(10,[],pT b),(9,[],pT pb),(0,[],.pointer (some ⟨z.fb,0,none⟩))]) ?_
       exact hj hb2
    ·have c4 := (dF c4r)
     refine Rg [0,9,10,45,46,47] [] (fun _ => [(i6 ((j : Int) + 1))]) ⟨om,trivial⟩ ?_
     have hie : i = secs P.sz := by omega
     have hrk : fdat D P i = rdK D P (j + 1) := by rw [hie]; unfold rdK; rw [if_neg om]
     refine Cfg.setO (congrArg (fun (xq : List UInt8) => (([(ub,.cells #[.int .i64 (P.at_ : Int),.int .i64 ((secs P.sz) : Int)] 117 (0,0)),(pb,.cells ((plc P).toArray) 85 (0,0))] ++ (bl 113 5 b xq B2 ++ (rnO P rb ++ []))) : LO)) (show _ = (rdK D P (j + 1)) from hrk)) ?_
     refine Cfg.setS 45 (congrArg (fun (xq : Value) => (xq : Value)) (show .slice (some ⟨rb,0,none⟩) (runF P).length (runF P).length = .slice (rA P rb) ((runF P).length) ((runF P).length) from by unfold rA; rw [if_neg hj1])) ?_
     refine Cfg.again rfl (j + 1,B2) ⟨by omega,hrk ▸ hB2⟩ (by show (runF P).length - (j + 1) < (runF P).length - j; omega) (Conv.mk kr) (.cons _ slr)
  ·have c3 := (dF c3r)
   refine Cfg.begL rfl ?_
   refine Le (Eff.callH (vs := [pT b]) (fun _ : Unit => (.string (tx (rdK D P j)) : Value)) (bl 113 5 b (rdK D P j) B) (fun _ => []) (fun _ => True) [(pb,.cells ((plc P).toArray) 85 (0,0))] (rnO P rb ++ []) (by rfl) rfl Tryz.func46 rfl rfl kr (fun w1 h hh hd => bString b (rdK D P j) B w1 hB hh hd (by have := fdat_len hw.g P (secs P.sz); rw [show j = (runF P).length by omega,rdK_end]; omega))) ?_
   rintro ⟨⟩ -
   refine Lp 2 [] (some [4,5]) n0 trivial ?_
   refine CfgL.done rfl ?_
   refine Cfg.ret rfl (rs := [.tmp 4,.tmp 5]) rfl [.string (tx (rdK D P j)),.int .i64 0] ⟨kr,by kernel_rfl,trivial⟩ (fun w1 hp => ?_)
   have hje : j = (runF P).length := by omega
   exact ⟨by rw [← rdK_end,← hje]; rfl,hp.ext⟩
end Go.Proofs.YtfgdepggdiibdaaGreatDoor
namespace Go.Proofs.YtfgdepggdiibdaaGreatDoor
open K
set_option linter.unusedVariables false
def fill (nx : List Bool) (i : Nat) : Nat → Bool → List Bool
 | 0,_ => nx
 | c + 1,b => fill (nx.set i b) (i + 1) c b
theorem getD_set9 (nx : List Bool) (i j : Nat) (b : Bool) (h : i < nx.length) : (nx.set i b).getD j false = if j = i then b else nx.getD j false := by
 rw [List.getD_eq_getElem?_getD,List.getElem?_set,List.getD_eq_getElem?_getD]
 by_cases hij : i = j
 ·subst hij; simp [h]
 ·rw [if_neg hij,if_neg (fun e => hij e.symm)]
theorem loopF_ok (tz : Bool) (k : Nat) : ∀ (c n : Nat) (nx : List Bool),(∀ j,n ≤ j → j < n + c → k + j < nx.length ∧ nx.getD (k + j) false = !tz) → loopF tz k c n nx = (0,fill nx (k + n) c tz)
 | 0,n,nx,_ => rfl
 | c + 1,n,nx,h => by
  obtain ⟨h1,h2⟩ := h n (Nat.le_refl _) om
  rw [loopF,if_neg om,h2,if_neg (by cases tz <;> simp),loopF_ok tz k c (n + 1) _ (fun j hj hj2 => ?_),fill,Nat.add_assoc]
  obtain ⟨h3,h4⟩ := h j om om
  refine ⟨by rw [List.length_set]; exact h3,?_⟩
  rw [getD_set9 _ _ _ _ h1,if_neg om,h4]
theorem turn_one {f : Int} {fr : List Bool} {tz : Bool} {k n : Nat} (hn : 0 < n) (h : ∀ j,k ≤ j → j < k + n → j < fr.length ∧ fr.getD j false = !tz) (l : List (Int × Int)) : turnF f fr.length tz ((f + (k : Int),(n : Int)) :: l) fr = turnF f fr.length tz l (fill fr k n tz) := by
 have hk := (h k (Nat.le_refl _) om).1
 have hin : inP f fr.length (f + (k : Int)) = true := by unfold inP; simp; omega
 rw [turnF,if_neg (by simp only; omega),if_pos hin]
 have e : (f + (k : Int) - f).toNat = k := by omega
 simp only [e,Int.toNat_natCast]
 rw [loopF_ok tz k n 0 fr (fun j _ hj => by have := h (k + j) om om; exact this),if_pos rfl,Nat.add_zero]
theorem turn_single {f : Int} {fr : List Bool} {tz : Bool} {k n : Nat} (hn : 0 < n) (h : ∀ j,k ≤ j → j < k + n → j < fr.length ∧ fr.getD j false = !tz) : turnF f fr.length tz [(f + (k : Int),(n : Int))] fr = (0,fill fr k n tz) := by
 rw [turn_one hn h]; rfl
theorem turnR_single {f : Int} {fr : List Bool} {tz : Bool} {k n : Nat} (hn : 0 < n) (h : ∀ j,k ≤ j → j < k + n → j < fr.length ∧ fr.getD j false = !tz) : turnR f tz [(f + (k : Int),(n : Int))] fr = fill fr k n tz := by
 unfold turnR; rw [turn_single hn h,if_pos rfl]
theorem split_at (fr : List Bool) (k : Nat) : fr.drop k = (fr.drop k).takeWhile id ++ (fr.drop k).dropWhile id := (List.takeWhile_append_dropWhile ..).symm
theorem drop_getD9 (fr : List Bool) (k j : Nat) : (fr.drop k).getD j false = fr.getD (k + j) false := by simp [List.getD_eq_getElem?_getD]
theorem tw_true (l : List Bool) : ∀ b ∈ l.takeWhile id,b = true := by
 induction l with
 | nil => intro b hb; cases hb
 | cons a l ih =>
  intro b hb
  rw [List.takeWhile_cons] at hb
  cases a with
  | false => simp at hb
  | true =>
   simp only [id,if_true] at hb
   rcases List.mem_cons.1 hb with rfl | hb
   ·rfl
   ·exact ih b hb
theorem dw_false (l : List Bool) : l.dropWhile id = [] ∨ ∃ t,l.dropWhile id = false :: t := by
 induction l with
 | nil => exact .inl rfl
 | cons a l ih =>
  rw [List.dropWhile_cons]
  cases a with
  | false => exact .inr ⟨l,rfl⟩
  | true => exact ih
theorem rlen_true {fr : List Bool} {k j : Nat} (h : j < rlen fr k) : fr.getD (k + j) false = true := by
 rw [← drop_getD9,split_at fr k,List.getD_eq_getElem?_getD,List.getElem?_append_left h,List.getElem?_eq_getElem h,Option.getD_some]
 exact tw_true _ _ (List.getElem_mem _)
theorem rlen_end (fr : List Bool) (k : Nat) : fr.getD (k + rlen fr k) false = false := by
 rw [← drop_getD9,List.getD_eq_getElem?_getD]
 have h : ((fr.drop k).takeWhile id ++ (fr.drop k).dropWhile id)[rlen fr k]? = ((fr.drop k).dropWhile id)[0]? := by
  unfold rlen
  rw [List.getElem?_append_right (Nat.le_refl _),Nat.sub_self]
 rw [← split_at] at h
 rw [h]
 rcases dw_false (fr.drop k) with h1 | ⟨t,h1⟩ <;> rw [h1] <;> rfl
theorem runs_spec0 {fr : List Bool} : ∀ {i : Nat} {x : Nat × Nat},(i = 0 ∨ fr.getD (i - 1) false = false) → x ∈ runsAt fr i → 0 < x.2 ∧ (∀ j,x.1 ≤ j → j < x.1 + x.2 → fr.getD j false = true) ∧ (x.1 = 0 ∨ fr.getD (x.1 - 1) false = false) := by
 intro k
 induction h : fr.length - k using Nat.strongRecOn generalizing k with
 | ind m ih =>
  subst h
  intro x h0 hx
  rw [runsAt] at hx
  split at hx
  ·rename_i hk
   rcases List.mem_append.1 hx with hx | hx
   ·split at hx
    ·rename_i hp
     rw [List.mem_singleton.1 hx]
     refine ⟨hp,fun j h1 h2 => ?_,h0⟩
     simp only at h1 h2
     have := rlen_true (fr := fr) (k := k) (j := j - k) om
     rw [show k + (j - k) = j by omega] at this; exact this
    ·cases hx
   ·exact ih (fr.length - (k + rlen fr k + 1)) om rfl (.inr (by rw [Nat.add_sub_cancel]; exact rlen_end fr k)) hx
  ·cases hx
theorem runs_spec {fr : List Bool} {x : Nat × Nat} (hx : x ∈ runsAt fr 0) : 0 < x.2 ∧ (∀ j,x.1 ≤ j → j < x.1 + x.2 → fr.getD j false = true) ∧ (x.1 = 0 ∨ fr.getD (x.1 - 1) false = false) := runs_spec0 (.inl rfl) hx
theorem suml_count (fr : List Bool) : ∀ k,suml (runsAt fr k) = (fr.drop k).count true := by
 intro k
 induction h : fr.length - k using Nat.strongRecOn generalizing k with
 | ind m ih =>
  subst h
  rw [runsAt]
  split
  ·rename_i hk
   have h2 := ih (fr.length - (k + rlen fr k + 1)) om (k + rlen fr k + 1) rfl
   have h3 : ((fr.drop k).takeWhile id).count true = rlen fr k := by
    rw [List.count_eq_length.2 (fun b hb => (tw_true _ b hb).symm)]; rfl
   have h4 : ((fr.drop k).dropWhile id).count true = (fr.drop (k + rlen fr k + 1)).count true := by
    have h5 : (fr.drop k).drop (rlen fr k) = (fr.drop k).dropWhile id := by
     have e : (fr.drop k).drop (rlen fr k) = ((fr.drop k).takeWhile id ++ (fr.drop k).dropWhile id).drop (rlen fr k) := by rw [← split_at]
     rw [e,List.drop_append]
     unfold rlen
     rw [List.drop_length,Nat.sub_self,List.drop_zero]; rfl
    have h7 : fr.drop (k + rlen fr k + 1) = ((fr.drop k).drop (rlen fr k)).drop 1 := by rw [List.drop_drop,List.drop_drop,Nat.add_assoc]
    rw [h7,h5]
    rcases dw_false (fr.drop k) with h1 | ⟨t,h1⟩ <;> rw [h1]
    ·rfl
    ·simp
   have h6 : (fr.drop k).count true = rlen fr k + (fr.drop (k + rlen fr k + 1)).count true := by
    conv => lhs; rw [split_at fr k]
    rw [List.count_append,h3,h4]
   rw [suml_app,h2,h6]
   split
   ·simp [suml]
   ·have : rlen fr k = 0 := by omega
    rw [this]; simp [suml]
  ·rw [List.drop_eq_nil_of_le om]; rfl
theorem take_ok {f : Int} {fr : List Bool} {n : Nat} {pre rest : List (Nat × Nat)} {k m : Nat} (hn : 0 < n) (hi : runsAt fr 0 = pre ++ (k,m) :: rest) (hp : ∀ y ∈ pre,tkP (n : Int) y = true) (ha : tkP (n : Int) (k,m) = false) :
  takeF f fr (n : Int) = (f + (k : Int),0,fill fr k n false) ∧ n ≤ m ∧ k + m ≤ fr.length ∧ (∀ j,k ≤ j → j < k + m → fr.getD j false = true) ∧ (k = 0 ∨ fr.getD (k - 1) false = false) := by
 have hx : (k,m) ∈ runsAt fr 0 := by rw [hi]; simp
 obtain ⟨h1,h2,h3⟩ := runs_spec hx
 have h4 := runs_in hx
 have h5 : n ≤ m := by simpa [tkP] using ha
 simp only at h1 h2 h3 h4
 refine ⟨?_,h5,h4,h2,h3⟩
 rw [takeF_some om hi hp ha]
 unfold tkG
 have hc : ∀ j,k ≤ j → j < k + n → j < fr.length ∧ fr.getD j false = !false := fun j hj1 hj2 => ⟨by omega,h2 j hj1 om⟩
 simp only
 rw [turn_single hn hc,turnR_single hn hc]
end Go.Proofs.YtfgdepggdiibdaaGreatDoor
namespace Go.Proofs.YtfgdepggdiibdaaGreatDoor
open K
set_option linter.unusedVariables false
theorem six_rep {k : Nat} (hk : k < 24) : six (List.replicate 144 plz) k = List.replicate 6 plz := by
 unfold six
 rw [List.drop_replicate,List.take_replicate,Nat.min_eq_left om]
theorem sheet_rep {k : Nat} (hk : k < 24) : sheetF (List.replicate 144 plz) k = zb := by
 unfold sheetF shL
 rw [six_rep hk]; kernel_rfl
theorem raw_zb {k : Nat} (hk : k < 6) : rawAt zb k = List.replicate 81 0 := by
 unfold rawAt zb
 rw [List.drop_replicate,List.take_replicate,Nat.min_eq_left om]
theorem cnt_rep : cnt0 (tx (List.replicate 81 0)) = 81 := by kernel_rfl
theorem ent_zb {k n : Nat} (hn : n < 24) : ∀ j,j ≤ 6 → entL zb n j T00 = (true,T00)
 | 0,_ => by unfold entL; rw [decide_eq_true (show sheetF T00.ps n = zb from sheet_rep hn)]
 | j + 1,h => by
  have e : entP (6 * n + (5 - j)) (rawAt zb (5 - j)) T00 = some T00 := ent_skip (by rw [raw_zb om]; exact cnt_rep)
  unfold entL
  rw [e]
  exact ent_zb (k := k) hn j om
theorem new_shown {n : Nat} (q : Int) : shown (newD n) q = zb := by
 show (List.replicate n zb).getD q.toNat zb = zb
 rw [List.getD_eq_getElem?_getD,List.getElem?_replicate]
 split <;> rfl
theorem Wl.new : Wl (newD 200) := ⟨DG.new (by decide),rfl,rfl,newD_len 200⟩
theorem op_new : ∀ j,j ≤ 24 → opL (newD 200) j T00 = (true,T00)
 | 0,_ => rfl
 | j + 1,h => by
  have e : readF (newD 200) (97 + ((23 - j : Nat) : Int)) = zb := by rw [Wl.new.read om]; exact new_shown _
  unfold opL
  rw [e,ent_zb (k := 0) om 6 (Nat.le_refl 6)]
  exact op_new j om
def sA : ByteArray := ⟨#[97]⟩
def sB : ByteArray := ⟨#[98]⟩
def sHi : ByteArray := ⟨#[104,105]⟩
def ex1 : FA := ⟨1,sA,ByteArray.empty,sHi⟩
def ex2 : FA := ⟨3,sA,sB,ByteArray.empty⟩
def s00 : FSx9 := ⟨0,newD 200,T00⟩
theorem runs79 : runsAt (List.replicate 79 true) 0 = [(0,79)] := by
 rw [runsAt_some (n := 79) (by decide) kr (by decide),runsAt_end (by decide)]
theorem take79 : takeF 121 (newF 121 200) 1 = (121,0,fill (List.replicate 79 true) 0 1 false) := by
 have h := take_ok (f := 121) (fr := List.replicate 79 true) (n := 1) (pre := []) (rest := []) (k := 0) (m := 79) (by decide) runs79 (fun y hy => by cases hy) (by decide)
 rw [fr00]
 exact h.1
def exT1 : Tb := ⟨T00.ps.set 0 ⟨sA,121,2⟩,[(sA,.int .i64 0)],fill (List.replicate 79 true) 0 1 false⟩
def exT2 : Tb := ⟨exT1.ps.set 0 ⟨sB,121,2⟩,[(sB,.int .i64 0)],exT1.fr⟩
def exDm : Dm := [(0,sHi)]
theorem ex_put : actF T00 [] ex1 = (0,exT1,exDm) := by
 rw [act_put (show chkF ex1 = 0 by kernel_rfl) rfl]
 have hk : pfx T00.ps 0 = ((0 : Nat) : Int) := rfl
 show putF T00 [] sA sHi = _
 rw [putF_new (show smget T00.W sA = none from rfl) hk]
 unfold putG
 rw [if_neg (show ¬ secs sHi.size = 0 by decide)]
 have e : takeF 121 T00.fr (secs sHi.size : Int) = (121,0,fill (List.replicate 79 true) 0 1 false) := take79
 rw [e]; rfl
theorem ex_ren : actF exT1 exDm ex2 = (0,exT2,exDm) := by
 rw [act_ren (k := 0) (show chkF ex2 = 0 by kernel_rfl) rfl (show smget exT1.W ex2.nm = some (.int .i64 ((0 : Nat) : Int)) from rfl) (show (smget exT1.W ex2.t2).isSome = false by kernel_rfl)]
 rfl
theorem ex_acts : actsF [ex1,ex2] s00.T [] = (0,exT2,exDm) := by
 show actsF [ex1,ex2] T00 [] = _
 rw [actsF,ex_put,if_neg (show ¬ (0 : Int) ≠ 0 by decide)]
 show actsF [ex2] exT1 exDm = _
 rw [actsF,ex_ren,if_neg (show ¬ (0 : Int) ≠ 0 by decide)]; rfl
theorem exT1_len : exT1.ps.length = 144 := by
 show (T00.ps.set 0 ⟨sA,121,2⟩).length = 144
 rw [List.length_set]; exact List.length_replicate
theorem exT2_at : exT2.ps.getD 0 plz = ⟨sB,121,2⟩ := by
 show (exT1.ps.set 0 ⟨sB,121,2⟩).getD 0 plz = _
 exact getD_setE (by rw [exT1_len]; decide)
theorem ex_sec : secF exT2 exDm = shWs exT2.ps 24 ++ [((121 : Int),chunkF sHi 0)] := by
 unfold secF
 have e : keysF exDm = [0] := by unfold keysF srt; simp [exDm]
 have e3 := exT2_at
 have e4 : keyW exT2 exDm 0 = [((121 : Int),chunkF sHi 0)] := by
  show fileW (exT2.ps.getD 0 plz) sHi (secs sHi.size) = _
  rw [e3]; rfl
 rw [e,List.flatMap_cons,List.flatMap_nil,List.append_nil,e4]
theorem ex_tb : TbOk exT2 := tb_in (T := exT1) (tb_in (T := T00) T00_ok (p := ⟨sA,121,2⟩) ⟨by decide,by decide,by decide⟩ (by decide) (W := [(sA,.int .i64 0)]) (fr := fill (List.replicate 79 true) 0 1 false) (by kernel_rfl)) (p := ⟨sB,121,2⟩) ⟨by decide,by decide,by decide⟩ (by decide) (W := [(sB,.int .i64 0)]) (fr := exT1.fr) rfl
theorem ex_ul : ulF (newD 200) (secF exT2 exDm) = ulF (newD 200) (shWs exT2.ps 24) ++ [((121 : Int),chunkF sHi 0)] := by
 have h : readF (newD 200) 121 = zb := by rw [Wl.new.read om]; exact new_shown _
 have h1 : (zb == chunkF sHi 0) = false := by kernel_rfl
 have h3 : unl (newD 200) ((121 : Int),chunkF sHi 0) = true := by
  show ((fltF (newD 200) 121 != 0) || !(readF (newD 200) 121 == chunkF sHi 0)) = true
  rw [h,h1]; simp
 have h2 : [((121 : Int),chunkF sHi 0)].filter (unl (newD 200)) = [((121 : Int),chunkF sHi 0)] := by rw [List.filter_cons,if_pos h3,List.filter_nil]
 rw [ex_sec]
 unfold ulF
 rw [List.filter_append,h2]
theorem ex_do : ∃ (n : Nat) (D : DK),doF s00 [ex1,ex2] = (0,⟨n,D,exT2⟩) ∧ Wl D ∧ shown D 121 = chunkF sHi 0 := by
 have hw : WW (ulF (newD 200) (secF exT2 exDm)) := ulF_w (secF_w ex_tb _)
 obtain ⟨c1,c2⟩ := Wl.new.commit (J := ⟨0,0,newD 200⟩) rfl hw
 have hr : ∀ a ∈ ulF (newD 200) (secF exT2 exDm),97 ≤ a.1 ∧ a.1 < 200 := fun a ha => by
  rw [ex_ul] at ha
  rcases List.mem_append.1 ha with ha | ha
  ·obtain ⟨k,hk,rfl⟩ := List.mem_map.1 (List.mem_filter.1 ha).1
   have := List.mem_range.1 hk
   simp only
   omega
  ·rw [List.mem_singleton.1 ha]; decide
 have hl : (ulF (newD 200) (secF exT2 exDm)).length ≤ 96 := by
  rw [ex_ul,List.length_append]
  have h1 := List.length_filter_le (unl (newD 200)) (shWs exT2.ps 24)
  rw [shWs_len] at h1
  rw [List.length_singleton]
  unfold ulF
  omega
 obtain ⟨d1,d2⟩ := Wl.new.commit_ok (J := ⟨0,0,newD 200⟩) rfl hw hr hl
 have d3 := d2 121 (chunkF sHi 0) (by decide) (by rw [ex_ul,lwF_app]; simp [lwF])
 obtain ⟨C,hC⟩ : ∃ C,C = commitF ⟨0,0,newD 200⟩ (ulF (newD 200) (secF exT2 exDm)) := ⟨_,rfl⟩
 rw [← hC] at c2 d1 d3
 have hc : C = comF s00 exT2 exDm := by unfold comF; exact hC
 exact ⟨C.2.num,C.2.D,do_ok (s := s00) (l := [ex1,ex2]) (show ¬ 2 = 0 by decide) ex_acts hc d1,c2,d3⟩
theorem ex_read {D : DK} (h : Wl D) (hs : shown D 121 = chunkF sHi 0) : tx (fdat D (exT2.ps.getD 0 plz) (secs (exT2.ps.getD 0 plz).sz)) = sHi := by
 have e := exT2_at
 rw [e]
 show tx (fdat D ⟨sB,121,2⟩ 1) = sHi
 have e2 : readF D (((121 : Nat) : Int) + ((0 : Nat) : Int)) = chunkF sHi 0 := by
  have := h.read (q := 121) om
  rw [hs] at this; exact this
 rw [fdat_next]
 show tx (fdat D ⟨sB,121,2⟩ 0 ++ (readF D (((121 : Nat) : Int) + ((0 : Nat) : Int))).take (mC 2 0)) = sHi
 rw [e2]; kernel_rfl
end Go.Proofs.YtfgdepggdiibdaaGreatDoor
namespace Go.Proofs.YtfgdepggdiibdaaGreatDoor
open K
set_option linter.unusedVariables false
theorem apart {w0 w : World} {M : List Nat} {R Fl A T L : List (Nat × Obj)} (h : HP w0 M R (Fl ++ (A ++ T)) w) (hL : ∀ e ∈ L,e ∈ R) : ∀ e ∈ L,e.1 ∉ A.map (·.1) := fun e he hm => by
 obtain ⟨e2,h2,h3⟩ := List.mem_map.1 hm
 exact h.away (mR (mL h2)) (hL e he) h3
def bk1 (b : UInt8) : List UInt8 := b :: List.replicate 511 0
theorem bk1_len (b : UInt8) : (bk1 b).length = 512 := by rw [bk1,List.length_cons,List.length_replicate]
def aDk (s : Int) (l : List (List UInt8)) (W : Wt) : DK := { fuse := -1,steps := s,down := false,last := l,wait := W }
theorem keys1 (q : Int) (b : List UInt8) : keysW [(q,b)] = [q] := by unfold keysW srt wv2; simp
theorem keys0 : keysW [] = [] := by unfold keysW srt wv2; simp
theorem aw_write (s : Int) (l : List (List UInt8)) (b : List UInt8) (h : 64 ≤ l.length) : writeF (aDk s l []) 5 b = (0,aDk (s + 1) l [(5,b)]) := by
 have h0 : fltF (aDk s l []) 5 = 0 := by
  unfold fltF
  rw [if_neg (by show ¬ (false = true); decide),if_pos]
  show (0 : Int) ≤ 5 ∧ (5 : Int) < (l.length : Int)
  omega
 have h1 : spF (aDk s l []) = (true,aDk (s + 1) l []) := rfl
 unfold writeF
 rw [if_neg (by rw [h0]; decide),h1]; rfl
theorem aw_crash (s : Int) (l : List (List UInt8)) (b : List UInt8) : crashF [] (aDk s l [(5,b)]) = aDk s l [] := by
 unfold crashF settleF
 show ({ fuse := -1,steps := s,down := false,last := setl _ _ 0 (keysW [(5,b)]) l,wait := [] } : DK) = _
 rw [keys1]; rfl
theorem aw_crash0 (s : Int) (l : List (List UInt8)) : crashF [] (aDk s l []) = aDk s l [] := by
 unfold crashF settleF
 show ({ fuse := -1,steps := s,down := false,last := setl _ _ 0 (keysW []) l,wait := [] } : DK) = _
 rw [keys0]; rfl
theorem aw_bar (s : Int) (l : List (List UInt8)) (b : List UInt8) : barF (aDk s l [(5,b)]) = (0,aDk (s + 1) (l.set 5 b) []) := by
 have h1 : spF (aDk s l [(5,b)]) = (true,aDk (s + 1) l [(5,b)]) := rfl
 unfold barF
 rw [h1]
 show ((0 : Int),({ fuse := -1,steps := s + 1,down := false,last := setl _ _ 0 (keysW [(5,b)]) l,wait := [] } : DK)) = _
 rw [keys1]; rfl
theorem aw_read (s : Int) (l : List (List UInt8)) (W : Wt) (h : 64 ≤ l.length) : readF (aDk s l W) 5 = shown (aDk s l W) 5 ∧ fltF (aDk s l W) 5 = 0 := by
 have h0 : fltF (aDk s l W) 5 = 0 := by
  unfold fltF
  rw [if_neg (by show ¬ (false = true); decide),if_pos]
  show (0 : Int) ≤ 5 ∧ (5 : Int) < (l.length : Int)
  omega
 exact ⟨if_pos h0,h0⟩
def l64 : List (List UInt8) := List.replicate 64 zb
theorem l64_len : l64.length = 64 := List.length_replicate
theorem aG0 : DG (aDk 0 l64 []) := DG.new (n := 64) (by decide)
theorem aG1 : DG (aDk 1 l64 [(5,bk1 1)]) := by have h := aG0.write 5 (bk1_len 1); rw [aw_write _ _ _ (by rw [l64_len]; decide)] at h; exact h
theorem aG2 : DG (aDk 1 l64 []) := by have h := aG1.crash []; rw [aw_crash] at h; exact h
theorem aG3 : DG (aDk 2 l64 [(5,bk1 2)]) := by have h := aG2.write 5 (bk1_len 2); rw [aw_write _ _ _ (by rw [l64_len]; decide)] at h; exact h
theorem aG4 : DG (aDk 3 (l64.set 5 (bk1 2)) []) := by have h := aG3.bar; rw [aw_bar] at h; exact h
theorem aR1 : readF (aDk 1 l64 [(5,bk1 1)]) 5 = bk1 1 := (aw_read _ _ _ (by rw [l64_len]; decide)).1
theorem aR2 : readF (aDk 1 l64 []) 5 = zb := (aw_read _ _ _ (by rw [l64_len]; decide)).1
theorem aF1 : fltF (aDk 1 l64 [(5,bk1 1)]) 5 = 0 := (aw_read _ _ _ (by rw [l64_len]; decide)).2
theorem aF2 : fltF (aDk 1 l64 []) 5 = 0 := (aw_read _ _ _ (by rw [l64_len]; decide)).2
theorem aL4 : lastsF (aDk 3 (l64.set 5 (bk1 2)) []) 5 = bk1 2 := by
 unfold lastsF
 rw [if_pos (by show (0 : Int) ≤ 5 ∧ (5 : Int) < ((l64.set 5 (bk1 2)).length : Int); rw [List.length_set,l64_len]; decide)]; rfl
set_option maxRecDepth 100000 in
theorem dAwake (w : World) :
  Calls Tryz.prog 131 #[] w fun e w' => e = .returned (.bool true) ∧ Ext [] w w' := by
 refine enter (vs := []) [] [] [] Tryz.func131 rfl kr (HP.start w) ?_
 refine Rg [] [] n0 trivial ?_
 refine Cfg.begL rfl ?_
 refine Le (Eff.callH (vs := [.int .i64 64]) (fun y : DM × MX => .tuple #[.pointer (some ⟨y.1.d,0,none⟩),.int .i64 0]) [] (fun y => dO (aDk 0 l64 []) y.1 y.2) (fun y => MapOk y.2.1 y.2.2 []) [] [] rfl rfl Tryz.func7 rfl rfl kr (fun w1 h _ _ => dNew 64 w1 om)) ?_
 rintro ⟨m,x⟩ hmo
 refine Lp 5 [] (some [1,2]) n0 trivial ?_
 refine CfgL.done rfl ?_
 refine Rg [1,19] [dZ,dZ,dZ,(1,false,none),(1,false,none)] (fun _ => [((.bool false : Value) = .bool false),((.bool false : Value) = .bool false)]) ⟨rfl,rfl,trivial⟩ ?_
 refine Cfg.condF rfl (b := false) kr rfl ?_
 refine Cfg.begL rfl ?_
 refine Lp 2 [dZ,(dS (.agg (bv (bk1 1))))] (some [1,20,21]) (fun S => [(∀ w1,S w1 → (Instr.build 37 #[(0,.int .u8 1)]).run Tryz.prog w1 = .ok (.agg (bv (bk1 1))) w1)]) ⟨(fun _ _ => kr),trivial⟩ ?_
 refine Le (Eff.callH (vs := [.pointer (some ⟨m.d,0,none⟩),.int .i64 5,.agg (bv (bk1 1))]) (fun _ : MX => .int .i64 0) (dO (aDk 0 l64 []) m x) (fun y => dO (aDk 1 l64 [(5,bk1 1)]) m y) (fun y => MapOk y.1 y.2 (wv2 (aDk 1 l64 [(5,bk1 1)]).wait)) [] [] rfl rfl Tryz.func11 rfl rfl kr (fun w1 h hA hd => (by have h9 := dWrite m x (aDk 0 l64 []) 5 (bk1 1) w1 aG0 hmo hA hd (bk1_len _) (by decide); rw [aw_write _ _ _ (by rw [l64_len]; decide)] at h9; exact h9))) ?_
 rintro x1 hmo_x1
 refine Lp 1 [] (some [1,3]) n0 trivial ?_
 refine CfgL.done rfl ?_
 refine Cfg.begL rfl ?_
 refine Lp 1 [] none n0 trivial ?_
 refine Le (Eff.callA (vs := [.pointer (some ⟨m.d,0,none⟩),.int .i64 5]) (.tuple #[.agg (bv (bk1 1)),.int .i64 0]) rfl Tryz.func10 rfl rfl kr (fun w1 h => (by have h9 := dRead m x1 (aDk 1 l64 [(5,bk1 1)]) 5 w1 aG1 hmo_x1 (mem_has h (List.Sublist.trans (List.sublist_append_left (dO (aDk 1 l64 [(5,bk1 1)]) m x1) _) (List.sublist_append_right [] _))); rw [aR1,aF1] at h9; exact h9))) ?_
 rintro ⟨⟩ -
 refine Lp 3 [] (some [1,3,26,27]) n0 trivial ?_
 refine Le (Eff.alloc (z := (.agg (bv (List.replicate 512 0)))) rfl kr) ?_
 rintro b1 ⟨hb1,nb1⟩
 refine Le (Eff.storeN (b := b1) (off := 0) (vs := (bv (bk1 1))) (n := 512) rfl kr kr kr ((bv_size _).trans (bk1_len _)) (all_bv _) 0 (cs := (bv (List.replicate 512 0))) (e := 37) kr (by rw [zsz512]; omega)) ?_
 rintro ⟨⟩ -
 refine CfgL.setO (congrArg (fun (xq : Array Value) => (([(b1,.cells xq 37 (0,0))] ++ (dO (aDk 1 l64 [(5,bk1 1)]) m x1 ++ [])) : LO)) (show _ = (bv (bk1 1)) from spl_all (((bv_size _).trans (bk1_len _)).trans zsz512.symm))) ?_
 refine CfgL.pure 1 [] (some [1,3,4,5]) (Γ' := [(5,[],.int .i64 0),(4,[],pT b1),(3,[],.int .i64 0),(1,[],.pointer (some ⟨m.d,0,none⟩))]) (nd := (fun _ => [])) kr (fun _ => kr) trivial ?_
 refine CfgL.done rfl ?_
 refine Cfg.begL rfl ?_
 refine Lp 1 [] none n0 trivial ?_
 refine Le (Eff.callH (vs := [.pointer (some ⟨m.d,0,none⟩),.slice none 0 0]) (fun _ : MX => .tuple #[]) (dO (aDk 1 l64 [(5,bk1 1)]) m x1) (fun y => dO (aDk 1 l64 []) m y) (fun y => MapOk y.1 y.2 (wv2 (aDk 1 l64 []).wait)) [(b1,.cells (bv (bk1 1)) 37 (0,0))] [] rfl rfl Tryz.func163 rfl rfl kr (fun w1 h hA hd => (by have h9 := dCrash m x1 (aDk 1 l64 [(5,bk1 1)]) none 0 [] [] w1 aG1 hmo_x1 hA hd (fun h => absurd h (by simp)) (Nat.zero_le _) (fun e he => by cases he) (fun e he => by cases he); rw [aw_crash] at h9; exact h9))) ?_
 rintro x2 hmo_x2
 refine CfgL.done rfl ?_
 refine Cg (Γ' := [(5,[],.int .i64 0),(4,[],pT b1),(3,[],.int .i64 0),(1,[],.pointer (some ⟨m.d,0,none⟩))]) ?_
 refine Cfg.begL rfl ?_
 refine Lp 1 [] none n0 trivial ?_
 refine Le (Eff.callA (vs := [.pointer (some ⟨m.d,0,none⟩),.int .i64 5]) (.tuple #[.agg (bv zb),.int .i64 0]) rfl Tryz.func10 rfl rfl kr (fun w1 h => (by have h9 := dRead m x2 (aDk 1 l64 []) 5 w1 aG2 hmo_x2 (mem_has h (List.Sublist.trans (List.sublist_append_left (dO (aDk 1 l64 []) m x2) _) (List.sublist_append_right [(b1,Obj.cells (bv (bk1 1)) 37 (0,0))] _))); rw [aR2,aF2] at h9; exact h9))) ?_
 rintro ⟨⟩ -
 refine Lp 3 [] (some [1,3,4,5,33,34]) n0 trivial ?_
 refine Le (Eff.alloc (z := (.agg (bv (List.replicate 512 0)))) rfl kr) ?_
 rintro b2 ⟨hb2,nb2⟩
 refine Le (Eff.storeN (b := b2) (off := 0) (vs := (bv zb)) (n := 512) rfl kr kr kr ((bv_size _).trans zb_len) (all_bv _) 0 (cs := (bv (List.replicate 512 0))) (e := 37) kr (by rw [zsz512]; omega)) ?_
 rintro ⟨⟩ -
 refine CfgL.setO (congrArg (fun (xq : Array Value) => (([(b2,.cells xq 37 (0,0)),(b1,.cells (bv (bk1 1)) 37 (0,0))] ++ (dO (aDk 1 l64 []) m x2 ++ [])) : LO)) (show _ = (bv zb) from spl_all (((bv_size _).trans zb_len).trans zsz512.symm))) ?_
 refine Lp 1 [] (some [1,3,4,5,6,7]) n0 trivial ?_
 refine CfgL.done rfl ?_
 refine Cfg.begL rfl ?_
 refine Lp 2 [dZ,(dS (.agg (bv (bk1 2))))] none (fun S => [(∀ w1,S w1 → (Instr.build 37 #[(0,.int .u8 2)]).run Tryz.prog w1 = .ok (.agg (bv (bk1 2))) w1)]) ⟨(fun _ _ => kr),trivial⟩ ?_
 refine Le (Eff.callH (vs := [.pointer (some ⟨m.d,0,none⟩),.int .i64 5,.agg (bv (bk1 2))]) (fun _ : MX => .int .i64 0) (dO (aDk 1 l64 []) m x2) (fun y => dO (aDk 2 l64 [(5,bk1 2)]) m y) (fun y => MapOk y.1 y.2 (wv2 (aDk 2 l64 [(5,bk1 2)]).wait)) [(b2,.cells (bv zb) 37 (0,0)),(b1,.cells (bv (bk1 1)) 37 (0,0))] [] rfl rfl Tryz.func11 rfl rfl kr (fun w1 h hA hd => (by have h9 := dWrite m x2 (aDk 1 l64 []) 5 (bk1 2) w1 aG2 hmo_x2 hA hd (bk1_len _) (by decide); rw [aw_write _ _ _ (by rw [l64_len]; decide)] at h9; exact h9))) ?_
 rintro x3 hmo_x3
 refine Lp 1 [] (some [1,3,4,5,6,7,37,38]) n0 trivial ?_
 refine Le (Eff.callH (vs := [.pointer (some ⟨m.d,0,none⟩)]) (fun _ : MX => .int .i64 0) (dO (aDk 2 l64 [(5,bk1 2)]) m x3) (fun y => dO (aDk 3 (l64.set 5 (bk1 2)) []) m y) (fun y => MapOk y.1 y.2 (wv2 (aDk 3 (l64.set 5 (bk1 2)) []).wait)) [(b2,.cells (bv zb) 37 (0,0)),(b1,.cells (bv (bk1 1)) 37 (0,0))] [] rfl rfl Tryz.func104 rfl rfl kr (fun w1 h hA hd => (by have h9 := dBarrier m x3 (aDk 2 l64 [(5,bk1 2)]) w1 aG3 hmo_x3 hA hd (by decide); rw [aw_bar] at h9; exact h9))) ?_
 rintro x4 hmo_x4
 refine Lp 2 [] (some [1,3,4,5,6,7,8,9]) n0 trivial ?_
 refine CfgL.done rfl ?_
 refine Cfg.begL rfl ?_
 refine Lp 1 [] none n0 trivial ?_
 refine Le (Eff.callH (vs := [.pointer (some ⟨m.d,0,none⟩),.slice none 0 0]) (fun _ : MX => .tuple #[]) (dO (aDk 3 (l64.set 5 (bk1 2)) []) m x4) (fun y => dO (aDk 3 (l64.set 5 (bk1 2)) []) m y) (fun y => MapOk y.1 y.2 (wv2 (aDk 3 (l64.set 5 (bk1 2)) []).wait)) [(b2,.cells (bv zb) 37 (0,0)),(b1,.cells (bv (bk1 1)) 37 (0,0))] [] rfl rfl Tryz.func163 rfl rfl kr (fun w1 h hA hd => (by have h9 := dCrash m x4 (aDk 3 (l64.set 5 (bk1 2)) []) none 0 [] [] w1 aG4 hmo_x4 hA hd (fun h => absurd h (by simp)) (Nat.zero_le _) (fun e he => by cases he) (fun e he => by cases he); rw [aw_crash0] at h9; exact h9))) ?_
 rintro x5 hmo_x5
 refine CfgL.done rfl ?_
 refine Cg (Γ' := [(9,[],.int .i64 0),(8,[],.int .i64 0),(7,[],.int .i64 0),(6,[],pT b2),(5,[],.int .i64 0),(4,[],pT b1),(3,[],.int .i64 0),(1,[],.pointer (some ⟨m.d,0,none⟩))]) ?_
 refine Cfg.begL rfl ?_
 refine Lp 30 [dZ,dZ,dZ,(1,false,none),(1,false,none),dZ,dZ,(1,false,none),(1,false,some (.int .u8 1)),(1,false,none),dZ,dZ,(1,false,none),(1,false,none),dZ,dZ,(1,false,none),(1,false,some (.int .u8 0)),(1,false,none),dZ,dZ,(1,false,none),(1,false,none),dZ,dZ,(1,false,none),(1,false,none),dZ,dZ,(1,false,none)] (some [70,71]) (fun S => [((.bool true : Value) = .bool true),((.bool true : Value) = .bool true),((.bool true : Value) = .bool true),(iL (0 : Int) 512),((.bool true : Value) = .bool true),(cE S b1 0 (.int .u8 1)),((.bool true : Value) = .bool true),((.bool true : Value) = .bool true),((.bool true : Value) = .bool true),((.bool true : Value) = .bool true),(iL (0 : Int) 512),((.bool true : Value) = .bool true),(cE S b2 0 (.int .u8 0)),((.bool true : Value) = .bool true),((.bool true : Value) = .bool true),((.bool true : Value) = .bool true),((.bool true : Value) = .bool true),((.bool true : Value) = .bool true),((.bool true : Value) = .bool true)]) ⟨rfl,rfl,rfl,om,rfl,(fun w1 h => h.ocell 1 rfl kr),rfl,rfl,rfl,rfl,om,rfl,(fun w1 h => h.ocell 0 rfl kr),rfl,rfl,rfl,rfl,rfl,rfl,trivial⟩ ?_
 refine Le (Eff.callA (vs := [.pointer (some ⟨m.d,0,none⟩),.int .i64 5]) (.agg (bv (bk1 2))) rfl Tryz.func95 rfl rfl kr (fun w1 h => (by have h9 := dLasts m x5 (aDk 3 (l64.set 5 (bk1 2)) []) 5 w1 aG4 hmo_x5 (mem_has h (List.Sublist.trans (List.sublist_append_left (dO (aDk 3 (l64.set 5 (bk1 2)) []) m x5) _) (List.sublist_append_right [(b2,Obj.cells (bv zb) 37 (0,0)),(b1,Obj.cells (bv (bk1 1)) 37 (0,0))] _))); rw [aL4] at h9; exact h9))) ?_
 rintro ⟨⟩ -
 refine Lp 4 [(1,false,some (.int .u8 2)),(1,false,none)] (some [0]) (fun _ => [((.bool true : Value) = .bool true),(iL (0 : Int) 512),(((bv (bk1 2)))[0]? = some (.int .u8 2)),((.bool true : Value) = .bool true)]) ⟨rfl,om,kr,rfl,trivial⟩ ?_
 refine CfgL.done rfl ?_
 refine Cfg.ret rfl (rs := [.tmp 0]) rfl [.bool true] ⟨kr,trivial⟩ (fun w1 hp => ?_)
 exact ⟨by simp [resOf],hp.ext⟩
end Go.Proofs.YtfgdepggdiibdaaGreatDoor
namespace Go.Proofs.YtfgdepggdiibdaaGreatDoor
open K
set_option linter.unusedVariables false
def digT : ByteArray := ⟨#[48,49,50,51,52,53,54,55,56,57,97,98,99,100,101,102]⟩
def hexD (n : Nat) : UInt8 := digT.data.toList.getD n 0
def hexL (l : List UInt8) : List UInt8 := l.flatMap fun b => [hexD (b.toNat / 16),hexD (b.toNat % 16)]
def hexS (l : List UInt8) : ByteArray := ⟨(hexL l).toArray⟩
def hexRow (l : List UInt8) (k : Nat) : List UInt8 := hexL (l.take k) ++ List.replicate (64 - 2 * k) 0
theorem hexL_len (l : List UInt8) : (hexL l).length = 2 * l.length := by
 induction l with
 | nil => rfl
 | cons x l ih => simp only [hexL,List.flatMap_cons,List.length_append,List.length_cons,List.length_nil] at *; omega
theorem hexRow_len {l : List UInt8} (hl : l.length = 32) {k : Nat} (hk : k ≤ 32) : (hexRow l k).length = 64 := by
 simp [hexRow,hexL_len]; omega
theorem hexRow_end {l : List UInt8} (hl : l.length = 32) : hexRow l 32 = hexL l := by
 simp [hexRow,List.take_of_length_le (show l.length ≤ 32 by omega)]
theorem byte_lt (b : UInt8) : b.toNat < 256 := UInt8.toNat_lt b
theorem set_two (A : List UInt8) (n : Nat) (x y : UInt8) (hn : 2 ≤ n) : ((A ++ List.replicate n 0).set A.length x).set (A.length + 1) y = A ++ [x,y] ++ List.replicate (n - 2) 0 := by
 obtain ⟨m,rfl⟩ : ∃ m,n = m + 2 := ⟨n - 2,by omega⟩
 simp [List.replicate_succ]
theorem u8_back (b : UInt8) : UInt8.ofNat ((b.toNat : Int)).toNat = b := by simp
theorem hexRow_step {l : List UInt8} (hl : l.length = 32) {k : Nat} (hk : k < 32) {x y : Int} (hx : x = ((hexD ((l.getD k 0).toNat / 16)).toNat : Int)) (hy : y = ((hexD ((l.getD k 0).toNat % 16)).toNat : Int)) :
  ((bv (hexRow l k)).setIfInBounds (2 * k) (.int .u8 x)).setIfInBounds (2 * k + 1) (.int .u8 y) = bv (hexRow l (k + 1)) := by
 subst hx hy
 have b1 := byte_lt (hexD ((l.getD k 0).toNat / 16))
 have b2 := byte_lt (hexD ((l.getD k 0).toNat % 16))
 rw [bv_set om om,bv_set om om,u8_back,u8_back]
 congr 1
 have hlen : (hexL (l.take k)).length = 2 * k := by rw [hexL_len]; simp; omega
 have ht : l.take (k + 1) = l.take k ++ [l.getD k 0] := by
  rw [List.take_succ_eq_append_getElem om]; simp [List.getElem?_eq_getElem (show k < l.length by omega)]
 have := set_two (hexL (l.take k)) (64 - 2 * k) (hexD ((l.getD k 0).toNat / 16)) (hexD ((l.getD k 0).toNat % 16)) om
 rw [hlen] at this
 unfold hexRow
 rw [this,ht]
 simp only [hexL,List.flatMap_append,List.flatMap_cons,List.flatMap_nil,List.append_nil]
 rw [show 64 - 2 * k - 2 = 64 - 2 * (k + 1) by omega]
theorem and15 (x : Nat) : x &&& 15 = x % 16 := Nat.and_two_pow_sub_one_eq_mod x 4
theorem hex_str {P : Program} {l : List UInt8} {w0 w : World} {M : List Nat} {R O : List (Nat × Obj)} {b k : Nat} {t : TypeId} (hl : l.length = 32) (hk : k = 32) (h : HP w0 M R O w) (ho : O[0]? = some (b,.cells (bv (hexRow l k)) t (0,0))) :
  (Conv.bytesToString (.slice (some ⟨b,0,none⟩) 64 64)).run P w = .ok (.string (hexS l)) w := by
 subst hk
 have hr := h.ostr (P := P) (c := 64) 0 ho (hexRow_len hl om)
 rw [hexRow_end hl] at hr; exact hr
set_option maxRecDepth 100000 in
theorem shaHex (l : List UInt8) (w : World) (hl : l.length = 32) :
  Calls Tryz.prog 162 #[.agg (bv l)] w fun e w' => e = .returned (.string (hexS l)) ∧ Ext [] w w' := by
 refine enter (vs := [.agg (bv l)]) [] [] [] Tryz.func162 rfl kr (HP.start w) ?_
 refine Cfg.begL rfl ?_
 refine Le (Eff.box (v := .agg (bv l)) rfl kr) ?_
 rintro d ⟨hd,nd⟩
 refine Lp 1 [] (some [1]) n0 trivial ?_
 refine CfgL.done rfl ?_
 refine Cfg.begL rfl ?_
 refine Le (Eff.alloc (z := (.agg (bv (List.replicate 64 0)))) rfl kr) ?_
 rintro t ⟨ht,nt⟩
 refine CfgL.done rfl ?_
 refine Rg [3,6,7] [(dS (.agg (bv l)))] (fun S => [(∀ w1,S w1 → (loadVar 226 ⟨d,0,none⟩).run Tryz.prog w1 = .ok (.agg (bv l)) w1)]) ⟨(fun w1 h => h.oload 1 rfl Tryz.underlying226 rfl (n := 32) kr ((bv_size l).trans hl)),trivial⟩ ?_
 refine Cfg.loop rfl (ι := Nat) (fun (k : Nat) => [(7,[],.int .i64 (k : Int)),(6,[],.agg (bv l)),(3,[],pT t)]) (fun (k : Nat) => [(t,.cells (bv (hexRow l k)) 272 (0,0)),(d,.cells (bv l) 226 (0,0))]) (fun (k : Nat) => (k ≤ 32)) (fun (k : Nat) => 32 - k) 0 ?_ (Conv.mk kr) slr ?_
 ·exact Nat.zero_le _
 ·rintro k hk
  refine Rg [3,6,7,8] [] n0 trivial ?_
  refine Cfg.cond rfl (b := (decide ((k : Int) < (32 : Int)))) kr (fun c1r => ?_) (fun c1r => ?_)
  ·have c1 := (dT c1r)
   refine Rg [3,4,5,6,7] [dZ,(dS (.int .u8 ((l.getD k 0).toNat : Int)))] (fun _ => [(iL (k : Int) 32),(((bv l))[k]? = some (.int .u8 ((l.getD k 0).toNat : Int)))]) ⟨(by have hb := byte_lt (l.getD k 0); have h15 := and15 (l.getD k 0).toNat; omega),(bv_get hl om),trivial⟩ ?_
   refine Cfg.begL rfl ?_
   refine Lp 6 [] (some [3,4,5,6,7,15,16]) (fun _ => [(i6 (2 * (k : Int))),(0 ≤ (4 : Int) ∧ 4 ≤ 8),(iL (((l.getD k 0).toNat : Int) / 16) 16),(iL (2 * (k : Int)) 64)]) ⟨(by have hb := byte_lt (l.getD k 0); have h15 := and15 (l.getD k 0).toNat; omega),(by have hb := byte_lt (l.getD k 0); have h15 := and15 (l.getD k 0).toNat; omega),(by have hb := byte_lt (l.getD k 0); have h15 := and15 (l.getD k 0).toNat; omega),(by have hb := byte_lt (l.getD k 0); have h15 := and15 (l.getD k 0).toNat; omega),trivial⟩ ?_
   refine Le (Eff.store1 (b := t) (off := (2 * k)) (v := .int .u8 (sbyte ⟨#[48,49,50,51,52,53,54,55,56,57,97,98,99,100,101,102]⟩ (((l.getD k 0).toNat : Int) / 16))) rfl kr kr rfl kr 0 (cs := (bv (hexRow l k))) (e := 272) kr (by simp [bv_size,hexRow_len hl (show k ≤ 32 by omega)]; omega)) ?_
   rintro ⟨⟩ -
   refine CfgL.done rfl ?_
   refine Cg (Γ' := [(5,[],.int .u8 ((l.getD k 0).toNat : Int)),(4,[],.int .i64 (k : Int)),(7,[],.int .i64 (k : Int)),(6,[],.agg (bv l)),(3,[],pT t)]) ?_
   refine Cfg.begL rfl ?_
   refine Lp 7 [] (some [3,6,7,22,23]) (fun _ => [(i6 (2 * (k : Int))),(i6 ((2 * (k : Int)) + 1)),((0 ≤ ((l.getD k 0).toNat : Int) ∧ ((l.getD k 0).toNat : Int) ≤ 255) ∧ 0 ≤ (15 : Int) ∧ (15 : Int) ≤ 255),(iL ((((l.getD k 0).toNat) &&& 15 : Nat) : Int) 16),(iL ((2 * (k : Int)) + 1) 64)]) ⟨(by have hb := byte_lt (l.getD k 0); have h15 := and15 (l.getD k 0).toNat; omega),(by have hb := byte_lt (l.getD k 0); have h15 := and15 (l.getD k 0).toNat; omega),(by have hb := byte_lt (l.getD k 0); have h15 := and15 (l.getD k 0).toNat; omega),(by have hb := byte_lt (l.getD k 0); have h15 := and15 (l.getD k 0).toNat; omega),(by have hb := byte_lt (l.getD k 0); have h15 := and15 (l.getD k 0).toNat; omega),trivial⟩ ?_
   refine Le (Eff.store1 (b := t) (off := ((2 * k) + 1)) (v := .int .u8 (sbyte ⟨#[48,49,50,51,52,53,54,55,56,57,97,98,99,100,101,102]⟩ ((((l.getD k 0).toNat) &&& 15 : Nat) : Int))) rfl kr kr rfl kr 0 (cs := ((bv (hexRow l k)).setIfInBounds (2 * k) (.int .u8 (sbyte ⟨#[48,49,50,51,52,53,54,55,56,57,97,98,99,100,101,102]⟩ (((l.getD k 0).toNat : Int) / 16))))) (e := 272) kr (by simp [bv_size,hexRow_len hl (show k ≤ 32 by omega)]; omega)) ?_
   rintro ⟨⟩ -
   refine CfgL.done rfl ?_
   refine Cg (Γ' := [(7,[],.int .i64 (k : Int)),(6,[],.agg (bv l)),(3,[],pT t)]) ?_
   refine Rg [3,6,7] [] (fun _ => [(i6 ((k : Int) + 1))]) ⟨(by have hb := byte_lt (l.getD k 0); have h15 := and15 (l.getD k 0).toNat; omega),trivial⟩ ?_
   refine Cfg.setO (congrArg (fun (xq : Array Value) => ([(t,.cells xq 272 (0,0)),(d,.cells (bv l) 226 (0,0))] : LO)) (show _ = (bv (hexRow l (k + 1))) from hexRow_step hl om rfl (by rw [and15]; rfl))) ?_
   refine Cfg.again rfl (k + 1) (show k + 1 ≤ 32 by omega) om (Conv.mk kr) (.cons_cons _ (.cons_cons _ .slnil))
  ·have c1 := (dF c1r)
   refine Rg [2] [dZ,(dS (.string (hexS l)))] (fun S => [(64 ≤ 64),(∀ w1,S w1 → (Conv.bytesToString (.slice (some ⟨t,0,none⟩) 64 64)).run Tryz.prog w1 = .ok (.string (hexS l)) w1)]) ⟨(by have hb := byte_lt (l.getD k 0); have h15 := and15 (l.getD k 0).toNat; omega),(fun w1 h => hex_str hl om h rfl),trivial⟩ ?_
   refine Cfg.ret rfl (rs := [.tmp 2]) rfl [.string (hexS l)] ⟨kr,trivial⟩ (fun w1 hp => ?_)
   exact ⟨rfl,hp.ext⟩
end Go.Proofs.YtfgdepggdiibdaaGreatDoor
namespace Go.Proofs.YtfgdepggdiibdaaGreatDoor
open K
set_option linter.unusedVariables false
def abcD : List UInt8 := [186,120,22,191,143,1,207,234,65,65,64,222,93,174,34,35,176,3,97,163,150,23,122,156,180,16,255,97,242,0,21,173]
set_option maxRecDepth 100000 in
theorem shaD_abc : shaD (scat [⟨#[97,98,99]⟩]) = abcD := by kernel_rfl
theorem sinS_lit (bk : Nat) (t : TypeId) (fr : Nat × Nat) (ss : List ByteArray) : InS [(bk,.cells (ss.map Value.string).toArray t fr)] (some ⟨bk,0,none⟩) ss.length (fun j => .string (ssat ss j)) := by
 intro _
 refine ⟨bk,0,_,t,fr,rfl,List.mem_singleton.2 rfl,fun j hj => ?_⟩
 rw [Nat.zero_add]
 simp [ssat,List.getElem?_eq_getElem hj]
theorem has_two {w w0 : World} {M : List Nat} {R O : List (Nat × Obj)} (h : HP w0 M R O w) {x y : Nat × Obj} (hx : x ∈ R) (hy : y ∈ O) : Has w (x :: [y]) := by
 intro e he
 rcases List.mem_cons.1 he with rfl | he
 ·exact h.ro _ hx
 ·rw [List.mem_singleton.1 he]; exact h.own _ hy
set_option maxRecDepth 100000 in
theorem shaAwake {t0 : TypeId} {fr0 : Nat × Nat} (w : World) (hR : Has w [(1,.cells (wv Kc) t0 fr0)]) :
  Calls Tryz.prog 130 #[] w fun e w' => e = .returned (.bool true) ∧ Ext [] w w' := by
 have hK : KT (wv Kc) := fun t h => kget h
 refine enter (vs := []) [] [(1,.cells (wv Kc) t0 fr0)] [] Tryz.func130 rfl kr (HP.ofHas hR) ?_
 refine Rg [] [] n0 trivial ?_
 refine Cfg.begL rfl ?_
 refine Le (Eff.buildSlice (e := 9) (cells := #[.string ⟨#[97,98,99]⟩]) (parts := #[(0,.string ⟨#[97,98,99]⟩)]) rfl kr (fun _ => kr)) ?_
 rintro bs ⟨hbs,nbs⟩
 refine Le (Eff.callA (vs := [.slice (some ⟨bs,0,none⟩) 1 1]) (.agg (bv abcD)) rfl Tryz.func136 rfl rfl kr (fun w1 h => shaD_abc ▸ shaSum (some ⟨bs,0,none⟩) 1 [⟨#[97,98,99]⟩] [(bs,.cells (List.map Value.string [⟨#[97,98,99]⟩]).toArray 9 (0,0))] w1 (sinS_lit bs 9 (0,0) [⟨#[97,98,99]⟩]) (Nat.le_of_ble_eq_true rfl) (has_two h mH (mG 0 rfl)))) ?_
 rintro ⟨⟩ -
 refine Le (Eff.alloc (z := (.agg (bv (List.replicate 32 0)))) rfl kr) ?_
 rintro d ⟨hd,nd⟩
 refine Le (Eff.storeN (b := d) (off := 0) (vs := (bv abcD)) (n := 32) rfl kr kr kr rfl (all_bv _) 0 (cs := (bv (List.replicate 32 0))) (e := 226) kr (Nat.le_refl 32)) ?_
 rintro ⟨⟩ -
 refine CfgL.setO (congrArg (fun (xq : Array Value) => ([(d,.cells xq 226 (0,0)),(bs,.cells #[.string ⟨#[97,98,99]⟩] 9 (0,0))] : LO)) (show _ = (bv abcD) from spl_all rfl)) ?_
 refine CfgL.done rfl ?_
 refine Cg (Γ' := [(1,[],pT d)]) ?_
 refine Cfg.begL rfl ?_
 refine Lp 20 [dZ,(dS (.int .u8 186)),dZ,dZ,(1,false,none),(1,false,some (.int .u8 120)),(1,false,none),dZ,dZ,(1,false,none),(1,false,some (.int .u8 22)),(1,false,none),dZ,dZ,(1,false,none),(1,false,some (.int .u8 191)),(1,false,none),dZ,dZ,(1,false,some (.agg (bv abcD)))] (some [22,23]) (fun S => [(iL (0 : Int) 32),(cE S d 0 (.int .u8 186)),((.bool true : Value) = .bool true),(iL (1 : Int) 32),((.bool true : Value) = .bool true),(cE S d 1 (.int .u8 120)),((.bool true : Value) = .bool true),((.bool true : Value) = .bool true),(iL (2 : Int) 32),((.bool true : Value) = .bool true),(cE S d 2 (.int .u8 22)),((.bool true : Value) = .bool true),((.bool true : Value) = .bool true),(iL (3 : Int) 32),((.bool true : Value) = .bool true),(cE S d 3 (.int .u8 191)),((.bool true : Value) = .bool true),((.bool true : Value) = .bool true),(∀ w1,S w1 → (loadVar 226 ⟨d,0,none⟩).run Tryz.prog w1 = .ok (.agg (bv abcD)) w1)]) ⟨om,(oC 0 rfl rfl),rfl,om,rfl,(oC 0 rfl rfl),rfl,rfl,om,rfl,(oC 0 rfl rfl),rfl,rfl,om,rfl,(oC 0 rfl rfl),rfl,rfl,(fun w1 h => h.oload 0 rfl Tryz.underlying226 rfl (n := 32) kr ((bv_size _).trans rfl)),trivial⟩ ?_
 refine Le (Eff.callA (vs := [.agg (bv abcD)]) (.string (hexS abcD)) rfl Tryz.func162 rfl rfl kr (fun w1 h => shaHex abcD w1 rfl)) ?_
 rintro ⟨⟩ -
 refine Lp 4 [(1,false,none),(1,false,none)] (some [0]) (fun _ => [((.bool true : Value) = .bool true),((.bool true : Value) = .bool true)]) ⟨rfl,rfl,trivial⟩ ?_
 refine CfgL.done rfl ?_
 refine Cfg.ret rfl (rs := [.tmp 0]) rfl [.bool (((hexS abcD).size : Int) == (64 : Int))] ⟨kr,trivial⟩ (fun w1 hp => ?_)
 exact ⟨congrArg (fun b => Ending.returned (.bool b)) kr,hp.ext⟩
end Go.Proofs.YtfgdepggdiibdaaGreatDoor
