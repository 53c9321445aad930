/- Texts on which the proof of this claim stands: LayD, DgS, Dg7, K24, K25, IS, IR, RunAwk, Dg9, DgO. -/
import Derived.Test.YtinhinjpfmdfiaaGreatDoorChecked
import Derived.Shelf.SlSortCmp.NoneTotal
import Derived.Ground.SlsfProg
import Derived.Test.YtinhinjpfmdfiaaGreatDoorP4
import Derived.Test.YtinhinjpfmdfiaaGreatDoorP3
import Derived.Test.YtinhinjpfmdfiaaGreatDoorP2
import Derived.Test.YtinhinjpfmdfiaaGreatDoorP1
import Derived.Test.YtinhinjpfmdfiaaGreatDoorP6
import Derived.Lib.SlKeysI
import Derived.Below
import Derived.Lib.Repeat
import Derived.Test.YtinhinjpfmdfiaaGreatDoorP7
namespace Go.Proofs.YtinhinjpfmdfiaaGreatDoor
open Go.Shelf Go.Proofs
def L.sortD_ren : Go.Shelf.Ren := ⟨fun | 6 => 17 | 15 => 30 | 14 => 29 | 28 => 55 | 29 => 56 | 20 => 47 | 21 => 48 | 22 => 49 | 23 => 50 | 24 => 51 | 25 => 52 | 26 => 53 | 27 => 54 | 46 => 95 | 47 => 96 | 48 => 97 | 49 => 98 | 50 => 99 | 57 => 135 | n => n,fun | 22 => 31 | 24 => 35 | 25 => 77 | 3 => 3 | 39 => 91 | 0 => 0 | 53 => 102 | 55 => 26 | 4 => 4 | 46 => 111 | 45 => 110 | 50 => 115 | 5 => 5 | 9 => 9 | 66 => 153 | 70 => 156 | 76 => 194 | 77 => 195 | n => n,fun | n => n⟩
theorem L.sortD : Go.Proofs.SlLaysF0.n6 Tryz.prog L.sortD_ren := {
 mixed := by kernel_rfl,
 f6 := ⟨Tryz.f17.name,by decide,Tryz.func17.trans (congrArg some kr)⟩,
 f14 := ⟨Tryz.f29.name,by decide,Tryz.func29.trans (congrArg some kr)⟩,
 f15 := Tryz.func30.trans (congrArg some kr),
 f20 := ⟨Tryz.f47.name,by decide,Tryz.func47.trans (congrArg some kr)⟩,
 f21 := ⟨Tryz.f48.name,by decide,Tryz.func48.trans (congrArg some kr)⟩,
 f22 := ⟨Tryz.f49.name,by decide,Tryz.func49.trans (congrArg some kr)⟩,
 f23 := ⟨Tryz.f50.name,by decide,Tryz.func50.trans (congrArg some kr)⟩,
 f24 := ⟨Tryz.f51.name,by decide,Tryz.func51.trans (congrArg some kr)⟩,
 f25 := ⟨Tryz.f52.name,by decide,Tryz.func52.trans (congrArg some kr)⟩,
 f26 := ⟨Tryz.f53.name,by decide,Tryz.func53.trans (congrArg some kr)⟩,
 f27 := ⟨Tryz.f54.name,by decide,Tryz.func54.trans (congrArg some kr)⟩,
 f28 := Tryz.func55.trans (congrArg some kr),
 f29 := Tryz.func56.trans (congrArg some kr),
 f46 := ⟨Tryz.f95.name,by decide,Tryz.func95.trans (congrArg some kr)⟩,
 f47 := Tryz.func96.trans (congrArg some kr),
 f48 := Tryz.func97.trans (congrArg some kr),
 f49 := ⟨Tryz.f98.name,by decide,Tryz.func98.trans (congrArg some kr)⟩,
 f50 := ⟨Tryz.f99.name,by decide,Tryz.func99.trans (congrArg some kr)⟩,
 f57 := ⟨Tryz.f135.name,by decide,Tryz.func135.trans (congrArg some kr)⟩,
 t0 := Tryz.underlying0,
 a0 := Tryz.isAgg0,
 z0 := Tryz.sizeOf0,
 v0 := Tryz.zeroValue0,
 t3 := Tryz.underlying3,
 a3 := Tryz.isAgg3,
 z3 := Tryz.sizeOf3,
 v3 := Tryz.zeroValue3,
 t4 := Tryz.underlying4,
 a4 := Tryz.isAgg4,
 z4 := Tryz.sizeOf4,
 v4 := Tryz.zeroValue4,
 t5 := Tryz.underlying5,
 a5 := Tryz.isAgg5,
 z5 := Tryz.sizeOf5,
 v5 := Tryz.zeroValue5,
 t9 := Tryz.underlying9,
 a9 := Tryz.isAgg9,
 z9 := Tryz.sizeOf9,
 v9 := Tryz.zeroValue9,
 t22 := Tryz.underlying31,
 a22 := Tryz.isAgg31,
 z22 := Tryz.sizeOf31,
 v22 := Tryz.zeroValue31,
 t25 := Tryz.underlying77,
 a25 := Tryz.isAgg77,
 z25 := Tryz.sizeOf77,
 v25 := Tryz.zeroValue77,
 t39 := Tryz.underlying91,
 a39 := Tryz.isAgg91,
 z39 := Tryz.sizeOf91,
 v39 := Tryz.zeroValue91,
 t45 := Tryz.underlying110,
 a45 := Tryz.isAgg110,
 z45 := Tryz.sizeOf110,
 v45 := Tryz.zeroValue110,
 t46 := Tryz.underlying111,
 a46 := Tryz.isAgg111,
 z46 := Tryz.sizeOf111,
 v46 := Tryz.zeroValue111,
 t50 := Tryz.underlying115,
 a50 := Tryz.isAgg115,
 z50 := Tryz.sizeOf115,
 v50 := Tryz.zeroValue115,
 t53 := Tryz.underlying102,
 a53 := Tryz.isAgg102,
 z53 := Tryz.sizeOf102,
 v53 := Tryz.zeroValue102,
 t55 := Tryz.underlying26,
 a55 := Tryz.isAgg26,
 z55 := Tryz.sizeOf26,
 v55 := Tryz.zeroValue26,
 t66 := Tryz.underlying153,
 a66 := Tryz.isAgg153,
 z66 := Tryz.sizeOf153,
 v66 := Tryz.zeroValue153,
 t70 := Tryz.underlying156,
 a70 := Tryz.isAgg156,
 z70 := Tryz.sizeOf156,
 v70 := Tryz.zeroValue156,
 t76 := Tryz.underlying194,
 a76 := Tryz.isAgg194,
 z76 := Tryz.sizeOf194,
 v76 := Tryz.zeroValue194,
 t77 := Tryz.underlying195,
 a77 := Tryz.isAgg195,
 z77 := Tryz.sizeOf195,
 v77 := Tryz.zeroValue195 }
end Go.Proofs.YtinhinjpfmdfiaaGreatDoor
namespace Go.Proofs.YtinhinjpfmdfiaaGreatDoor
open Go.Shelf Go.RowKit Go.Lib Go.Sort K
set_option maxRecDepth 100000
instance : Inhabited Dg := ⟨dgz⟩
def cfD (x y : Dg) : Int := KD.cfL x.1 y.1
theorem cmpL_val {a b : List UInt8} (h : a.length = b.length) : K.cmpL a b = if I.val a < I.val b then -1 else if I.val a = I.val b then 0 else 1 := I.cmp_val a b h
theorem cfL_lt {a b : List UInt8} (h : a.length = b.length) : KD.cfL a b < 0 ↔ I.val a < I.val b := by
 unfold KD.cfL
 rw [cmpL_val h,cmpL_val h.symm]
 by_cases h1 : I.val a < I.val b
 ·simp [h1]
 ·rw [if_neg h1]
  by_cases h2 : I.val a = I.val b
  ·simp [h2]
  ·have h3 : I.val b < I.val a := by omega
   simp [h1,h2,h3]
theorem lt_cfD (x y : Dg) : ltOf cfD x y = dlt x y := by
 unfold ltOf cfD dlt
 rw [decide_eq_decide]
 exact cfL_lt (x.2.trans y.2.symm)
theorem swoD : SWO (ltOf cfD) where
 irrefl x := by rw [lt_cfD]; simp [dlt]
 trans x y z h1 h2 := by rw [lt_cfD] at *; simp [dlt] at *; omega
 ntrans x y z h1 h2 := by rw [lt_cfD] at *; simp [dlt] at *; omega
theorem totD (x y : Dg) (h1 : ltOf cfD x y = false) (h2 : ltOf cfD y x = false) : x = y := by
 rw [lt_cfD] at h1 h2; exact dlt_total h1 h2
theorem geD : (fun x y : Dg => !ltOf cfD y x) = fun x y => !dlt y x := by
 funext x y; rw [lt_cfD]
theorem flatK_list (l : List Dg) : flatK dgd 32 l.toArray = (l.flatMap dgd).toArray := by
 refine ext_get! (by rw [size_flatK,List.size_toArray,List.size_toArray,flat_dgd]) fun t ht => ?_
 have ht' : t < l.length * 32 := by simpa using ht
 have hi : t / 32 < l.length := by omega
 rw [get_flatK _ _ _ t (by simpa using ht')]
 have h := flat_get dgd 32 (l := l) (fun x _ => dgd_len x) hi (j := t % 32) om
 rw [show t / 32 * 32 + t % 32 = t by omega] at h
 have e1 : l.toArray[t / 32]! = l[t / 32] := by simp [hi]
 rw [e1]
 simp only [List.getElem!_toArray,List.getElem!_eq_getElem?_getD]
 rw [h]
theorem putCells_list {F B J : List Value} (h : B.length = F.length) : putCells id 0 F.toArray (B ++ J).toArray = (F ++ J).toArray := by
 apply Array.ext_getElem?
 intro k
 unfold putCells
 simp only [List.mapIdx_toArray,List.getElem?_toArray,List.getElem?_mapIdx,List.size_toArray,Nat.zero_le,true_and,Nat.zero_add,Nat.sub_zero,id]
 by_cases hk : k < F.length
 ·rw [List.getElem?_append_left om,List.getElem?_append_left hk,List.getElem?_eq_getElem (by omega : k < B.length),List.getElem?_eq_getElem hk]
  simp [hk]
 ·rw [List.getElem?_append_right om,List.getElem?_append_right om,h]
  cases J[k - F.length]? with
  | none => rfl
  | some v => simp [hk]
theorem grown_of {w w' : World} (h : KD.Ext [] w w') : ∃ q os',w' = grow (w.drewN q) os' := by
 refine ⟨w'.drawn - w.drawn,w'.heap.extract w.heap.size w'.heap.size,?_⟩
 obtain ⟨h1,h2,h3,h4,h5,h6⟩ := h
 cases w with
 | mk hp tp dr os out =>
  cases w' with
  | mk hp' tp' dr' os' out' =>
   simp only at h1 h2 h3 h4 h5 h6 ⊢
   subst h1 h2 h3
   simp only [grow,World.drewN,World.mk.injEq,true_and,and_true]
   refine ⟨?_,by omega⟩
   apply Array.ext_getElem?
   intro k
   by_cases hk : k < hp.size
   ·rw [h5 k hk (by simp),Array.getElem?_append_left hk]
   ·rw [Array.getElem?_append_right om]
    simp only [Array.getElem?_extract]
    by_cases h7 : k < hp'.size
    ·rw [if_pos om]
     congr 1; omega
    ·rw [if_neg om,Array.getElem?_eq_none om]
theorem cmpLays (b size : Nat) (w : World) : CmpLays Tryz.prog 18 #[] dgd 32 cfD b 0 size w := fun m os dk _ x y => by
 have h := KD.dCompare x.1 y.1 (sortWorldK dgd 32 w b 0 m dk os) x.2 y.2
 have e : ∀ d : Dg,(dgd d).toArray = bv d.1 := fun d => by simp [dgd,dgc]
 rw [e,e,Array.append_empty]
 exact h.mono fun _ _ ⟨h1,h2⟩ => ⟨h1,grown_of h2⟩
theorem dSort (ln mb : Nat) (x : MX2) (ow : K.Own) (all : List Dg) (w : World) (hok : OwnOk ow 32 all.length (all.flatMap dgd)) (hA : Has w (lO ln mb x ow all)) (hd : ((lO ln mb x ow all).map (·.1)).Nodup) (h0 : 0 < all.length) (hn : all.length ≤ 1000000) :
  Calls Tryz.prog 17 #[.slice (Own.a ow) all.length (Own.c ow),.func (.func 18) #[] #[]] w fun e w' => e = .returned (.tuple #[]) ∧ ∃ R1,HP w ((lO ln mb x ow all).map (·.1)) R1 (lO ln mb x ow (dsrt all)) w' := by
 obtain ⟨⟨b,cap,junk⟩,rfl⟩ := own_some hok h0
 have hb : w.heap[b]? = some (.cells (all.flatMap dgd ++ junk).toArray 35 (0,0)) := hA (b,.cells (all.flatMap dgd ++ junk).toArray 35 (0,0)) (by simp [lO,Own.o])
 have hlt : b < w.heap.size := lt_of_get hb
 have hH : HoldsK dgd 32 w b 0 all.toArray := by
  intro j hj
  rw [flatK_list] at hj ⊢
  have hj2 : j < (all.flatMap dgd).length := by simpa using hj
  refine ⟨?_,?_⟩
  ·simp only [World.cell?,hb,Nat.zero_add]
   simp only [Option.isSome_none,Bool.false_eq_true,if_false,List.getElem?_toArray,id,List.getElem!_toArray,List.getElem!_eq_getElem?_getD]
   rw [List.getElem?_append_left hj2,List.getElem?_eq_getElem hj2]; rfl
  ·simp [World.frozen?,hb]
 have eg : ∀ args w,(callFunc 18 args).run Tryz.prog w = .ok (.enter 18 args) w := enters_of Tryz.func18 kr rfl
 have hS := AnyQ.slices_SortFunc_total (α := Dg) L.sortD 32 Tryz.isAgg35 Tryz.sizeOf35 dgd dgd_len (fun x v hv => (all_dgd x v hv)) cfD swoD 18 #[] b 0 cap all.toArray w eg (cmpLays b _ w) hH hlt (by simp; omega) totD
 rw [geD] at hS
 refine hS.mono ?_
 rintro e w' ⟨rfl,n,os,rfl⟩
 refine ⟨rfl,[],?_⟩
 have hs : (all.toArray.toList.mergeSort fun x y => !dlt y x) = dsrt all := rfl
 rw [hs]
 have hheap : ∀ k,k < w.heap.size → (sortWorldK dgd 32 w b 0 n (dsrt all).toArray os).heap[k]? = if b = k then some (.cells ((dsrt all).flatMap dgd ++ junk).toArray 35 (0,0)) else w.heap[k]? := by
  intro k hk
  unfold sortWorldK putRowK
  rw [heap_grow_old _ _ (by simpa using hk),flatK_list]
  show (w.heap.modify b _)[k]? = _
  rw [Array.getElem?_modify]
  by_cases hbk : b = k
  ·subst hbk
   rw [if_pos rfl,if_pos rfl,hb]
   simp only [Option.map_some,onCells]
   rw [putCells_list (by rw [flat_dgd,flat_dgd,dsrt_len])]
  ·rw [if_neg hbk,if_neg hbk]
 have hdist : (((lO ln mb x (some (b,cap,junk)) (dsrt all))).map (·.1)).Nodup := hd
 have hnb : ln ≠ b ∧ mb ≠ b := by
  simp only [lO,Own.o,List.map_append,List.map_cons,List.map_nil,List.nodup_append,List.nodup_cons,List.mem_cons,List.not_mem_nil,or_false] at hd
  refine ⟨fun h => ?_,fun h => ?_⟩
  ·exact hd.2.2 ln (.inl rfl) b rfl h
  ·exact hd.2.2 mb (.inr rfl) b rfl h
 refine ⟨⟨rfl,rfl,rfl,?_,fun k hk hn => ?_⟩,(fun e he => by cases he),(fun e he => by cases he),?_,hdist,fun e he => .inr (List.mem_map.2 ⟨e,he,rfl⟩ : e.1 ∈ (lO ln mb x (some (b,cap,junk)) (dsrt all)).map (·.1))⟩
 ·show _ ≤ (grow _ _).heap.size
  rw [size_grow]
  show w.heap.size ≤ (w.heap.modify b _).size + _
  simp
 ·rw [hheap k hk,if_neg]
  rintro rfl
  exact hn (by simp [lO,Own.o])
 ·intro e he
  have hlen := dsrt_len all
  simp only [lO,Own.o,List.mem_append,List.mem_cons,List.not_mem_nil,or_false] at he
  have hl := hA (ln,.cells (lC mb (some (b,cap,junk)) all) 70 (0,0)) (by simp [lO])
  have hm := hA (mb,.map x.1 x.2) (by simp [lO])
  rcases he with (rfl | rfl) | rfl
  ·rw [hheap _ (lt_of_get hl),if_neg (Ne.symm hnb.1),hl]; simp only [lC,hlen]
  ·rw [hheap _ (lt_of_get hm),if_neg (Ne.symm hnb.2),hm]
  ·rw [hheap _ hlt,if_pos rfl]
end Go.Proofs.YtinhinjpfmdfiaaGreatDoor
namespace Go.Proofs.YtinhinjpfmdfiaaGreatDoor
open K
set_option linter.unusedVariables false
theorem stp_found {T : List Th} {first : List Dg} {k : Nat} (hk : k < (stp (gOf T) (askL [] first) k).length) : stp (gOf T) (askL [] first) (k + 1) = askL (stp (gOf T) (askL [] first) k) (gOf T ((stp (gOf T) (askL [] first) k).getD k dgz)) := by
 refine stp_step ?_
 rw [List.getD_eq_getElem?_getD,List.getElem?_eq_getElem hk]; rfl
theorem sub_tl (F A B : List (Nat × Obj)) : (F ++ (A ++ [])).Sublist (F ++ (A ++ B)) := List.Sublist.append (List.Sublist.refl F) (List.Sublist.append (List.Sublist.refl A) (List.nil_sublist B))
theorem stp_pos {G : Dg → List Dg} {first : List Dg} (h : first ≠ []) (k : Nat) : 0 < (stp G (askL [] first) k).length := by
 obtain ⟨d,l,rfl⟩ := List.exists_cons_of_ne_nil h
 have h1 := stp_mem (G := G) (all := askL [] (d :: l)) (k := 0) ((mem_askL (d :: l) []).2 (.inr (List.mem_cons_self ..))) k
 rw [Nat.zero_add] at h1
 exact List.length_pos_of_mem h1
theorem apart_of {A B C : List (Nat × Obj)} (h : ((A ++ (B ++ C)).map (·.1)).Nodup) : ∀ e ∈ C,e.1 ∉ B.map (·.1) := by
 intro e he hm
 rw [List.map_append,List.map_append] at h
 have h2 := (List.nodup_append.1 h).2.1
 exact (List.nodup_append.1 h2).2.2 _ hm _ (List.mem_map.2 ⟨e,he,rfl⟩) rfl
set_option maxRecDepth 100000 in
set_option maxHeartbeats 4000000 in
theorem dReach (la : Option Addr) (ca : Nat) (T : List Th) (fa : Option Addr) (fc : Nat) (first : List Dg) (Rl : List (Nat × Obj)) (w : World) (hTI : InF thc 104 Rl la T) (hT : ThsOk Rl T) (hFI : InF dgd 32 Rl fa first) (hR : Has w Rl) (hTn : T.length ≤ maxLen) (hfn : first.length ≤ 1000) (hf0 : first ≠ []) (hB : ∀ k,(stp (gOf T) (askL [] first) k).length ≤ 1000) (hF : ∀ k,∀ d ∈ stp (gOf T) (askL [] first) k,∃ t,tfind d.1 T = some t) (hL : ∀ t ∈ T,(lk t.o).length ≤ 1000) :
  Calls Tryz.prog 7 #[.iface 30 (.slice la T.length ca),.slice fa first.length fc] w fun e w' => ∃ (Kn : Nat) (ow : K.Own),(∀ k,k < Kn → k < (stp (gOf T) (askL [] first) k).length) ∧ (stp (gOf T) (askL [] first) Kn).length ≤ Kn ∧ OwnOk ow 32 (stp (gOf T) (askL [] first) Kn).length ((dsrt (stp (gOf T) (askL [] first) Kn)).flatMap dgd) ∧ e = .returned (.tuple #[.slice (Own.a ow) (stp (gOf T) (askL [] first) Kn).length (Own.c ow),.int .i64 0]) ∧ ∃ R1,HP w [] R1 (Own.o 35 ((dsrt (stp (gOf T) (askL [] first) Kn)).flatMap dgd) ow) w' := by
 refine enter (vs := [.iface 30 (.slice la T.length ca),.slice fa first.length fc]) [] Rl [] Tryz.func7 rfl kr (HP.ofHas hR) ?_
 refine Rg [0,1] [] n0 trivial ?_
 refine Cfg.begL rfl ?_
 refine Lp 1 [] (some [0,10]) n0 trivial ?_
 refine Le (Eff.callH (vs := [.slice fa first.length fc]) (fun xl : Nat × Nat × MX2 × K.Own => .pointer (some ⟨xl.1,0,none⟩)) [] (fun xl => lO xl.1 xl.2.1 xl.2.2.1 xl.2.2.2 (askL [] first)) (fun xl => OwnOk xl.2.2.2 32 (askL [] first).length ((askL [] first).flatMap dgd) ∧ DMapOk 32 xl.2.2.1.1 xl.2.2.1.2 (lw (askL [] first) 0)) [] [] rfl rfl Tryz.func14 rfl rfl kr (fun w1 h _ _ => (lNew fa fc first Rl w1 hFI (h.hasR (fun e he => he)) om).mono fun _ _ ⟨l1,l2,x2,ow2,a1,a2,a3,a4⟩ => ⟨(l1,l2,x2,ow2),⟨a1,a2⟩,a3,a4⟩)) ?_
 rintro ⟨ln,mb,x0,ow0⟩ ⟨hok0,hm0⟩
 refine Lp 1 [] (some [0,6]) n0 trivial ?_
 refine CfgL.done rfl ?_
 refine Rg [0,6,7] [] n0 trivial ?_
 refine Cfg.loop rfl (ι := Nat × MX2 × K.Own) (fun (xz : Nat × MX2 × K.Own) => match xz with | (k,x,ow) => [(7,[],.int .i64 (k : Int)),(6,[],.pointer (some ⟨ln,0,none⟩)),(0,[],.iface 30 (.slice la T.length ca))]) (fun (xz : Nat × MX2 × K.Own) => match xz with | (k,x,ow) => ([] ++ (lO ln mb x ow (stp (gOf T) (askL [] first) k) ++ []))) (fun (xz : Nat × MX2 × K.Own) => match xz with | (k,x,ow) => (∀ j,j < k → j < (stp (gOf T) (askL [] first) j).length) ∧ (k ≤ (stp (gOf T) (askL [] first) k).length) ∧ (OwnOk ow 32 (stp (gOf T) (askL [] first) k).length ((stp (gOf T) (askL [] first) k).flatMap dgd)) ∧ (DMapOk 32 x.1 x.2 (lw (stp (gOf T) (askL [] first) k) 0))) (fun (xz : Nat × MX2 × K.Own) => match xz with | (k,x,ow) => 1000 - k) (0,x0,ow0) ?_ (Conv.mk kr) (List.Sublist.refl _) ?_
 ·exact ⟨fun j h => absurd h (Nat.not_lt_zero j),Nat.zero_le _,hok0,hm0⟩
 ·rintro ⟨k,x,ow⟩ ⟨hk,hkl,hok,hm⟩
  have hBk := hB k
  refine Rg [0,6,7,18] [dZ,dZ,dZ,dZ,(0,false,some (.slice (Own.a ow) ((stp (gOf T) (askL [] first) k).length) (Own.c ow)))] (fun S => [(∀ w1,S w1 → w1.cell? ⟨ln,1,none⟩ = some (.slice (Own.a ow) ((stp (gOf T) (askL [] first) k).length) (Own.c ow)))]) ⟨(fun w1 h => (cell_cells (h.own (ln,Obj.cells (lC mb ow (stp (gOf T) (askL [] first) k)) 70 (0,0)) (by simp [lO]))).trans rfl),trivial⟩ ?_
  refine Cfg.cond rfl (b := (decide ((k : Int) < ((stp (gOf T) (askL [] first) k).length : Int)))) kr (fun c1r => ?_) (fun c1r => ?_)
  ·have c1 := (of_decide_eq_true c1r)
   obtain ⟨sb,offb,csb,teb,freb,hab,hmb,hcb⟩ := own_inf (e := 35) hok om
   obtain ⟨t1,ht1⟩ := hF k ((stp (gOf T) (askL [] first) k).getD k dgz) (getD_mem om)
   refine Cfg.begA rfl kr ([] ++ (lO ln mb x ow (stp (gOf T) (askL [] first) k) ++ [])) ?_
   refine Ap [0,1,2,3,4,5,6,7] [dZ,dZ,dZ,dZ,(0,false,some (.slice (some ⟨sb,offb,none⟩) (stp (gOf T) (askL [] first) k).length (Own.c ow))),dZ,dZ,(0,false,some (.agg (bv ((stp (gOf T) (askL [] first) k).getD k dgz).1)))] (some [0,6,7,22,29]) #[true,true,true,true,true,true,true,true,false,false,false,false,false,false,false,false,false,false] (List.Sublist.refl _) 10 (fun S => [(∀ w1,S w1 → w1.cell? ⟨ln,1,none⟩ = some (.slice (some ⟨sb,offb,none⟩) (stp (gOf T) (askL [] first) k).length (Own.c ow))),(0 ≤ (k : Int) ∧ (k : Int) < ((stp (gOf T) (askL [] first) k).length : Int)),(∀ w1,S w1 → (loadVar 35 ⟨sb,(addO offb (k * 32)),none⟩).run Tryz.prog w1 = .ok (.agg (bv ((stp (gOf T) (askL [] first) k).getD k dgz).1)) w1)]) ⟨(fun w1 h => (cell_cells (h.own (ln,Obj.cells (lC mb ow (stp (gOf T) (askL [] first) k)) 70 (0,0)) (by simp [lO]))).trans (by rw [lC,hab]; rfl)),om,(fun w1 h => load_bytes Tryz.underlying35 rfl kr ((stp (gOf T) (askL [] first) k).getD k dgz).2 (fun j hj => by rw [addO_eq]; exact (cell_cells (h.own (sb,Obj.cells csb teb freb) (by simp only [lO]; simp [hmb]))).trans (fl_cell dgz (fun x _ => dgd_len x) hcb om (dgd_byte ((stp (gOf T) (askL [] first) k).getD k dgz) hj)))),trivial⟩ ?_
   refine CfgA.two 8 15 kr (fuel' := 9) rfl ?_ ?_
   ·
    refine Ie rfl  (Eff.mkMeth (name := "Get") (v := .iface 30 (.slice la T.length ca)) rfl kr) (fun _ _ => (List.Sublist.refl _)) ?_
    rintro ⟨⟩ -
    refine CfgA.two 9 15 kr (fuel' := 8) rfl ?_ ?_
    ·
     refine Ie rfl  (Eff.nilMeth (name := "Get") (t := 30) (v := .slice la T.length ca) (f := 235) rfl kr kr) (fun _ _ => (List.Sublist.refl _)) ?_
     rintro ⟨⟩ -
     refine Ap [10] [] (some [0,6,7,29,32]) #[true,true,true,true,true,true,true,true,true,true,true,false,false,false,false,false,false,false] (List.Sublist.refl _) 7 n0 trivial ?_
     refine CfgA.two 11 15 kr (fuel' := 6) rfl ?_ ?_
     ·
      refine Ie rfl  (Eff.callInv (name := "Get") (t := 30) (v := .slice la T.length ca) (f := 235) rfl kr kr Tryz.func235 rfl rfl (vs := [.agg (bv ((stp (gOf T) (askL [] first) k).getD k dgz).1)]) kr (V := fun _ : Unit => .tuple #[.agg (oc t1.o).toArray,.int .i64 0]) (O' := fun _ => _) (F := fun _ => True) (fun w1 h => (thGet la ca T ((stp (gOf T) (askL [] first) k).getD k dgz).1 t1 Rl w1 hTI hT ((stp (gOf T) (askL [] first) k).getD k dgz).2 ht1 (h.hasR (fun e he => he)) hTn).mono fun _ _ hh => ⟨(),trivial,hh.1,h.calm hh.2⟩)) (fun _ _ => (List.Sublist.refl _)) ?_
      rintro ⟨⟩ -
      refine CfgA.pure [12,13,14] [] (some [0,6,7,34,35]) (l' := tF 15 3) kr kr (List.Sublist.refl _) 3 rfl (Γ' := [(35,[],.int .i64 0),(34,[],.agg (oc t1.o).toArray),(7,[],.int .i64 (k : Int)),(6,[],.pointer (some ⟨ln,0,none⟩)),(0,[],.iface 30 (.slice la T.length ca))]) (nd := (fun _ => [])) (fun _ => kr) trivial ?_
      refine Ae 15 rfl 2  (Eff.alloc (z := (.agg (oc o0).toArray)) rfl kr) (fun _ _ => (.cons _ (List.Sublist.refl _))) ?_
      rintro ob ⟨hob,nob⟩
      refine Ae 16 rfl 1  (Eff.storeN (b := ob) (off := 0) (vs := (oc t1.o).toArray) (n := 72) rfl kr kr kr (by rw [List.size_toArray,oc_len (hT t1 (tfind_mem ht1).1).o.c.d (hT t1 (tfind_mem ht1).1).o.t]) (fun q hq => all_oc _ q hq) 0 (cs := (oc o0).toArray) (e := 71) kr (by rw [zero_ob]; decide)) (fun _ _ => (.cons _ (List.Sublist.refl _))) ?_
      rintro ⟨⟩ -
      refine CfgA.setO (congrArg (fun (xq : Array Value) => (([(ob,.cells xq 71 (0,0))] ++ (lO ln mb x ow (stp (gOf T) (askL [] first) k) ++ [])) : List (Nat × Obj))) (show _ = ((oc t1.o).toArray) from spl_all (by first | (rw [List.size_toArray,oc_len (hT t1 (tfind_mem ht1).1).o.c.d (hT t1 (tfind_mem ht1).1).o.t]; rfl) | rw [List.size_toArray,oc_len (hT t1 (tfind_mem ht1).1).o.c.d (hT t1 (tfind_mem ht1).1).o.t]))) ?_
      refine Ap [17] [] (some [0,6,7,8,9]) #[true,true,true,true,true,true,true,true,true,true,true,true,true,true,true,true,true,true] (.cons _ (List.Sublist.refl _)) 0 n0 trivial ?_
      refine CfgA.done kr ?_
      refine Rg [0,6,7,8,9,37] [] n0 trivial ?_
      refine Cfg.condF rfl (b := (0 != (0 : Int))) kr rfl ?_
      refine Cfg.begL rfl ?_
      refine Lp 2 [dZ,(0,false,some (.agg (oc t1.o).toArray))] (some [0,6,7,39,40]) (fun S => [(∀ w1,S w1 → (loadVar 71 ⟨ob,0,none⟩).run Tryz.prog w1 = .ok (.agg (oc t1.o).toArray) w1)]) ⟨(fun w1 h => load_list Tryz.underlying71 rfl kr (oc_len (hT t1 (tfind_mem ht1).1).o.c.d (hT t1 (tfind_mem ht1).1).o.t) (fun j v hj => h.ocell 0 rfl (by rw [List.getElem?_toArray]; exact (fun j v hj => by rw [Nat.zero_add]; exact hj) j v hj))),trivial⟩ ?_
      refine Le (Eff.callOF (vs := [.agg (oc t1.o).toArray]) 35 32 (lk t1.o).length ((lk t1.o).flatMap dgc) ([(ob,.cells ((oc t1.o).toArray) 71 (0,0))] ++ (lO ln mb x ow (stp (gOf T) (askL [] first) k))) [] rfl rfl Tryz.func16 rfl rfl kr (fun w1 h => oLinks t1.o Rl w1 (hT t1 (tfind_mem ht1).1).o (h.hasR (fun e he => he)) (hL t1 (tfind_mem ht1).1))) ?_
      rintro ok2 kok2
      refine Le (Eff.callH (vs := [.pointer (some ⟨ln,0,none⟩),.slice (Own.a ok2) ((lk t1.o).length) (Own.c ok2)]) (fun _ : MX2 × K.Own => .tuple #[]) (lO ln mb x ow (stp (gOf T) (askL [] first) k)) (fun xq => lO ln mb xq.1 xq.2 (askL (stp (gOf T) (askL [] first) k) (toDg (lk t1.o)))) (fun xq => OwnOk xq.2 32 (askL (stp (gOf T) (askL [] first) k) (toDg (lk t1.o))).length ((askL (stp (gOf T) (askL [] first) k) (toDg (lk t1.o))).flatMap dgd) ∧ DMapOk 32 xq.1.1 xq.1.2 (lw (askL (stp (gOf T) (askL [] first) k) (toDg (lk t1.o))) 0)) [(ob,.cells ((oc t1.o).toArray) 71 (0,0))] (Own.o 35 ((lk t1.o).flatMap dgc) ok2 ++ []) rfl rfl Tryz.func15 rfl rfl kr (fun w1 h hA hd => by have hlen := (toDg_val (lk_d32 (hT t1 (tfind_mem ht1).1).o)).2; have hdis := apart_of (A := [(ob,.cells ((oc t1.o).toArray) 71 (0,0))]) (B := lO ln mb x ow (stp (gOf T) (askL [] first) k)) (C := (Own.o 35 ((lk t1.o).flatMap dgc) ok2 ++ [])) h.dist; rw [← hlen]; exact (lAsk ln mb x ow (stp (gOf T) (askL [] first) k) (Own.a ok2) (Own.c ok2) (toDg (lk t1.o)) (Own.o 35 ((lk t1.o).flatMap dgc) ok2 ++ []) w1 (inf_toDg (fun hn => by obtain ⟨b,off,cs,t,fr,g1,g2,g3⟩ := own_inf (e := 35) kok2 hn; exact ⟨b,off,cs,t,fr,g1,List.mem_append_left _ g2,g3⟩) (lk_d32 (hT t1 (tfind_mem ht1).1).o)) hok hm (fun e he => h.own e (List.mem_append_right ([(ob,.cells ((oc t1.o).toArray) 71 (0,0))]) (List.mem_append_right (lO ln mb x ow (stp (gOf T) (askL [] first) k)) he))) hA hd hdis (by rw [hlen]; have := hL t1 (tfind_mem ht1).1; have := hB k; omega)).mono fun _ _ ⟨x2,ow2,a1,a2,a3,a4⟩ => ⟨(x2,ow2),⟨a1,a2⟩,a3,a4⟩)) ?_
      rintro xl ⟨hok3,hm3⟩
      refine CfgL.done rfl ?_
      refine Cg (Γ' := [(7,[],.int .i64 (k : Int)),(6,[],.pointer (some ⟨ln,0,none⟩)),(0,[],.iface 30 (.slice la T.length ca))]) ?_
      refine Rg [0,6,7] [] (fun _ => [((-9223372036854775808 : Int) ≤ ((k : Int) + 1) ∧ ((k : Int) + 1) ≤ 9223372036854775807)]) ⟨om,trivial⟩ ?_
      have hst : (stp (gOf T) (askL [] first) (k + 1)) = askL (stp (gOf T) (askL [] first) k) (toDg (lk t1.o)) := by rw [stp_found om,gOf_some ht1]
      refine Cfg.setO (congrArg (fun (xq : List Dg) => (([(ob,.cells ((oc t1.o).toArray) 71 (0,0))] ++ (lO ln mb xl.1 xl.2 xq ++ (Own.o 35 ((lk t1.o).flatMap dgc) ok2 ++ []))) : List (Nat × Obj))) (show _ = (stp (gOf T) (askL [] first) (k + 1)) from by rw [hst])) ?_
      refine Cfg.again rfl (k + 1,xl.1,xl.2) ⟨fun j hj => by rcases Nat.lt_or_ge j k with h1 | h1; exact hk j h1; rw [show j = k by omega]; omega,by have := stp_len (G := gOf T) (all := askL [] first) k; omega,by rw [hst]; exact hok3,by rw [hst]; exact hm3⟩ (by show 1000 - (k + 1) < 1000 - k; omega) (Conv.mk kr) (.cons _ (sub_tl [] (lO ln mb xl.1 xl.2 (stp (gOf T) (askL [] first) (k + 1))) _))
     ·
      refine Ie rfl  (Eff.alloc (z := (.agg (oc o0).toArray)) rfl kr) (fun _ _ => (.cons _ (List.Sublist.refl _))) ?_
      rintro ob ⟨hob,nob⟩
      refine Ae 11 rfl 5  (Eff.callInv (name := "Get") (t := 30) (v := .slice la T.length ca) (f := 235) rfl kr kr Tryz.func235 rfl rfl (vs := [.agg (bv ((stp (gOf T) (askL [] first) k).getD k dgz).1)]) kr (V := fun _ : Unit => .tuple #[.agg (oc t1.o).toArray,.int .i64 0]) (O' := fun _ => _) (F := fun _ => True) (fun w1 h => (thGet la ca T ((stp (gOf T) (askL [] first) k).getD k dgz).1 t1 Rl w1 hTI hT ((stp (gOf T) (askL [] first) k).getD k dgz).2 ht1 (h.hasR (fun e he => he)) hTn).mono fun _ _ hh => ⟨(),trivial,hh.1,h.calm hh.2⟩)) (fun _ _ => (.cons _ (List.Sublist.refl _))) ?_
      rintro ⟨⟩ -
      refine Ap [12,13,14] [] (some [0,6,7,8,34,35]) #[true,true,true,true,true,true,true,true,true,true,true,true,true,true,true,true,false,false] (.cons _ (List.Sublist.refl _)) 2 n0 trivial ?_
      refine Ae 16 rfl 1  (Eff.storeN (b := ob) (off := 0) (vs := (oc t1.o).toArray) (n := 72) rfl kr kr kr (by rw [List.size_toArray,oc_len (hT t1 (tfind_mem ht1).1).o.c.d (hT t1 (tfind_mem ht1).1).o.t]) (fun q hq => all_oc _ q hq) 0 (cs := (oc o0).toArray) (e := 71) kr (by rw [zero_ob]; decide)) (fun _ _ => (.cons _ (List.Sublist.refl _))) ?_
      rintro ⟨⟩ -
      refine CfgA.setO (congrArg (fun (xq : Array Value) => (([(ob,.cells xq 71 (0,0))] ++ (lO ln mb x ow (stp (gOf T) (askL [] first) k) ++ [])) : List (Nat × Obj))) (show _ = ((oc t1.o).toArray) from spl_all (by first | (rw [List.size_toArray,oc_len (hT t1 (tfind_mem ht1).1).o.c.d (hT t1 (tfind_mem ht1).1).o.t]; rfl) | rw [List.size_toArray,oc_len (hT t1 (tfind_mem ht1).1).o.c.d (hT t1 (tfind_mem ht1).1).o.t]))) ?_
      refine Ap [17] [] (some [0,6,7,8,9]) #[true,true,true,true,true,true,true,true,true,true,true,true,true,true,true,true,true,true] (.cons _ (List.Sublist.refl _)) 0 n0 trivial ?_
      refine CfgA.done kr ?_
      refine Rg [0,6,7,8,9,37] [] n0 trivial ?_
      refine Cfg.condF rfl (b := (0 != (0 : Int))) kr rfl ?_
      refine Cfg.begL rfl ?_
      refine Lp 2 [dZ,(0,false,some (.agg (oc t1.o).toArray))] (some [0,6,7,39,40]) (fun S => [(∀ w1,S w1 → (loadVar 71 ⟨ob,0,none⟩).run Tryz.prog w1 = .ok (.agg (oc t1.o).toArray) w1)]) ⟨(fun w1 h => load_list Tryz.underlying71 rfl kr (oc_len (hT t1 (tfind_mem ht1).1).o.c.d (hT t1 (tfind_mem ht1).1).o.t) (fun j v hj => h.ocell 0 rfl (by rw [List.getElem?_toArray]; exact (fun j v hj => by rw [Nat.zero_add]; exact hj) j v hj))),trivial⟩ ?_
      refine Le (Eff.callOF (vs := [.agg (oc t1.o).toArray]) 35 32 (lk t1.o).length ((lk t1.o).flatMap dgc) ([(ob,.cells ((oc t1.o).toArray) 71 (0,0))] ++ (lO ln mb x ow (stp (gOf T) (askL [] first) k))) [] rfl rfl Tryz.func16 rfl rfl kr (fun w1 h => oLinks t1.o Rl w1 (hT t1 (tfind_mem ht1).1).o (h.hasR (fun e he => he)) (hL t1 (tfind_mem ht1).1))) ?_
      rintro ok2 kok2
      refine Le (Eff.callH (vs := [.pointer (some ⟨ln,0,none⟩),.slice (Own.a ok2) ((lk t1.o).length) (Own.c ok2)]) (fun _ : MX2 × K.Own => .tuple #[]) (lO ln mb x ow (stp (gOf T) (askL [] first) k)) (fun xq => lO ln mb xq.1 xq.2 (askL (stp (gOf T) (askL [] first) k) (toDg (lk t1.o)))) (fun xq => OwnOk xq.2 32 (askL (stp (gOf T) (askL [] first) k) (toDg (lk t1.o))).length ((askL (stp (gOf T) (askL [] first) k) (toDg (lk t1.o))).flatMap dgd) ∧ DMapOk 32 xq.1.1 xq.1.2 (lw (askL (stp (gOf T) (askL [] first) k) (toDg (lk t1.o))) 0)) [(ob,.cells ((oc t1.o).toArray) 71 (0,0))] (Own.o 35 ((lk t1.o).flatMap dgc) ok2 ++ []) rfl rfl Tryz.func15 rfl rfl kr (fun w1 h hA hd => by have hlen := (toDg_val (lk_d32 (hT t1 (tfind_mem ht1).1).o)).2; have hdis := apart_of (A := [(ob,.cells ((oc t1.o).toArray) 71 (0,0))]) (B := lO ln mb x ow (stp (gOf T) (askL [] first) k)) (C := (Own.o 35 ((lk t1.o).flatMap dgc) ok2 ++ [])) h.dist; rw [← hlen]; exact (lAsk ln mb x ow (stp (gOf T) (askL [] first) k) (Own.a ok2) (Own.c ok2) (toDg (lk t1.o)) (Own.o 35 ((lk t1.o).flatMap dgc) ok2 ++ []) w1 (inf_toDg (fun hn => by obtain ⟨b,off,cs,t,fr,g1,g2,g3⟩ := own_inf (e := 35) kok2 hn; exact ⟨b,off,cs,t,fr,g1,List.mem_append_left _ g2,g3⟩) (lk_d32 (hT t1 (tfind_mem ht1).1).o)) hok hm (fun e he => h.own e (List.mem_append_right ([(ob,.cells ((oc t1.o).toArray) 71 (0,0))]) (List.mem_append_right (lO ln mb x ow (stp (gOf T) (askL [] first) k)) he))) hA hd hdis (by rw [hlen]; have := hL t1 (tfind_mem ht1).1; have := hB k; omega)).mono fun _ _ ⟨x2,ow2,a1,a2,a3,a4⟩ => ⟨(x2,ow2),⟨a1,a2⟩,a3,a4⟩)) ?_
      rintro xl ⟨hok3,hm3⟩
      refine CfgL.done rfl ?_
      refine Cg (Γ' := [(7,[],.int .i64 (k : Int)),(6,[],.pointer (some ⟨ln,0,none⟩)),(0,[],.iface 30 (.slice la T.length ca))]) ?_
      refine Rg [0,6,7] [] (fun _ => [((-9223372036854775808 : Int) ≤ ((k : Int) + 1) ∧ ((k : Int) + 1) ≤ 9223372036854775807)]) ⟨om,trivial⟩ ?_
      have hst : (stp (gOf T) (askL [] first) (k + 1)) = askL (stp (gOf T) (askL [] first) k) (toDg (lk t1.o)) := by rw [stp_found om,gOf_some ht1]
      refine Cfg.setO (congrArg (fun (xq : List Dg) => (([(ob,.cells ((oc t1.o).toArray) 71 (0,0))] ++ (lO ln mb xl.1 xl.2 xq ++ (Own.o 35 ((lk t1.o).flatMap dgc) ok2 ++ []))) : List (Nat × Obj))) (show _ = (stp (gOf T) (askL [] first) (k + 1)) from by rw [hst])) ?_
      refine Cfg.again rfl (k + 1,xl.1,xl.2) ⟨fun j hj => by rcases Nat.lt_or_ge j k with h1 | h1; exact hk j h1; rw [show j = k by omega]; omega,by have := stp_len (G := gOf T) (all := askL [] first) k; omega,by rw [hst]; exact hok3,by rw [hst]; exact hm3⟩ (by show 1000 - (k + 1) < 1000 - k; omega) (Conv.mk kr) (.cons _ (sub_tl [] (lO ln mb xl.1 xl.2 (stp (gOf T) (askL [] first) (k + 1))) _))
    ·
     refine Ie rfl  (Eff.alloc (z := (.agg (oc o0).toArray)) rfl kr) (fun _ _ => (.cons _ (List.Sublist.refl _))) ?_
     rintro ob ⟨hob,nob⟩
     refine Ae 9 rfl 7  (Eff.nilMeth (name := "Get") (t := 30) (v := .slice la T.length ca) (f := 235) rfl kr kr) (fun _ _ => (.cons _ (List.Sublist.refl _))) ?_
     rintro ⟨⟩ -
     refine Ap [10] [] (some [0,6,7,8,29,32]) #[true,true,true,true,true,true,true,true,true,true,true,false,false,false,false,true,false,false] (.cons _ (List.Sublist.refl _)) 6 n0 trivial ?_
     refine Ae 11 rfl 5  (Eff.callInv (name := "Get") (t := 30) (v := .slice la T.length ca) (f := 235) rfl kr kr Tryz.func235 rfl rfl (vs := [.agg (bv ((stp (gOf T) (askL [] first) k).getD k dgz).1)]) kr (V := fun _ : Unit => .tuple #[.agg (oc t1.o).toArray,.int .i64 0]) (O' := fun _ => _) (F := fun _ => True) (fun w1 h => (thGet la ca T ((stp (gOf T) (askL [] first) k).getD k dgz).1 t1 Rl w1 hTI hT ((stp (gOf T) (askL [] first) k).getD k dgz).2 ht1 (h.hasR (fun e he => he)) hTn).mono fun _ _ hh => ⟨(),trivial,hh.1,h.calm hh.2⟩)) (fun _ _ => (.cons _ (List.Sublist.refl _))) ?_
     rintro ⟨⟩ -
     refine Ap [12,13,14] [] (some [0,6,7,8,34,35]) #[true,true,true,true,true,true,true,true,true,true,true,true,true,true,true,true,false,false] (.cons _ (List.Sublist.refl _)) 2 n0 trivial ?_
     refine Ae 16 rfl 1  (Eff.storeN (b := ob) (off := 0) (vs := (oc t1.o).toArray) (n := 72) rfl kr kr kr (by rw [List.size_toArray,oc_len (hT t1 (tfind_mem ht1).1).o.c.d (hT t1 (tfind_mem ht1).1).o.t]) (fun q hq => all_oc _ q hq) 0 (cs := (oc o0).toArray) (e := 71) kr (by rw [zero_ob]; decide)) (fun _ _ => (.cons _ (List.Sublist.refl _))) ?_
     rintro ⟨⟩ -
     refine CfgA.setO (congrArg (fun (xq : Array Value) => (([(ob,.cells xq 71 (0,0))] ++ (lO ln mb x ow (stp (gOf T) (askL [] first) k) ++ [])) : List (Nat × Obj))) (show _ = ((oc t1.o).toArray) from spl_all (by first | (rw [List.size_toArray,oc_len (hT t1 (tfind_mem ht1).1).o.c.d (hT t1 (tfind_mem ht1).1).o.t]; rfl) | rw [List.size_toArray,oc_len (hT t1 (tfind_mem ht1).1).o.c.d (hT t1 (tfind_mem ht1).1).o.t]))) ?_
     refine Ap [17] [] (some [0,6,7,8,9]) #[true,true,true,true,true,true,true,true,true,true,true,true,true,true,true,true,true,true] (.cons _ (List.Sublist.refl _)) 0 n0 trivial ?_
     refine CfgA.done kr ?_
     refine Rg [0,6,7,8,9,37] [] n0 trivial ?_
     refine Cfg.condF rfl (b := (0 != (0 : Int))) kr rfl ?_
     refine Cfg.begL rfl ?_
     refine Lp 2 [dZ,(0,false,some (.agg (oc t1.o).toArray))] (some [0,6,7,39,40]) (fun S => [(∀ w1,S w1 → (loadVar 71 ⟨ob,0,none⟩).run Tryz.prog w1 = .ok (.agg (oc t1.o).toArray) w1)]) ⟨(fun w1 h => load_list Tryz.underlying71 rfl kr (oc_len (hT t1 (tfind_mem ht1).1).o.c.d (hT t1 (tfind_mem ht1).1).o.t) (fun j v hj => h.ocell 0 rfl (by rw [List.getElem?_toArray]; exact (fun j v hj => by rw [Nat.zero_add]; exact hj) j v hj))),trivial⟩ ?_
     refine Le (Eff.callOF (vs := [.agg (oc t1.o).toArray]) 35 32 (lk t1.o).length ((lk t1.o).flatMap dgc) ([(ob,.cells ((oc t1.o).toArray) 71 (0,0))] ++ (lO ln mb x ow (stp (gOf T) (askL [] first) k))) [] rfl rfl Tryz.func16 rfl rfl kr (fun w1 h => oLinks t1.o Rl w1 (hT t1 (tfind_mem ht1).1).o (h.hasR (fun e he => he)) (hL t1 (tfind_mem ht1).1))) ?_
     rintro ok2 kok2
     refine Le (Eff.callH (vs := [.pointer (some ⟨ln,0,none⟩),.slice (Own.a ok2) ((lk t1.o).length) (Own.c ok2)]) (fun _ : MX2 × K.Own => .tuple #[]) (lO ln mb x ow (stp (gOf T) (askL [] first) k)) (fun xq => lO ln mb xq.1 xq.2 (askL (stp (gOf T) (askL [] first) k) (toDg (lk t1.o)))) (fun xq => OwnOk xq.2 32 (askL (stp (gOf T) (askL [] first) k) (toDg (lk t1.o))).length ((askL (stp (gOf T) (askL [] first) k) (toDg (lk t1.o))).flatMap dgd) ∧ DMapOk 32 xq.1.1 xq.1.2 (lw (askL (stp (gOf T) (askL [] first) k) (toDg (lk t1.o))) 0)) [(ob,.cells ((oc t1.o).toArray) 71 (0,0))] (Own.o 35 ((lk t1.o).flatMap dgc) ok2 ++ []) rfl rfl Tryz.func15 rfl rfl kr (fun w1 h hA hd => by have hlen := (toDg_val (lk_d32 (hT t1 (tfind_mem ht1).1).o)).2; have hdis := apart_of (A := [(ob,.cells ((oc t1.o).toArray) 71 (0,0))]) (B := lO ln mb x ow (stp (gOf T) (askL [] first) k)) (C := (Own.o 35 ((lk t1.o).flatMap dgc) ok2 ++ [])) h.dist; rw [← hlen]; exact (lAsk ln mb x ow (stp (gOf T) (askL [] first) k) (Own.a ok2) (Own.c ok2) (toDg (lk t1.o)) (Own.o 35 ((lk t1.o).flatMap dgc) ok2 ++ []) w1 (inf_toDg (fun hn => by obtain ⟨b,off,cs,t,fr,g1,g2,g3⟩ := own_inf (e := 35) kok2 hn; exact ⟨b,off,cs,t,fr,g1,List.mem_append_left _ g2,g3⟩) (lk_d32 (hT t1 (tfind_mem ht1).1).o)) hok hm (fun e he => h.own e (List.mem_append_right ([(ob,.cells ((oc t1.o).toArray) 71 (0,0))]) (List.mem_append_right (lO ln mb x ow (stp (gOf T) (askL [] first) k)) he))) hA hd hdis (by rw [hlen]; have := hL t1 (tfind_mem ht1).1; have := hB k; omega)).mono fun _ _ ⟨x2,ow2,a1,a2,a3,a4⟩ => ⟨(x2,ow2),⟨a1,a2⟩,a3,a4⟩)) ?_
     rintro xl ⟨hok3,hm3⟩
     refine CfgL.done rfl ?_
     refine Cg (Γ' := [(7,[],.int .i64 (k : Int)),(6,[],.pointer (some ⟨ln,0,none⟩)),(0,[],.iface 30 (.slice la T.length ca))]) ?_
     refine Rg [0,6,7] [] (fun _ => [((-9223372036854775808 : Int) ≤ ((k : Int) + 1) ∧ ((k : Int) + 1) ≤ 9223372036854775807)]) ⟨om,trivial⟩ ?_
     have hst : (stp (gOf T) (askL [] first) (k + 1)) = askL (stp (gOf T) (askL [] first) k) (toDg (lk t1.o)) := by rw [stp_found om,gOf_some ht1]
     refine Cfg.setO (congrArg (fun (xq : List Dg) => (([(ob,.cells ((oc t1.o).toArray) 71 (0,0))] ++ (lO ln mb xl.1 xl.2 xq ++ (Own.o 35 ((lk t1.o).flatMap dgc) ok2 ++ []))) : List (Nat × Obj))) (show _ = (stp (gOf T) (askL [] first) (k + 1)) from by rw [hst])) ?_
     refine Cfg.again rfl (k + 1,xl.1,xl.2) ⟨fun j hj => by rcases Nat.lt_or_ge j k with h1 | h1; exact hk j h1; rw [show j = k by omega]; omega,by have := stp_len (G := gOf T) (all := askL [] first) k; omega,by rw [hst]; exact hok3,by rw [hst]; exact hm3⟩ (by show 1000 - (k + 1) < 1000 - k; omega) (Conv.mk kr) (.cons _ (sub_tl [] (lO ln mb xl.1 xl.2 (stp (gOf T) (askL [] first) (k + 1))) _))
   ·
    refine Ie rfl  (Eff.alloc (z := (.agg (oc o0).toArray)) rfl kr) (fun _ _ => (.cons _ (List.Sublist.refl _))) ?_
    rintro ob ⟨hob,nob⟩
    refine Ae 8 rfl 8  (Eff.mkMeth (name := "Get") (v := .iface 30 (.slice la T.length ca)) rfl kr) (fun _ _ => (.cons _ (List.Sublist.refl _))) ?_
    rintro ⟨⟩ -
    refine Ae 9 rfl 7  (Eff.nilMeth (name := "Get") (t := 30) (v := .slice la T.length ca) (f := 235) rfl kr kr) (fun _ _ => (.cons _ (List.Sublist.refl _))) ?_
    rintro ⟨⟩ -
    refine Ap [10] [] (some [0,6,7,8,29,32]) #[true,true,true,true,true,true,true,true,true,true,true,false,false,false,false,true,false,false] (.cons _ (List.Sublist.refl _)) 6 n0 trivial ?_
    refine Ae 11 rfl 5  (Eff.callInv (name := "Get") (t := 30) (v := .slice la T.length ca) (f := 235) rfl kr kr Tryz.func235 rfl rfl (vs := [.agg (bv ((stp (gOf T) (askL [] first) k).getD k dgz).1)]) kr (V := fun _ : Unit => .tuple #[.agg (oc t1.o).toArray,.int .i64 0]) (O' := fun _ => _) (F := fun _ => True) (fun w1 h => (thGet la ca T ((stp (gOf T) (askL [] first) k).getD k dgz).1 t1 Rl w1 hTI hT ((stp (gOf T) (askL [] first) k).getD k dgz).2 ht1 (h.hasR (fun e he => he)) hTn).mono fun _ _ hh => ⟨(),trivial,hh.1,h.calm hh.2⟩)) (fun _ _ => (.cons _ (List.Sublist.refl _))) ?_
    rintro ⟨⟩ -
    refine Ap [12,13,14] [] (some [0,6,7,8,34,35]) #[true,true,true,true,true,true,true,true,true,true,true,true,true,true,true,true,false,false] (.cons _ (List.Sublist.refl _)) 2 n0 trivial ?_
    refine Ae 16 rfl 1  (Eff.storeN (b := ob) (off := 0) (vs := (oc t1.o).toArray) (n := 72) rfl kr kr kr (by rw [List.size_toArray,oc_len (hT t1 (tfind_mem ht1).1).o.c.d (hT t1 (tfind_mem ht1).1).o.t]) (fun q hq => all_oc _ q hq) 0 (cs := (oc o0).toArray) (e := 71) kr (by rw [zero_ob]; decide)) (fun _ _ => (.cons _ (List.Sublist.refl _))) ?_
    rintro ⟨⟩ -
    refine CfgA.setO (congrArg (fun (xq : Array Value) => (([(ob,.cells xq 71 (0,0))] ++ (lO ln mb x ow (stp (gOf T) (askL [] first) k) ++ [])) : List (Nat × Obj))) (show _ = ((oc t1.o).toArray) from spl_all (by first | (rw [List.size_toArray,oc_len (hT t1 (tfind_mem ht1).1).o.c.d (hT t1 (tfind_mem ht1).1).o.t]; rfl) | rw [List.size_toArray,oc_len (hT t1 (tfind_mem ht1).1).o.c.d (hT t1 (tfind_mem ht1).1).o.t]))) ?_
    refine Ap [17] [] (some [0,6,7,8,9]) #[true,true,true,true,true,true,true,true,true,true,true,true,true,true,true,true,true,true] (.cons _ (List.Sublist.refl _)) 0 n0 trivial ?_
    refine CfgA.done kr ?_
    refine Rg [0,6,7,8,9,37] [] n0 trivial ?_
    refine Cfg.condF rfl (b := (0 != (0 : Int))) kr rfl ?_
    refine Cfg.begL rfl ?_
    refine Lp 2 [dZ,(0,false,some (.agg (oc t1.o).toArray))] (some [0,6,7,39,40]) (fun S => [(∀ w1,S w1 → (loadVar 71 ⟨ob,0,none⟩).run Tryz.prog w1 = .ok (.agg (oc t1.o).toArray) w1)]) ⟨(fun w1 h => load_list Tryz.underlying71 rfl kr (oc_len (hT t1 (tfind_mem ht1).1).o.c.d (hT t1 (tfind_mem ht1).1).o.t) (fun j v hj => h.ocell 0 rfl (by rw [List.getElem?_toArray]; exact (fun j v hj => by rw [Nat.zero_add]; exact hj) j v hj))),trivial⟩ ?_
    refine Le (Eff.callOF (vs := [.agg (oc t1.o).toArray]) 35 32 (lk t1.o).length ((lk t1.o).flatMap dgc) ([(ob,.cells ((oc t1.o).toArray) 71 (0,0))] ++ (lO ln mb x ow (stp (gOf T) (askL [] first) k))) [] rfl rfl Tryz.func16 rfl rfl kr (fun w1 h => oLinks t1.o Rl w1 (hT t1 (tfind_mem ht1).1).o (h.hasR (fun e he => he)) (hL t1 (tfind_mem ht1).1))) ?_
    rintro ok2 kok2
    refine Le (Eff.callH (vs := [.pointer (some ⟨ln,0,none⟩),.slice (Own.a ok2) ((lk t1.o).length) (Own.c ok2)]) (fun _ : MX2 × K.Own => .tuple #[]) (lO ln mb x ow (stp (gOf T) (askL [] first) k)) (fun xq => lO ln mb xq.1 xq.2 (askL (stp (gOf T) (askL [] first) k) (toDg (lk t1.o)))) (fun xq => OwnOk xq.2 32 (askL (stp (gOf T) (askL [] first) k) (toDg (lk t1.o))).length ((askL (stp (gOf T) (askL [] first) k) (toDg (lk t1.o))).flatMap dgd) ∧ DMapOk 32 xq.1.1 xq.1.2 (lw (askL (stp (gOf T) (askL [] first) k) (toDg (lk t1.o))) 0)) [(ob,.cells ((oc t1.o).toArray) 71 (0,0))] (Own.o 35 ((lk t1.o).flatMap dgc) ok2 ++ []) rfl rfl Tryz.func15 rfl rfl kr (fun w1 h hA hd => by have hlen := (toDg_val (lk_d32 (hT t1 (tfind_mem ht1).1).o)).2; have hdis := apart_of (A := [(ob,.cells ((oc t1.o).toArray) 71 (0,0))]) (B := lO ln mb x ow (stp (gOf T) (askL [] first) k)) (C := (Own.o 35 ((lk t1.o).flatMap dgc) ok2 ++ [])) h.dist; rw [← hlen]; exact (lAsk ln mb x ow (stp (gOf T) (askL [] first) k) (Own.a ok2) (Own.c ok2) (toDg (lk t1.o)) (Own.o 35 ((lk t1.o).flatMap dgc) ok2 ++ []) w1 (inf_toDg (fun hn => by obtain ⟨b,off,cs,t,fr,g1,g2,g3⟩ := own_inf (e := 35) kok2 hn; exact ⟨b,off,cs,t,fr,g1,List.mem_append_left _ g2,g3⟩) (lk_d32 (hT t1 (tfind_mem ht1).1).o)) hok hm (fun e he => h.own e (List.mem_append_right ([(ob,.cells ((oc t1.o).toArray) 71 (0,0))]) (List.mem_append_right (lO ln mb x ow (stp (gOf T) (askL [] first) k)) he))) hA hd hdis (by rw [hlen]; have := hL t1 (tfind_mem ht1).1; have := hB k; omega)).mono fun _ _ ⟨x2,ow2,a1,a2,a3,a4⟩ => ⟨(x2,ow2),⟨a1,a2⟩,a3,a4⟩)) ?_
    rintro xl ⟨hok3,hm3⟩
    refine CfgL.done rfl ?_
    refine Cg (Γ' := [(7,[],.int .i64 (k : Int)),(6,[],.pointer (some ⟨ln,0,none⟩)),(0,[],.iface 30 (.slice la T.length ca))]) ?_
    refine Rg [0,6,7] [] (fun _ => [((-9223372036854775808 : Int) ≤ ((k : Int) + 1) ∧ ((k : Int) + 1) ≤ 9223372036854775807)]) ⟨om,trivial⟩ ?_
    have hst : (stp (gOf T) (askL [] first) (k + 1)) = askL (stp (gOf T) (askL [] first) k) (toDg (lk t1.o)) := by rw [stp_found om,gOf_some ht1]
    refine Cfg.setO (congrArg (fun (xq : List Dg) => (([(ob,.cells ((oc t1.o).toArray) 71 (0,0))] ++ (lO ln mb xl.1 xl.2 xq ++ (Own.o 35 ((lk t1.o).flatMap dgc) ok2 ++ []))) : List (Nat × Obj))) (show _ = (stp (gOf T) (askL [] first) (k + 1)) from by rw [hst])) ?_
    refine Cfg.again rfl (k + 1,xl.1,xl.2) ⟨fun j hj => by rcases Nat.lt_or_ge j k with h1 | h1; exact hk j h1; rw [show j = k by omega]; omega,by have := stp_len (G := gOf T) (all := askL [] first) k; omega,by rw [hst]; exact hok3,by rw [hst]; exact hm3⟩ (by show 1000 - (k + 1) < 1000 - k; omega) (Conv.mk kr) (.cons _ (sub_tl [] (lO ln mb xl.1 xl.2 (stp (gOf T) (askL [] first) (k + 1))) _))
  ·have c1 := (of_decide_eq_false c1r)
   refine Cfg.begL rfl ?_
   refine Lp 4 [dZ,dZ,dZ,(0,false,some (.slice (Own.a ow) ((stp (gOf T) (askL [] first) k).length) (Own.c ow)))] (some [6,46]) (fun S => [(∀ w1,S w1 → w1.cell? ⟨ln,1,none⟩ = some (.slice (Own.a ow) ((stp (gOf T) (askL [] first) k).length) (Own.c ow)))]) ⟨(fun w1 h => (cell_cells (h.own (ln,Obj.cells (lC mb ow (stp (gOf T) (askL [] first) k)) 70 (0,0)) (by simp [lO]))).trans rfl),trivial⟩ ?_
   refine Le (Eff.callH (vs := [.slice (Own.a ow) ((stp (gOf T) (askL [] first) k).length) (Own.c ow),.func (.func 18) #[] #[]]) (fun _ : Unit => .tuple #[]) (lO ln mb x ow (stp (gOf T) (askL [] first) k)) (fun _ => lO ln mb x ow (dsrt (stp (gOf T) (askL [] first) k))) (fun _ => True) [] [] rfl rfl Tryz.func17 rfl rfl kr (fun w1 h hA hd => (dSort ln mb x ow (stp (gOf T) (askL [] first) k) w1 hok hA hd (stp_pos hf0 k) om).mono fun _ _ hh => ⟨(),trivial,hh⟩)) ?_
   rintro ⟨⟩ -
   refine CfgL.done rfl ?_
   refine Cg (Γ' := [(6,[],.pointer (some ⟨ln,0,none⟩))]) ?_
   refine Rg [4,5] [dZ,dZ,dZ,(0,false,some (.slice (Own.a ow) ((dsrt (stp (gOf T) (askL [] first) k)).length) (Own.c ow)))] (fun S => [(∀ w1,S w1 → w1.cell? ⟨ln,1,none⟩ = some (.slice (Own.a ow) ((dsrt (stp (gOf T) (askL [] first) k)).length) (Own.c ow)))]) ⟨(fun w1 h => (cell_cells (h.own (ln,Obj.cells (lC mb ow (dsrt (stp (gOf T) (askL [] first) k))) 70 (0,0)) (by simp [lO]))).trans rfl),trivial⟩ ?_
   refine Cfg.ret rfl (rs := [.tmp 4,.tmp 5]) rfl [.slice (Own.a ow) ((dsrt (stp (gOf T) (askL [] first) k)).length) (Own.c ow),.int .i64 0] ⟨kr,by kernel_rfl,trivial⟩ (fun w1 hp => ?_)
   have h9 : HP w [] Rl (lO ln mb x ow (dsrt (stp (gOf T) (askL [] first) k))) w1 := by rw [List.nil_append,List.append_nil] at hp; exact hp
   have hlen := dsrt_len (stp (gOf T) (askL [] first) k)
   refine ⟨k,ow,hk,by omega,⟨by rw [flat_dgd,hlen],hok.nil,?_⟩,by rw [hlen]; rfl,_,h9.sub (List.sublist_append_right _ _)⟩
   intro p hp2
   obtain ⟨h1,h2⟩ := hok.some p hp2
   rw [flat_dgd] at h1
   exact ⟨by rw [flat_dgd,hlen]; exact h1,h2⟩
end Go.Proofs.YtinhinjpfmdfiaaGreatDoor
namespace Go.Proofs.YtinhinjpfmdfiaaGreatDoor
namespace K
theorem foldl_splK (off : Nat) : ∀ (vs : List Value) (k : Nat) (cs : Array Value),(vs.zipIdx k).foldl (fun (cs : Array Value) (p : Value × Nat) => cs.setIfInBounds (off + p.2) p.1) cs = spl cs (off + k) vs
 | [],k,cs => rfl
 | v :: vs,k,cs => by
  rw [List.zipIdx_cons,List.foldl_cons,foldl_splK off vs (k + 1),spl]
  rfl
theorem foldl_arr (off : Nat) (vs cs : Array Value) : vs.zipIdx.foldl (fun (cs : Array Value) (p : Value × Nat) => cs.setIfInBounds (off + p.2) p.1) cs = spl cs off vs.toList := by
 rw [← Array.foldl_toList,Array.toList_zipIdx,foldl_splK off vs.toList 0]; rfl
theorem fill_two {X u v : Array Value} {n : Nat} (hX : X.size = 2 * n) (hu : u.size = n) (hv : v.size = n) : Instr.fill (fun i => some (i * n,n)) X [(0,.agg u),(1,.agg v)] = some (u.toList ++ v.toList).toArray := by
 have hul : u.toList.length = n := by rw [Array.length_toList]; exact hu
 have hvl : v.toList.length = n := by rw [Array.length_toList]; exact hv
 have hXl : X.toList.length = 2 * n := by rw [Array.length_toList]; exact hX
 have a1 : spl X (0 * n) u.toList = (u.toList ++ X.toList.drop n).toArray := by
  have h := spl_at (L := X.toList) (A := []) (B := X.toList.take n) (T := X.toList.drop n) (vs := u.toList) (off := 0) (by rw [List.nil_append,List.take_append_drop]) rfl (by rw [List.length_take]; omega)
  rw [Nat.zero_mul]
  simpa using h
 have a2 : spl (u.toList ++ X.toList.drop n).toArray (1 * n) v.toList = (u.toList ++ v.toList).toArray := by
  have h := spl_at (L := u.toList ++ X.toList.drop n) (A := u.toList) (B := X.toList.drop n) (T := []) (vs := v.toList) (off := n) (by rw [List.append_nil]) hul (by rw [List.length_drop]; omega)
  rw [Nat.one_mul,h,List.append_nil]
 have e1 := (foldl_arr (0 * n) u X).trans a1
 have e2 := (foldl_arr (1 * n) v (u.toList ++ X.toList.drop n).toArray).trans a2
 have hYs : (u.toList ++ X.toList.drop n).toArray.size = 2 * n := by rw [List.size_toArray,List.length_append,List.length_drop]; omega
 have h3 : ¬ (u.size ≠ n) := by omega
 have h4 : ¬ (0 * n + u.size > X.size) := by omega
 have h5 : ¬ (v.size ≠ n) := by omega
 have h6 : ¬ (1 * n + v.size > (u.toList ++ X.toList.drop n).toArray.size) := by omega
 unfold Instr.fill
 simp only [Value.cells,h3,h4,decide_false,Bool.or_self,Bool.false_eq_true,if_false]
 rw [show Array.foldl (fun cs x => match x with | (c,j) => cs.setIfInBounds (0 * n + j) c) X u.zipIdx = (u.toList ++ X.toList.drop n).toArray from e1]
 unfold Instr.fill
 simp only [Value.cells,h5,h6,decide_false,Bool.or_self,Bool.false_eq_true,if_false]
 rw [show Array.foldl (fun cs x => match x with | (c,j) => cs.setIfInBounds (1 * n + j) c) (u.toList ++ X.toList.drop n).toArray v.zipIdx = (u.toList ++ v.toList).toArray from e2]
 rfl
theorem run_buildSlice_agg2 {P : Program} {w : World} {t e : TypeId} {u v : Array Value} {inf : TypeInfo} {z : Value} (ht : P.underlying t = some (.slice e)) (hi : P.info? e = some inf) (hz : inf.zero = some z) (hu : u.size = inf.size) (hv : v.size = inf.size) (h0 : 0 < inf.size) (h1 : inf.size ≤ 8388608) :
  (Instr.buildSlice t 2 #[(0,.agg u),(1,.agg v)]).run P w = .ok (.slice (some ⟨w.heap.size,0,none⟩) 2 2) (w.alloc (.cells (u.toList ++ v.toList).toArray e (0,0))) := by
 have hn : ¬ 2 * inf.size > 2 ^ 24 := by omega
 have hn0 : ¬ 2 * inf.size = 0 := by omega
 have hf := fill_two (X := (Array.range (2 * inf.size)).map (z.cells[· % z.cells.size]!)) (u := u) (v := v) (n := inf.size) (by simp) hu hv
 have e : (u.toList ++ v.toList).toArray = u ++ v := by apply Array.ext'; simp
 rw [e] at hf ⊢
 simp [Instr.buildSlice,run_underlying' ht,run_sizeOf' hi,hn,hn0,zeroValue,typeInfo,program,Sem.run,hi,hz,hf,newRow,newObj]
theorem Eff.buildAgg2 {C : Cx} {R O : List (Nat × Obj)} {Γ : Env} {op : Oper} {t e : TypeId} {x y : Operand} {u v : Array Value} (ho : op.op = .buildSlice t 2 #[(0,x),(1,y)]) (hx : opd Γ [] x = some (.agg u)) (hy : opd Γ [] y = some (.agg v)) (ht : C.P.underlying t = some (.slice e)) {n : Nat} (hsz : (C.P.info? e).map (·.size) = some n) {z : Value} (hz0 : (C.P.info? e).bind (·.zero) = some z)
  (hu : u.size = n) (hv : v.size = n) (h0 : 0 < n) (h1 : n ≤ 8388608) :
  Eff C R O Γ op Nat (fun b => .slice (some ⟨b,0,none⟩) 2 2) (fun b => (b,.cells (u.toList ++ v.toList).toArray e (0,0)) :: O) (fun b => C.w0.heap.size ≤ b ∧ b ∉ O.map (·.1)) := by
 refine Eff.of_run fun a w hs hp => ⟨w.heap.size,w.alloc (.cells (u.toList ++ v.toList).toArray e (0,0)),⟨hp.ext.size,hp.fresh (Nat.le_refl _)⟩,?_,hp.alloc _⟩
 obtain ⟨inf,hi,hse⟩ := Option.map_eq_some_iff.1 hsz
 obtain ⟨inf',hi',hz⟩ := Option.bind_eq_some_iff.1 hz0
 rw [hi] at hi'
 simp only [Option.some.injEq] at hi'
 subst hi'
 subst hse
 have hr := run_buildSlice_agg2 (P := C.P) (w := w) ht hi hz hu hv h0 h1
 have e : (u.toList ++ v.toList).toArray = u ++ v := by apply Array.ext'; simp
 rw [e] at hr ⊢
 simp [execOp,ho,opd_ok hs (holds_nil _) hx,opd_ok hs (holds_nil _) hy,hr]
end K
end Go.Proofs.YtinhinjpfmdfiaaGreatDoor
namespace Go.Proofs.YtinhinjpfmdfiaaGreatDoor
namespace I
open K (one aggB run_underlying' run_sizeOf' add_none run_v cell_cells)
set_option linter.unusedVariables false
def orI (X Y : KF) : KF := fun f args h nx => match X f args h nx with
 | some r => some r
 | none => Y f args h nx
theorem orI_ok {P : Program} {G : Nat} {X Y : KF} (hX : XOk P G X) (hY : XOk P G Y) : XOk P G (orI X Y) := by
 intro f args h nx v h' nx' hh
 unfold orI at hh
 split at hh
 ·rename_i r hr
  simp only [Option.some.injEq] at hh
  subst hh
  exact hX f args h nx v h' nx' hr
 ·exact hY f args h nx v h' nx' hh
end I
end Go.Proofs.YtinhinjpfmdfiaaGreatDoor
namespace Go.Proofs.YtinhinjpfmdfiaaGreatDoor
open K
def roundsL : List Int := [1116352408,1899447441,3049323471,3921009573,961987163,1508970993,2453635748,2870763221,3624381080,310598401,607225278,1426881987,1925078388,2162078206,2614888103,3248222580,3835390401,4022224774,264347078,604807628,770255983,1249150122,1555081692,1996064986,2554220882,2821834349,2952996808,3210313671,3336571891,3584528711,113926993,338241895,666307205,773529912,1294757372,1396182291,1695183700,1986661051,2177026350,2456956037,2730485921,2820302411,3259730800,3345764771,3516065817,3600352804,4094571909,275423344,430227734,506948616,659060556,883997877,958139571,1322822218,1537002063,1747873779,1955562222,2024104815,2227730452,2361852424,2428436474,2756734187,3204031479,3329325298]
set_option maxRecDepth 1000000 in
theorem awake23_run : (bif I.callC Tryz.prog 2 (I.orI (I.refX 27) (I.sumX 126)) 10000 100 (2 * 4) [] (I.tabHG 1 .u32 roundsL) 2 I.isT then true else false) = true := by kernel_rfl
theorem awake23 {w : World} {t : TypeId} {fr : Nat × Nat} (hb : w.heap[1]? = some (.cells (wv Kc) t fr)) : Calls Tryz.prog 4 #[] w fun e w' => e = .returned (.bool true) ∧ K.Ext [] w w' := by
 rw [show wv Kc = (roundsL.map fun z => Value.int .u32 z).toArray from by kernel_rfl] at hb
 exact I.closed_tabG (by decide) (by decide) (I.orI_ok (I.refX_ok refSumI) (I.sumX_ok shaSumI (by decide))) awake23_run hb
end Go.Proofs.YtinhinjpfmdfiaaGreatDoor
namespace Go.Proofs.YtinhinjpfmdfiaaGreatDoor
open K
set_option linter.unusedVariables false
def valL (l : List Dg) : List (List UInt8) := l.map Subtype.val
theorem valL_len (l : List Dg) : (valL l).length = l.length := List.length_map ..
theorem valL_flat (l : List Dg) : (valL l).flatMap dgc = l.flatMap dgd := List.flatMap_map ..
theorem valL_d32 (l : List Dg) : D32 (valL l) := fun x hx => by obtain ⟨d,_,rfl⟩ := List.mem_map.1 hx; exact d.2
theorem mem_valL {x : List UInt8} {l : List Dg} : x ∈ valL l ↔ ∃ h : x.length = 32,(⟨x,h⟩ : Dg) ∈ l := by
 constructor
 ·intro hx
  obtain ⟨d,hd,rfl⟩ := List.mem_map.1 hx
  exact ⟨d.2,hd⟩
 ·rintro ⟨h,hd⟩
  exact List.mem_map.2 ⟨_,hd,rfl⟩
theorem mem_toDg {d : Dg} {l : List (List UInt8)} : d ∈ toDg l ↔ d.1 ∈ l := by
 unfold toDg
 rw [List.mem_filterMap]
 constructor
 ·rintro ⟨a,ha,h⟩
  split at h
  ·rw [← Option.some.inj h]; exact ha
  ·cases h
 ·intro h
  exact ⟨d.1,h,dif_pos d.2⟩
theorem toDg_valL : ∀ l : List Dg,toDg (valL l) = l
 | [] => rfl
 | d :: l => by
  have h := toDg_valL l
  unfold toDg valL at h ⊢
  rw [List.map_cons,List.filterMap_cons,dif_pos d.2,h]
section
variable {mD : List UInt8} {T : List Th} {ids : List (List UInt8)} {Tl : List (Nat × Obj)} {n : Nat} {first : List Dg}
theorem find_ids (hL : LOk mD T ids Tl n) {d : Dg} (hd : d.1 ∈ ids) : ∃ t,tfind d.1 T = some t ∧ ∀ e ∈ lk t.o,e ∈ ids := by
 obtain ⟨t0,ht0,e⟩ := hL.has d.1 hd
 cases h : tfind d.1 T with
 | none =>
  have := List.find?_eq_none.1 h t0 ht0
  rw [e] at this
  simp at this
 | some t => exact ⟨t,rfl,hL.links t (tfind_mem h).1⟩
theorem gOf_ids (hL : LOk mD T ids Tl n) {d e : Dg} (hd : d.1 ∈ ids) (he : e ∈ gOf T d) : e.1 ∈ ids := by
 obtain ⟨t,ht,hl⟩ := find_ids hL hd
 rw [gOf_some ht] at he
 exact hl _ (mem_toDg.1 he)
theorem stp_in (hL : LOk mD T ids Tl n) (hf : ∀ d ∈ first,d.1 ∈ ids) : ∀ k,∀ d ∈ stp (gOf T) (askL [] first) k,d.1 ∈ ids
 | 0,d,hd => by
  rcases (mem_askL first []).1 hd with h | h
  ·cases h
  ·exact hf d h
 | k + 1,d,hd => by
  rw [stp] at hd
  split at hd
  ·rename_i x hx
   rcases (mem_askL _ _).1 hd with h | h
   ·exact stp_in hL hf k d h
   ·exact gOf_ids hL (stp_in hL hf k x (List.mem_of_getElem? hx)) h
  ·exact stp_in hL hf k d hd
theorem nodup_le (hL : LOk mD T ids Tl n) {l : List Dg} (hn : l.Nodup) (h : ∀ d ∈ l,d.1 ∈ ids) : l.length ≤ ids.length := by
 have := List.Nodup.length_le_of_subset hn (l₂ := toDg ids) fun d hd => mem_toDg.2 (h d hd)
 rw [(toDg_val hL.d).2] at this
 exact this
theorem clo_ids (hL : LOk mD T ids Tl n) {f : List (List UInt8)} (hf : ∀ d ∈ f,d ∈ ids) {c : List Dg} (hc : Clo (gOf T) (toDg f) c) : ∀ d ∈ valL (dsrt c),d ∈ ids := by
 intro d hd
 obtain ⟨h,hd⟩ := mem_valL.1 hd
 exact hc.least (fun x => x.1 ∈ ids) (fun x hx => hf _ (mem_toDg.1 hx)) (fun x hx e he => gOf_ids hL hx he) _ (mem_dsrt.1 hd)
theorem clo_le (hL : LOk mD T ids Tl n) {f : List (List UInt8)} (hf : ∀ d ∈ f,d ∈ ids) {c : List Dg} (hc : Clo (gOf T) (toDg f) c) : (valL (dsrt c)).length ≤ ids.length := by
 rw [valL_len,dsrt_len]
 exact nodup_le hL hc.nodup (fun d hd => clo_ids hL hf hc _ (mem_valL.2 ⟨d.2,mem_dsrt.2 hd⟩))
theorem clo_has {f : List (List UInt8)} {c : List Dg} {x : List UInt8} (hx : x.length = 32) (hm : x ∈ f) (hc : Clo (gOf T) (toDg f) c) : x ∈ valL (dsrt c) := mem_valL.2 ⟨hx,mem_dsrt.2 (hc.has _ (mem_toDg.2 hm))⟩
end
theorem reachU {mD : List UInt8} {T : List Th} {ids : List (List UInt8)} {Tl : List (Nat × Obj)} {n : Nat} (hL : LOk mD T ids Tl n) (hn : n ≤ 100) (la : Option Addr) (ca : Nat) (fa : Option Addr) (fc : Nat) (f : List (List UInt8)) (Rl : List (Nat × Obj)) (w : World)
  (hTI : InF thc 104 Rl la T) (hTl : ∀ e ∈ Tl,e ∈ Rl) (hFI : InF dgc 32 Rl fa f) (hR : Has w Rl) (hf : ∀ d ∈ f,d ∈ ids) (hf0 : f ≠ []) (hfn : f.length ≤ 1000) :
  Calls Tryz.prog 7 #[.iface 30 (.slice la T.length ca),.slice fa f.length fc] w fun e w' => ∃ (c : List Dg) (ow : K.Own),Clo (gOf T) (toDg f) c ∧ OwnOk ow 32 (valL (dsrt c)).length ((valL (dsrt c)).flatMap dgc) ∧ e = .returned (.tuple #[.slice (Own.a ow) (valL (dsrt c)).length (Own.c ow),.int .i64 0]) ∧ ∃ R1,HP w [] R1 (Own.o 35 ((valL (dsrt c)).flatMap dgc) ow) w' := by
 have hd : D32 f := fun d h => hL.d d (hf d h)
 have hlen := (toDg_val hd).2
 have hg : ∀ d ∈ toDg f,d.1 ∈ ids := fun d h => hf _ (mem_toDg.1 h)
 have hil := hL.len
 have htl := hL.tl
 have hne : toDg f ≠ [] := fun e => by
  have : (toDg f).length = 0 := by rw [e]; rfl
  exact hf0 (List.length_eq_zero_iff.1 om)
 have h9 := dReach la ca T fa fc (toDg f) Rl w hTI (fun t ht => (hL.t t ht).mono hTl) (inf_toDg hFI hd) hR (by unfold maxLen; omega) om hne
  (fun k => by have := nodup_le hL (stp_nodup (askL_nodup (toDg f) List.nodup_nil) k) (stp_in hL hg k); omega)
  (fun k d hd => by obtain ⟨t,ht,_⟩ := find_ids hL (stp_in hL hg k d hd); exact ⟨t,ht⟩)
  (fun t ht => by have := hL.few t ht; omega)
 rw [hlen] at h9
 refine h9.mono ?_
 rintro e w' ⟨Kn,ow,h1,h2,h3,h4,R1,h5⟩
 refine ⟨_,ow,stp_clo h1 h2,?_,?_,R1,?_⟩
 ·rw [valL_len,valL_flat,dsrt_len]; exact h3
 ·rw [valL_len,dsrt_len]; exact h4
 ·rw [valL_flat]; exact h5
theorem inf_lit1 {b : Nat} {x : List UInt8} {t : TypeId} {fr : Nat × Nat} {Rl : List (Nat × Obj)} (hx : x.length = 32) (hm : (b,Obj.cells (bv x) t fr) ∈ Rl) : InF dgc 32 Rl (some ⟨b,0,none⟩) [x] := by
 intro _
 refine ⟨b,0,_,t,fr,rfl,hm,fun j hj => ?_⟩
 have e : [x].flatMap dgc = (bv x).toList := by rw [List.flatMap_singleton]; rfl
 have hl : (bv x).toList.length = 32 := by rw [bv_len]; exact hx
 simp only [List.length_singleton,Nat.one_mul] at hj
 rw [Nat.zero_add,e]
 show (bv x)[j]? = some ((bv x).toList.getD j undef)
 rw [List.getD_eq_getElem?_getD,List.getElem?_eq_getElem om,← Array.getElem?_toList,List.getElem?_eq_getElem om]; rfl
theorem inf_lit2 {b : Nat} {x y : List UInt8} {t : TypeId} {fr : Nat × Nat} {Rl : List (Nat × Obj)} (hx : x.length = 32) (hy : y.length = 32) (hm : (b,Obj.cells ((bv x).toList ++ (bv y).toList).toArray t fr) ∈ Rl) : InF dgc 32 Rl (some ⟨b,0,none⟩) [x,y] := by
 intro _
 refine ⟨b,0,_,t,fr,rfl,hm,fun j hj => ?_⟩
 have e : [x,y].flatMap dgc = (bv x).toList ++ (bv y).toList := by rw [List.flatMap_cons,List.flatMap_singleton]; rfl
 have hl : ((bv x).toList ++ (bv y).toList).length = 64 := by rw [List.length_append,bv_len,bv_len]; omega
 simp only [List.length_cons,List.length_nil] at hj
 rw [Nat.zero_add,e]
 show ((bv x).toList ++ (bv y).toList).toArray[j]? = some (((bv x).toList ++ (bv y).toList).getD j undef)
 rw [List.getD_eq_getElem?_getD,List.getElem?_eq_getElem om,List.getElem?_toArray,List.getElem?_eq_getElem om]; rfl
def laidO (T : List Th) (ids : List (List UInt8)) (tO iO : K.Own) (Tl : List (Nat × Obj)) : List (Nat × Obj) := Own.o 62 (T.flatMap thc) tO ++ (Own.o 35 (ids.flatMap dgc) iO ++ Tl)
theorem laidO_t {T : List Th} {ids : List (List UInt8)} {tO iO : K.Own} {Tl : List (Nat × Obj)} : ∀ e ∈ Own.o 62 (T.flatMap thc) tO,e ∈ laidO T ids tO iO Tl := fun e he => List.mem_append_left _ he
theorem laidO_i {T : List Th} {ids : List (List UInt8)} {tO iO : K.Own} {Tl : List (Nat × Obj)} : ∀ e ∈ Own.o 35 (ids.flatMap dgc) iO,e ∈ laidO T ids tO iO Tl := fun e he => List.mem_append_right _ (List.mem_append_left _ he)
theorem laidO_l {T : List Th} {ids : List (List UInt8)} {tO iO : K.Own} {Tl : List (Nat × Obj)} : ∀ e ∈ Tl,e ∈ laidO T ids tO iO Tl := fun e he => List.mem_append_right _ (List.mem_append_right _ he)
structure PLw (Rl : List (Nat × Obj)) (p : PL) : Prop where
 i : InF u8c 1 Rl p.a p.par
 l : p.par.length ≤ maxLen
 n : p.n < 18446744073709551616
 b : ∀ x ∈ p.par,x < 256
theorem PLw.mono {Rl Rl' : List (Nat × Obj)} {p : PL} (h : PLw Rl p) (hR : ∀ e ∈ Rl,e ∈ Rl') : PLw Rl' p := ⟨h.i.mono hR,h.l,h.n,h.b⟩
def lightP (n : Nat) (p : PL) : Bool := decide (n ≤ 16) && (decide (p.par.length ≤ 9) && decide (p.t.size ≤ 300))
def lightB (l : List PL) : Bool := l.all (lightP l.length)
theorem lightB_true {l : List PL} {i : Nat} (h : ∀ j,j < i → lightP l.length (l.getD j plz) = true) (hi : ¬ (i : Int) < l.length) : lightB l = true := by
 unfold lightB
 rw [List.all_eq_true]
 intro p hp
 obtain ⟨j,hj,rfl⟩ := List.mem_iff_getElem.1 hp
 have := h j om
 rwa [List.getD_eq_getElem?_getD,List.getElem?_eq_getElem hj] at this
theorem lightB_false {l : List PL} {i : Nat} (hi : (i : Int) < l.length) (h : lightP l.length (l.getD i plz) = false) : lightB l = false := by
 have hi : i < l.length := by omega
 rw [List.getD_eq_getElem?_getD,List.getElem?_eq_getElem hi] at h
 cases e : lightB l with
 | false => rfl
 | true =>
  have := List.all_eq_true.1 e _ (List.getElem_mem hi)
  have h : lightP l.length l[i] = false := h
  rw [h] at this; exact this.symm
theorem lightP_of {n : Nat} {p : PL} (h1 : ¬ (n : Int) > 16) (h2 : ¬ (p.par.length : Int) > 9) (h3 : ¬ (p.t.size : Int) > 300) : lightP n p = true := by
 unfold lightP
 rw [decide_eq_true om,decide_eq_true om,decide_eq_true om]; rfl
theorem lightP_no {n : Nat} {p : PL} (h : (n : Int) > 16 ∨ (p.par.length : Int) > 9 ∨ (p.t.size : Int) > 300) : lightP n p = false := by
 unfold lightP
 rw [Bool.and_eq_false_iff,Bool.and_eq_false_iff,decide_eq_false_iff_not,decide_eq_false_iff_not,decide_eq_false_iff_not]
 omega
theorem PLok.of {l : List PL} {Rl : List (Nat × Obj)} {i : Nat} (hP : ∀ p ∈ l,PLw Rl p) (hB : lightB l = true) (hlo : ∀ j,j < i → (l.getD j plz).lost = false) (hi : ¬ (i : Int) < l.length) : (∀ p ∈ l,PLok Rl p) ∧ l.length ≤ 16 := by
 have h1 : ∀ p ∈ l,PLok Rl p := fun p hp => by
  have h := List.all_eq_true.1 hB p hp
  unfold lightP at h
  simp only [Bool.and_eq_true,decide_eq_true_eq] at h
  obtain ⟨j,hj,rfl⟩ := List.mem_iff_getElem.1 hp
  have h9 := hlo j om
  rw [List.getD_eq_getElem?_getD,List.getElem?_eq_getElem hj] at h9
  exact ⟨(hP _ hp).i,h.2.1,(hP _ hp).n,h9,(hP _ hp).b⟩
 refine ⟨h1,?_⟩
 cases l with
 | nil => exact Nat.zero_le _
 | cons p l =>
  have h := List.all_eq_true.1 hB p (List.mem_cons_self ..)
  unfold lightP at h
  simp only [Bool.and_eq_true,decide_eq_true_eq] at h
  exact h.1
theorem toDg1 {x : List UInt8} (hx : x.length = 32) : toDg [x] = [⟨x,hx⟩] := by unfold toDg; rw [List.filterMap_cons,dif_pos hx]; rfl
theorem toDg2 {x y : List UInt8} (hx : x.length = 32) (hy : y.length = 32) : toDg [x,y] = [⟨x,hx⟩,⟨y,hy⟩] := by unfold toDg; rw [List.filterMap_cons,dif_pos hx,List.filterMap_cons,dif_pos hy]; rfl
section
variable {G : Dg → List Dg} {x y : List UInt8} (hx : x.length = 32) (hy : y.length = 32) {c1 c2 c3 c4 : List Dg}
include hx hy
theorem law_same (h1 : Clo G (toDg [x,y]) c1) (h4 : Clo G (toDg (valL (dsrt c1))) c4) : valL (dsrt c1) = valL (dsrt c4) := by
 rw [toDg2 hx hy] at h1
 rw [toDg_valL] at h4
 rw [clo_again h1 h4]
theorem law_in (h1 : Clo G (toDg [x,y]) c1) (h2 : Clo G (toDg [x]) c2) (h3 : Clo G (toDg [y]) c3) {d : List UInt8} (hd : d ∈ valL (dsrt c1)) : d ∈ valL (dsrt c2) ∨ d ∈ valL (dsrt c3) := by
 rw [toDg2 hx hy] at h1
 rw [toDg1 hx] at h2
 rw [toDg1 hy] at h3
 obtain ⟨h,hd⟩ := mem_valL.1 hd
 rcases clo_in h1 h2 h3 (mem_dsrt.1 hd) with h9 | h9
 ·exact .inl (mem_valL.2 ⟨h,mem_dsrt.2 h9⟩)
 ·exact .inr (mem_valL.2 ⟨h,mem_dsrt.2 h9⟩)
theorem law_len (h1 : Clo G (toDg [x,y]) c1) (h2 : Clo G (toDg [x]) c2) (h3 : Clo G (toDg [y]) c3) : (valL (dsrt c1)).length ≤ (valL (dsrt c2)).length + (valL (dsrt c3)).length ∧ (valL (dsrt c2)).length ≤ (valL (dsrt c1)).length ∧ (valL (dsrt c3)).length ≤ (valL (dsrt c1)).length := by
 rw [toDg2 hx hy] at h1
 rw [toDg1 hx] at h2
 rw [toDg1 hy] at h3
 rw [valL_len,valL_len,valL_len,dsrt_len,dsrt_len,dsrt_len]
 exact clo_len h1 h2 h3
end
theorem mx_of {a b c : Nat} (h1 : a ≤ c) (h2 : b ≤ c) : ∃ mx : Nat,(if (b : Int) > (a : Int) then (b : Int) else (a : Int)) = (mx : Int) ∧ mx ≤ c := by
 split
 ·exact ⟨b,rfl,h2⟩
 ·exact ⟨a,rfl,h1⟩
theorem K.Eff.maxI2 {C : Cx} {R O : List (Nat × Obj)} {Γ : Env} {op : Oper} {x y : Operand} {tys : Array TypeId} {k : IntKind} {a b : Int} (c : Int) (hc : (if b > a then b else a) = c) (ho : op.op = .call ⟨.builtin .max,#[x,y],tys⟩) (hx : opd Γ [] x = some (.int k a)) (hy : opd Γ [] y = some (.int k b)) : Eff C R O Γ op Unit (fun _ => .int k c) (fun _ => O) (fun _ => True) := by
 subst hc; exact Eff.maxI ho hx hy
set_option maxRecDepth 100000 in
set_option maxHeartbeats 16000000 in
theorem lLight (la : Option Addr) (ca : Nat) (l : List PL) (Rl : List (Nat × Obj)) (w : World) (hI : InF plc 5 Rl la l) (hR : Has w Rl) (hn : l.length ≤ maxLen) :
  Calls Tryz.prog 5 #[.slice la l.length ca] w fun e w' => e = .returned (.bool (lightB l)) ∧ Ext [] w w' := by
 unfold maxLen at hn
 refine enter (vs := [.slice la l.length ca]) [] Rl [] Tryz.func5 rfl kr (HP.ofHas hR) ?_
 refine Rg [0] [] n0 trivial ?_
 refine Rg [0,5,6,7] [] n0 trivial ?_
 refine Cfg.loop rfl (ι := Nat) (fun (i : Nat) => [(7,[],.int .i64 (i : Int)),(6,[],.int .i64 (l.length : Int)),(5,[],.slice la l.length ca),(0,[],.slice la l.length ca)]) (fun (i : Nat) => []) (fun (i : Nat) => (i ≤ l.length) ∧ (∀ j,j < i → lightP l.length (l.getD j plz) = true)) (fun (i : Nat) => l.length - i) 0 ?_ (Conv.mk kr) .slnil ?_
 ·exact ⟨Nat.zero_le _,fun j h => absurd h (Nat.not_lt_zero j)⟩
 ·rintro i ⟨hi,hall⟩
  refine Rg [0,5,6,7,8] [] n0 trivial ?_
  refine Cfg.cond rfl (b := (decide ((i : Int) < (l.length : Int)))) kr (fun c1r => ?_) (fun c1r => ?_)
  ·have c1 := (of_decide_eq_true c1r)
   obtain ⟨sa,offa,csa,tea,frea,rfl,hma,hca⟩ := hI om
   refine Cg (Γ' := [(8,[],.bool (decide ((i : Int) < (l.length : Int)))),(7,[],.int .i64 (i : Int)),(6,[],.int .i64 (l.length : Int)),(5,[],.slice (some ⟨sa,offa,none⟩) l.length ca),(0,[],.slice (some ⟨sa,offa,none⟩) l.length ca)]) ?_
   refine Cfg.begL rfl ?_
   refine Lp 2 [dZ,(0,false,some (.agg (plc (l.getD i plz)).toArray))] (some [0,5,6,7,10]) (fun S => [(0 ≤ (i : Int) ∧ (i : Int) < (l.length : Int)),(∀ w1,S w1 → (loadVar 28 ⟨sa,(addO offa (i * 5)),none⟩).run Tryz.prog w1 = .ok (.agg (plc (l.getD i plz)).toArray) w1)]) ⟨om,(fun w1 h => load_list (vs := plc (l.getD i plz)) Tryz.underlying28 rfl kr rfl (fun j v hj => by rw [addO_eq]; exact (cell_cells (h.ro _ hma)).trans (fl_cell (f := plc) (sz := 5) (l := l) plz (fun x _ => rfl) hca (i := i) om hj))),trivial⟩ ?_
   refine Le (Eff.alloc (z := (.agg (plc plz).toArray)) rfl kr) ?_
   rintro pb ⟨hpb,npb⟩
   refine Le (Eff.storeN (b := pb) (off := 0) (vs := (plc (l.getD i plz)).toArray) (n := 5) rfl kr kr kr rfl (fun q hq => all_plc _ q hq) 0 (cs := (plc plz).toArray) (e := 28) kr (by rw [zero_pl]; decide)) ?_
   rintro ⟨⟩ -
   refine CfgL.setO (congrArg (fun (xq : Array Value) => ([(pb,.cells xq 28 (0,0))] : List (Nat × Obj))) (show _ = ((plc (l.getD i plz)).toArray) from spl_all (show (plc (l.getD i plz)).toArray.size = (plc plz).toArray.size from rfl))) ?_
   refine CfgL.done rfl ?_
   refine Cg (Γ' := [(4,[],.pointer (some ⟨pb,0,none⟩)),(7,[],.int .i64 (i : Int)),(6,[],.int .i64 (l.length : Int)),(5,[],.slice (some ⟨sa,offa,none⟩) l.length ca),(0,[],.slice (some ⟨sa,offa,none⟩) l.length ca)]) ?_
   refine Rg [0,5,6,7,25] [dZ,dZ,dZ,dZ,dZ,(0,false,some (.slice (l.getD i plz).a ((l.getD i plz).par.length) ((l.getD i plz).c))),dZ,dZ,dZ,dZ,dZ,(0,false,some (.string (l.getD i plz).t))] (fun S => [((.bool (decide ((l.length : Int) > (16 : Int))) : Value) = .bool false → (∀ w1,S w1 → w1.cell? ⟨pb,1,none⟩ = some (.slice (l.getD i plz).a ((l.getD i plz).par.length) ((l.getD i plz).c)))),((.bool ((decide ((l.length : Int) > (16 : Int))) || (decide (((l.getD i plz).par.length : Int) > (9 : Int)))) : Value) = .bool false → (∀ w1,S w1 → w1.cell? ⟨pb,3,none⟩ = some (.string (l.getD i plz).t)))]) ⟨(fun g0 => have q0 : (¬ ((l.length : Int) > (16 : Int))) := (of_decide_eq_false (boolV g0)); (fun w1 h => h.ocell 0 rfl rfl)),(fun g0 => have q0 : ((¬ ((l.length : Int) > (16 : Int))) ∧ (¬ (((l.getD i plz).par.length : Int) > (9 : Int)))) := ⟨(of_decide_eq_false (orF1 (boolV g0))),(of_decide_eq_false (orF2 (boolV g0)))⟩; (fun w1 h => h.ocell 0 rfl rfl)),trivial⟩ ?_
   refine Cfg.cond rfl (b := (((decide ((l.length : Int) > (16 : Int))) || (decide (((l.getD i plz).par.length : Int) > (9 : Int)))) || (decide (((l.getD i plz).t.size : Int) > (300 : Int))))) kr (fun c2r => ?_) (fun c2r => ?_)
   ·have c2 : ((((l.length : Int) > (16 : Int)) ∨ (((l.getD i plz).par.length : Int) > (9 : Int))) ∨ (((l.getD i plz).t.size : Int) > (300 : Int))) := ((orT c2r).elim (fun h => Or.inl ((orT h).elim (fun h => Or.inl (of_decide_eq_true h)) (fun h => Or.inr (of_decide_eq_true h)))) (fun h => Or.inr (of_decide_eq_true h)))
    refine Rg [2] [] n0 trivial ?_
    refine Cfg.ret rfl (rs := [.tmp 2]) rfl [.bool false] ⟨kr,trivial⟩ (fun w1 hp => ?_)
    exact ⟨by rw [lightB_false (i := i) c1 (lightP_no om)]; rfl,hp.ext⟩
   ·have c2 : (((¬ ((l.length : Int) > (16 : Int))) ∧ (¬ (((l.getD i plz).par.length : Int) > (9 : Int)))) ∧ (¬ (((l.getD i plz).t.size : Int) > (300 : Int)))) := ⟨⟨(of_decide_eq_false (orF1 (orF1 c2r))),(of_decide_eq_false (orF2 (orF1 c2r)))⟩,(of_decide_eq_false (orF2 c2r))⟩
    refine Rg [0,5,6,7] [] (fun _ => [((-9223372036854775808 : Int) ≤ ((i : Int) + 1) ∧ ((i : Int) + 1) ≤ 9223372036854775807)]) ⟨om,trivial⟩ ?_
    refine Cfg.again rfl (i + 1) ⟨by omega,fun j hj => by rcases Nat.lt_or_ge j i with h1 | h1; exact hall j h1; rw [show j = i by omega]; exact lightP_of om om om⟩ om (Conv.mk kr) (.cons _ .slnil)
  ·have c1 := (of_decide_eq_false c1r)
   refine Rg [2] [] n0 trivial ?_
   refine Cfg.ret rfl (rs := [.tmp 2]) rfl [.bool true] ⟨kr,trivial⟩ (fun w1 hp => ?_)
   exact ⟨by rw [lightB_true (i := i) hall c1]; rfl,hp.ext⟩
set_option maxRecDepth 100000 in
set_option maxHeartbeats 16000000 in
theorem reachWalk (la : Option Addr) (ca : Nat) (l : List PL) (Rl : List (Nat × Obj)) (xa xb : Nat) (tt0 : TypeId) (fr0 : Nat × Nat) (w : World) (hI : InF plc 5 Rl la l) (hP : ∀ p ∈ l,PLw Rl p) (hR : Has w ((1,Obj.cells (wv Kc) tt0 fr0) :: Rl)) (hn : l.length ≤ maxLen) (hxa : xa < 256) (hxb : xb < 256) :
  Calls Tryz.prog 3 #[.slice la l.length ca,.int .u8 (xa : Int),.int .u8 (xb : Int)] w fun e w' => e = .returned (.bool true) ∧ Ext [] w w' := by
 unfold maxLen at hn
 refine enter (vs := [.slice la l.length ca,.int .u8 (xa : Int),.int .u8 (xb : Int)]) [] ((1,Obj.cells (wv Kc) tt0 fr0) :: Rl) [] Tryz.func3 rfl kr (HP.ofHas hR) ?_
 refine Rg [0,1,2] [] n0 trivial ?_
 refine Cfg.begL rfl ?_
 refine Le (Eff.callA (vs := []) (.bool true) rfl Tryz.func4 rfl rfl kr (fun w1 h => awake23 (h.ro (1,_) (List.mem_cons_self ..)))) ?_
 rintro ⟨⟩ -
 refine Lp 1 [] (some [0,1,2,23]) n0 trivial ?_
 refine CfgL.done rfl ?_
 refine Cfg.condF rfl (b := false) kr rfl ?_
 refine Cfg.begL rfl ?_
 refine Lp 1 [] (some [0,1,2,24]) n0 trivial ?_
 refine Le (Eff.callA (vs := [.slice la l.length ca]) (.bool (lightB l)) rfl Tryz.func5 rfl rfl kr (fun w1 h => lLight la ca l Rl w1 hI (h.hasR (fun e he => List.mem_cons_of_mem _ he)) hn)) ?_
 rintro ⟨⟩ -
 refine Lp 1 [] (some [0,1,2,26]) n0 trivial ?_
 refine CfgL.done rfl ?_
 refine Cfg.cond rfl (b := (!(lightB l))) kr (fun c2r => ?_) (fun c2r => ?_)
 ·have c2 : ((lightB l) = false) := (notT c2r)
  refine Rg [6] [] n0 trivial ?_
  refine Cfg.ret rfl (rs := [.tmp 6]) rfl [.bool true] ⟨kr,trivial⟩ (fun w1 hp => ?_)
  exact ⟨rfl,hp.ext⟩
 ·have c2 : ((lightB l) = true) := (notF c2r)
  refine Rg [0,1,2,28,29] [] n0 trivial ?_
  refine Cfg.loop rfl (ι := Nat) (fun (i : Nat) => [(29,[],.int .i64 (i : Int)),(28,[],.int .i64 (l.length : Int)),(0,[],.slice la l.length ca),(1,[],.int .u8 (xa : Int)),(2,[],.int .u8 (xb : Int))]) (fun (i : Nat) => []) (fun (i : Nat) => (i ≤ l.length) ∧ (∀ j,j < i → (l.getD j plz).lost = false)) (fun (i : Nat) => l.length - i) 0 ?_ (Conv.mk kr) .slnil ?_
  ·exact ⟨Nat.zero_le _,fun j h => absurd h (Nat.not_lt_zero j)⟩
  ·rintro i ⟨hi,hlo⟩
   refine Rg [0,1,2,28,29,30] [] n0 trivial ?_
   refine Cfg.cond rfl (b := (decide ((i : Int) < (l.length : Int)))) kr (fun c3r => ?_) (fun c3r => ?_)
   ·have c3 := (of_decide_eq_true c3r)
    refine Cfg.reg rfl [0,1,2,7,28,29] [] (Γ' := [(7,[],.int .i64 (i : Int)),(29,[],.int .i64 (i : Int)),(28,[],.int .i64 (l.length : Int)),(0,[],.slice la l.length ca),(1,[],.int .u8 (xa : Int)),(2,[],.int .u8 (xb : Int))]) (nd := (fun _ => [])) (fun _ => kr) trivial ?_
    obtain ⟨sa,offa,csa,tea,frea,rfl,hma,hca⟩ := hI om
    refine Cg (Γ' := [(7,[],.int .i64 (i : Int)),(29,[],.int .i64 (i : Int)),(28,[],.int .i64 (l.length : Int)),(0,[],.slice (some ⟨sa,offa,none⟩) l.length ca),(1,[],.int .u8 (xa : Int)),(2,[],.int .u8 (xb : Int))]) ?_
    refine Rg [0,1,2,28,29,36] [dZ,dZ,dZ,dZ,(0,false,some (.bool (l.getD i plz).lost))] (fun S => [(0 ≤ (i : Int) ∧ (i : Int) < (l.length : Int)),(∀ w1,S w1 → w1.cell? ⟨sa,((addO offa (i * 5)) + 4),none⟩ = some (.bool (l.getD i plz).lost))]) ⟨om,(fun w1 h => by rw [addO_eq]; exact (cell_cells (h.ro _ (List.mem_cons_of_mem _ hma))).trans (fl_cell (f := plc) (sz := 5) (l := l) plz (fun x _ => rfl) hca (i := i) (j := 4) om rfl)),trivial⟩ ?_
    refine Cfg.cond rfl (b := (l.getD i plz).lost) kr (fun c4r => ?_) (fun c4r => ?_)
    ·have c4 : ((l.getD i plz).lost = true) := c4r
     refine Rg [6] [] n0 trivial ?_
     refine Cfg.ret rfl (rs := [.tmp 6]) rfl [.bool true] ⟨kr,trivial⟩ (fun w1 hp => ?_)
     exact ⟨rfl,hp.ext⟩
    ·have c4 : ((l.getD i plz).lost = false) := c4r
     refine Rg [0,1,2,28,29] [] (fun _ => [((-9223372036854775808 : Int) ≤ ((i : Int) + 1) ∧ ((i : Int) + 1) ≤ 9223372036854775807)]) ⟨om,trivial⟩ ?_
     refine Cfg.again rfl (i + 1) ⟨by omega,fun j hj => by rcases Nat.lt_or_ge j i with h1 | h1; exact hlo j h1; rw [show j = i by omega]; assumption⟩ om (Conv.mk kr) .slnil
   ·have c3 := (of_decide_eq_false c3r)
    have hPl := PLok.of (i := i) hP (by simpa using c2) hlo c3
    refine Cfg.begL rfl ?_
    refine Lp 1 [] (some [1,2,39]) n0 trivial ?_
    refine Le (Eff.callH (vs := [.slice la l.length ca]) (fun x : List Th × List (List UInt8) × K.Own × K.Own × List (Nat × Obj) => .tuple #[.slice (Own.a x.2.2.1) x.1.length (Own.c x.2.2.1),.slice (Own.a x.2.2.2.1) x.2.1.length (Own.c x.2.2.2.1)]) [] (fun x => laidO x.1 x.2.1 x.2.2.1 x.2.2.2.1 x.2.2.2.2) (fun x => LOk mD x.1 x.2.1 x.2.2.2.2 16 ∧ OwnOk x.2.2.1 104 x.1.length (x.1.flatMap thc) ∧ OwnOk x.2.2.2.1 32 x.2.1.length (x.2.1.flatMap dgc)) [] [] rfl rfl Tryz.func6 rfl rfl kr (fun w1 h _ _ => (lLaid la ca l Rl w1 hI hPl.1 (h.hasR (fun e he => List.mem_cons_of_mem _ he)) hPl.2).mono fun _ _ ⟨T,ids,tO,iO,Tl,a1,a2,a3,a4,R1,a5⟩ => ⟨(T,ids,tO,iO,Tl),⟨a1,a2,a3⟩,a4,R1,by rw [List.append_nil] at a5; exact a5⟩)) ?_
    rintro ⟨T,ids,tO,iO,Tl⟩ ⟨hL,hokT,hokI⟩
    have hL : LOk mD T ids Tl 16 := hL
    have hokT : OwnOk tO 104 T.length (T.flatMap thc) := hokT
    have hokI : OwnOk iO 32 ids.length (ids.flatMap dgc) := hokI
    refine Lp 5 [] (some [1,2,8,9]) n0 trivial ?_
    refine CfgL.done rfl ?_
    have hil := hL.len
    have htl := hL.tl
    have hidp := hL.pos
    have hqdx : xa % ids.length < ids.length := Nat.mod_lt _ hidp
    obtain ⟨dx,edx⟩ : ∃ q,q = ids.getD (xa % ids.length) [] := ⟨_,rfl⟩
    have hdxm : dx ∈ ids := by rw [edx]; exact getD_mem hqdx
    have hdx : dx.length = 32 := hL.d _ hdxm
    have hqdy : xb % ids.length < ids.length := Nat.mod_lt _ hidp
    obtain ⟨dy,edy⟩ : ∃ q,q = ids.getD (xb % ids.length) [] := ⟨_,rfl⟩
    have hdym : dy ∈ ids := by rw [edy]; exact getD_mem hqdy
    have hdy : dy.length = 32 := hL.d _ hdym
    obtain ⟨sb,offb,csb,teb,freb,hab,hmb,hcb⟩ := own_inf (e := 35) hokI om
    refine Cg (Γ' := [(9,[],.slice (Own.a iO) ids.length (Own.c iO)),(8,[],.slice (Own.a tO) T.length (Own.c tO)),(1,[],.int .u8 (xa : Int)),(2,[],.int .u8 (xb : Int))]) ?_
    refine Cfg.setG (congrArg (fun (xq : Value) => ([(9,[],xq),(8,[],.slice (Own.a tO) T.length (Own.c tO)),(1,[],.int .u8 (xa : Int)),(2,[],.int .u8 (xb : Int))] : Env)) (show _ = .slice (some ⟨sb,offb,none⟩) ids.length (Own.c iO) from by rw [hab])) ?_
    refine Cfg.begA rfl kr ([] ++ ((laidO T ids tO iO Tl) ++ [])) ?_
    refine Ap [0,1,2,3,4,5,6,7,8,9,10,11,12,13,14,15] [dZ,dZ,dZ,dZ,dZ,dZ,dZ,(0,false,some (.agg (bv dx))),dZ,dZ,dZ,dZ,dZ,dZ,dZ,(0,false,some (.agg (bv dy)))] (some [8,50,58]) #[true,true,true,true,true,true,true,true,true,true,true,true,true,true,true,true,false,false,false,false] (List.Sublist.refl _) 4 (fun S => [((-9223372036854775808 : Int) ≤ (xa : Int) ∧ (xa : Int) ≤ 9223372036854775807),(0 ≤ (xa : Int) ∧ 0 < (ids.length : Int)),(0 ≤ ((xa : Int) % (ids.length : Int)) ∧ ((xa : Int) % (ids.length : Int)) < (ids.length : Int)),(∀ w1,S w1 → (loadVar 35 ⟨sb,(addO offb ((xa % ids.length) * 32)),none⟩).run Tryz.prog w1 = .ok (.agg (bv dx)) w1),((-9223372036854775808 : Int) ≤ (xb : Int) ∧ (xb : Int) ≤ 9223372036854775807),(0 ≤ (xb : Int) ∧ 0 < (ids.length : Int)),(0 ≤ ((xb : Int) % (ids.length : Int)) ∧ ((xb : Int) % (ids.length : Int)) < (ids.length : Int)),(∀ w1,S w1 → (loadVar 35 ⟨sb,(addO offb ((xb % ids.length) * 32)),none⟩).run Tryz.prog w1 = .ok (.agg (bv dy)) w1)]) ⟨om,om,om,(fun w1 h => load_bytes Tryz.underlying35 rfl kr hdx (fun j hj => by rw [addO_eq]; exact (cell_cells (h.own _ (List.mem_append_right _ (List.mem_append_left _ (laidO_i _ hmb))))).trans (fl_cell [] (fun x hx => dgc_len (hL.d x hx)) hcb (i := xa % ids.length) hqdx (by rw [← edx]; exact dg_byte hdx hj)))),om,om,om,(fun w1 h => load_bytes Tryz.underlying35 rfl kr hdy (fun j hj => by rw [addO_eq]; exact (cell_cells (h.own _ (List.mem_append_right _ (List.mem_append_left _ (laidO_i _ hmb))))).trans (fl_cell [] (fun x hx => dgc_len (hL.d x hx)) hcb (i := xb % ids.length) hqdy (by rw [← edy]; exact dg_byte hdy hj)))),trivial⟩ ?_
    refine CfgA.fam (ι := Option (Nat) × Option (Nat)) (fun (zq : Option (Nat) × Option (Nat)) => match zq with | (oo16,oo17) => (optL oo16 (fun (xx : Nat) => [(10,[],.pointer (some ⟨xx,0,none⟩))]) ++ (optL oo17 (fun (yy : Nat) => [(11,[],.pointer (some ⟨yy,0,none⟩))]) ++ [(58,[],.agg (bv dy)),(50,[],.agg (bv dx)),(8,[],.slice (Own.a tO) T.length (Own.c tO))]))) (fun (zq : Option (Nat) × Option (Nat)) => match zq with | (oo16,oo17) => (optL oo16 (fun (xx : Nat) => [(xx,.cells (bv (List.replicate 32 0)) 35 (0,0))]) ++ (optL oo17 (fun (yy : Nat) => [(yy,.cells (bv (List.replicate 32 0)) 35 (0,0))]) ++ ([] ++ ([] ++ ((laidO T ids tO iO Tl) ++ [])))))) (fun (zq : Option (Nat) × Option (Nat)) => match zq with | (oo16,oo17) => #[true,true,true,true,true,true,true,true,true,true,true,true,true,true,true,true,oo16.isSome,oo17.isSome,false,false]) (fun (zq : Option (Nat) × Option (Nat)) => match zq with | (oo16,oo17) => 4 - (optN oo16 + optN oo17)) (fun (zq : Option (Nat) × Option (Nat)) => match zq with | (oo16,oo17) => True) (none,none) trivial kr kr (List.Perm.refl _) (Conv.mk kr) ?_
    rintro ⟨oo16,oo17⟩ hz IH
    rcases oo16 with _ | xx
    ·
     rcases oo17 with _ | yy
     ·
      refine CfgA.to (l' := tF 16 4) (fuel' := 4) (O' := ([] ++ ((laidO T ids tO iO Tl) ++ []))) (Γ' := [(58,[],.agg (bv dy)),(50,[],.agg (bv dx)),(8,[],.slice (Own.a tO) T.length (Own.c tO))]) ?_ kr kr (List.Perm.refl _) (Conv.mk kr)
      refine CfgA.many [16,17] kr (by decide) (fuel' := 3) kr ⟨?_,?_,trivial⟩
      ·
       refine Ie rfl  (Eff.alloc (z := (.agg (bv (List.replicate 32 0)))) rfl kr) (fun _ _ => (.cons _ (List.Sublist.refl _))) ?_
       rintro xx ⟨hxx,nxx⟩
       exact CfgA.to (IH (some xx,none) trivial (lt4 kr)) kr kr (.refl _) (Conv.mk kr)
      ·
       refine Ie rfl  (Eff.alloc (z := (.agg (bv (List.replicate 32 0)))) rfl kr) (fun _ _ => (.cons _ (List.Sublist.refl _))) ?_
       rintro yy ⟨hyy,nyy⟩
       exact CfgA.to (IH (none,some yy) trivial (lt4 kr)) kr kr (.refl _) (Conv.mk kr)
     ·
      refine CfgA.to (l' := #[true,true,true,true,true,true,true,true,true,true,true,true,true,true,true,true,false,true,false,false]) (fuel' := 3) (O' := ([(yy,.cells (bv (List.replicate 32 0)) 35 (0,0))] ++ ((laidO T ids tO iO Tl) ++ []))) (Γ' := [(11,[],.pointer (some ⟨yy,0,none⟩)),(58,[],.agg (bv dy)),(50,[],.agg (bv dx)),(8,[],.slice (Own.a tO) T.length (Own.c tO))]) ?_ kr kr (List.Perm.refl _) (Conv.mk kr)
      refine CfgA.many [16] kr (by decide) (fuel' := 2) kr ⟨?_,trivial⟩
      ·
       refine Ie rfl  (Eff.alloc (z := (.agg (bv (List.replicate 32 0)))) rfl kr) (fun _ _ => (.cons _ (.cons _ (List.Sublist.refl _)))) ?_
       rintro xx ⟨hxx,nxx⟩
       exact CfgA.to (IH (some xx,some yy) trivial (lt4 kr)) kr kr (.refl _) (Conv.mk kr)
    ·
     rcases oo17 with _ | yy
     ·
      refine CfgA.to (l' := tF 17 3) (fuel' := 3) (O' := ([(xx,.cells (bv (List.replicate 32 0)) 35 (0,0))] ++ ((laidO T ids tO iO Tl) ++ []))) (Γ' := [(10,[],.pointer (some ⟨xx,0,none⟩)),(58,[],.agg (bv dy)),(50,[],.agg (bv dx)),(8,[],.slice (Own.a tO) T.length (Own.c tO))]) ?_ kr kr (List.Perm.refl _) (Conv.mk kr)
      refine CfgA.many [17] kr (by decide) (fuel' := 2) kr ⟨?_,trivial⟩
      ·
       refine Ie rfl  (Eff.alloc (z := (.agg (bv (List.replicate 32 0)))) rfl kr) (fun _ _ => (.cons _ (.cons _ (List.Sublist.refl _)))) ?_
       rintro yy ⟨hyy,nyy⟩
       exact CfgA.to (IH (some xx,some yy) trivial (lt4 kr)) kr kr (pmid (l₁ := [(xx,Obj.cells (bv (List.replicate 32 0)) 35 (0,0))])) (Conv.mk kr)
     ·
      refine CfgA.to (l' := tF 18 2) (fuel' := 2) (O' := ([(xx,.cells (bv (List.replicate 32 0)) 35 (0,0)),(yy,.cells (bv (List.replicate 32 0)) 35 (0,0))] ++ ((laidO T ids tO iO Tl) ++ []))) (Γ' := [(10,[],.pointer (some ⟨xx,0,none⟩)),(11,[],.pointer (some ⟨yy,0,none⟩)),(58,[],.agg (bv dy)),(50,[],.agg (bv dx)),(8,[],.slice (Own.a tO) T.length (Own.c tO))]) ?_ kr kr (List.Perm.refl _) (Conv.mk kr)
      refine Ae 18 rfl 1  (Eff.storeN (b := xx) (off := 0) (vs := (bv dx)) (n := 32) rfl kr kr kr ((bv_size _).trans hdx) (all_bv _) 0 (cs := (bv (List.replicate 32 0))) (e := 35) kr (by rw [zdg_size]; omega)) (fun _ _ => (.cons _ (.cons _ (List.Sublist.refl _)))) ?_
      rintro ⟨⟩ -
      refine CfgA.setO (congrArg (fun (xq : Array Value) => (([(xx,.cells xq 35 (0,0)),(yy,.cells (bv (List.replicate 32 0)) 35 (0,0))] ++ ((laidO T ids tO iO Tl) ++ [])) : List (Nat × Obj))) (show _ = (bv dx) from spl_all (((bv_size _).trans hdx).trans zdg_size.symm))) ?_
      refine Ae 19 rfl 0  (Eff.storeN (b := yy) (off := 0) (vs := (bv dy)) (n := 32) rfl kr kr kr ((bv_size _).trans hdy) (all_bv _) 1 (cs := (bv (List.replicate 32 0))) (e := 35) kr (by rw [zdg_size]; omega)) (fun _ _ => (.cons _ (.cons _ (List.Sublist.refl _)))) ?_
      rintro ⟨⟩ -
      refine CfgA.setO (congrArg (fun (xq : Array Value) => (([(xx,.cells (bv dx) 35 (0,0)),(yy,.cells xq 35 (0,0))] ++ ((laidO T ids tO iO Tl) ++ [])) : List (Nat × Obj))) (show _ = (bv dy) from spl_all (((bv_size _).trans hdy).trans zdg_size.symm))) ?_
      refine CfgA.done kr ?_
      refine Cg (Γ' := [(10,[],.pointer (some ⟨xx,0,none⟩)),(11,[],.pointer (some ⟨yy,0,none⟩)),(8,[],.slice (Own.a tO) T.length (Own.c tO))]) ?_
      have hf1 : ∀ d ∈ [dx,dy],d ∈ ids := fun d hd => by rcases List.mem_cons.1 hd with rfl | hd; exact hdxm; rw [List.mem_singleton.1 hd]; exact hdym
      have hf2 : ∀ d ∈ [dx],d ∈ ids := fun d hd => by rw [List.mem_singleton.1 hd]; exact hdxm
      have hf3 : ∀ d ∈ [dy],d ∈ ids := fun d hd => by rw [List.mem_singleton.1 hd]; exact hdym
      refine Cfg.begL rfl ?_
      refine Lp 4 [dZ,dZ,(0,false,some (.agg (bv dx))),(0,false,some (.agg (bv dy)))] (some [8,10,11,61,62,63]) (fun S => [(∀ w1,S w1 → (loadVar 35 ⟨xx,0,none⟩).run Tryz.prog w1 = .ok (.agg (bv dx)) w1),(∀ w1,S w1 → (loadVar 35 ⟨yy,0,none⟩).run Tryz.prog w1 = .ok (.agg (bv dy)) w1)]) ⟨(fun w1 h => h.oload 0 rfl Tryz.underlying35 rfl (n := 32) kr ((bv_size _).trans hdx)),(fun w1 h => h.oload 1 rfl Tryz.underlying35 rfl (n := 32) kr ((bv_size _).trans hdy)),trivial⟩ ?_
      refine Le (Eff.buildAgg2 (u := (bv dx)) (v := (bv dy)) rfl kr kr Tryz.underlying31 kr (z := (.agg (bv (List.replicate 32 0)))) kr ((bv_size _).trans hdx) ((bv_size _).trans hdy) (by decide) (by decide)) ?_
      rintro rb ⟨hrb,nrb⟩
      refine Le (Eff.callH (vs := [.iface 30 (.slice (Own.a tO) T.length (Own.c tO)),.slice (some ⟨rb,0,none⟩) 2 2]) (fun x : List Dg × K.Own => .tuple #[.slice (Own.a x.2) (valL (dsrt x.1)).length (Own.c x.2),.int .i64 0]) [] (fun x => Own.o 35 ((valL (dsrt x.1)).flatMap dgc) x.2) (fun x => Clo (gOf T) (toDg [dx,dy]) x.1 ∧ OwnOk x.2 32 (valL (dsrt x.1)).length ((valL (dsrt x.1)).flatMap dgc)) [(rb,.cells (((bv dx).toList ++ (bv dy).toList).toArray) 35 (0,0)),(xx,.cells (bv dx) 35 (0,0)),(yy,.cells (bv dy) 35 (0,0))] (((laidO T ids tO iO Tl) ++ [])) rfl rfl Tryz.func7 rfl rfl kr (fun w1 h _ _ => (reachU hL (by decide) (Own.a tO) (Own.c tO) (some ⟨rb,0,none⟩) 2 [dx,dy] ([(rb,Obj.cells (((bv dx).toList ++ (bv dy).toList).toArray) 35 (0,0)),(xx,Obj.cells (bv dx) 35 (0,0)),(yy,Obj.cells (bv dy) 35 (0,0))] ++ ((laidO T ids tO iO Tl) ++ [])) w1 ((own_inf hokT).mono (fun e he => (List.mem_append_right _ (List.mem_append_left _ (laidO_t _ he))))) (fun e he => (List.mem_append_right _ (List.mem_append_left _ (laidO_l _ he)))) (inf_lit2 hdx hdy (List.mem_append_left _ (List.mem_cons_self ..))) (fun e he => h.own e he) hf1 (List.cons_ne_nil _ _) (show 2 ≤ 1000 by decide)).mono fun _ _ ⟨c,ow,a1,a2,a3,a4⟩ => ⟨(c,ow),⟨a1,a2⟩,a3,a4⟩)) ?_
      rintro ⟨c1,r1⟩ ⟨hc1,kr1⟩
      have hc1 : Clo (gOf T) (toDg [dx,dy]) c1 := hc1
      have kr1 : OwnOk r1 32 (valL (dsrt c1)).length ((valL (dsrt c1)).flatMap dgc) := kr1
      have hv1 := clo_le hL hf1 hc1
      refine Lp 5 [] (some [8,10,11,12,13]) n0 trivial ?_
      refine CfgL.done rfl ?_
      refine Cfg.begL rfl ?_
      refine Lp 3 [dZ,dZ,(0,false,some (.agg (bv dx)))] (some [8,10,11,12,13,70,71]) (fun S => [(∀ w1,S w1 → (loadVar 35 ⟨xx,0,none⟩).run Tryz.prog w1 = .ok (.agg (bv dx)) w1)]) ⟨(fun w1 h => h.oload 1 rfl Tryz.underlying35 rfl (n := 32) kr ((bv_size _).trans hdx)),trivial⟩ ?_
      refine Le (Eff.buildAgg (vs := (bv dx)) (n := 32) rfl kr Tryz.underlying31 kr (z := (.agg (bv (List.replicate 32 0)))) kr ((bv_size _).trans hdx) (by decide) (by decide)) ?_
      rintro rc ⟨hrc,nrc⟩
      refine Le (Eff.callH (vs := [.iface 30 (.slice (Own.a tO) T.length (Own.c tO)),.slice (some ⟨rc,0,none⟩) 1 1]) (fun x : List Dg × K.Own => .tuple #[.slice (Own.a x.2) (valL (dsrt x.1)).length (Own.c x.2),.int .i64 0]) [] (fun x => Own.o 35 ((valL (dsrt x.1)).flatMap dgc) x.2) (fun x => Clo (gOf T) (toDg [dx]) x.1 ∧ OwnOk x.2 32 (valL (dsrt x.1)).length ((valL (dsrt x.1)).flatMap dgc)) [(rc,.cells (bv dx) 35 (0,0)),(rb,.cells (((bv dx).toList ++ (bv dy).toList).toArray) 35 (0,0)),(xx,.cells (bv dx) 35 (0,0)),(yy,.cells (bv dy) 35 (0,0))] ((Own.o 35 ((valL (dsrt c1)).flatMap dgc) r1 ++ ((laidO T ids tO iO Tl) ++ []))) rfl rfl Tryz.func7 rfl rfl kr (fun w1 h _ _ => (reachU hL (by decide) (Own.a tO) (Own.c tO) (some ⟨rc,0,none⟩) 1 [dx] ([(rc,Obj.cells (bv dx) 35 (0,0)),(rb,Obj.cells (((bv dx).toList ++ (bv dy).toList).toArray) 35 (0,0)),(xx,Obj.cells (bv dx) 35 (0,0)),(yy,Obj.cells (bv dy) 35 (0,0))] ++ (Own.o 35 ((valL (dsrt c1)).flatMap dgc) r1 ++ ((laidO T ids tO iO Tl) ++ []))) w1 ((own_inf hokT).mono (fun e he => (List.mem_append_right _ (List.mem_append_right _ (List.mem_append_left _ (laidO_t _ he)))))) (fun e he => (List.mem_append_right _ (List.mem_append_right _ (List.mem_append_left _ (laidO_l _ he))))) (inf_lit1 hdx (List.mem_append_left _ (List.mem_cons_self ..))) (fun e he => h.own e he) hf2 (List.cons_ne_nil _ _) (show 1 ≤ 1000 by decide)).mono fun _ _ ⟨c,ow,a1,a2,a3,a4⟩ => ⟨(c,ow),⟨a1,a2⟩,a3,a4⟩)) ?_
      rintro ⟨c2,r2⟩ ⟨hc2,kr2⟩
      have hc2 : Clo (gOf T) (toDg [dx]) c2 := hc2
      have kr2 : OwnOk r2 32 (valL (dsrt c2)).length ((valL (dsrt c2)).flatMap dgc) := kr2
      have hv2 := clo_le hL hf2 hc2
      refine Lp 5 [] (some [8,10,11,12,13,14,15]) n0 trivial ?_
      refine CfgL.done rfl ?_
      refine Cfg.begL rfl ?_
      refine Lp 3 [dZ,dZ,(0,false,some (.agg (bv dy)))] (some [8,10,12,13,14,15,78,79]) (fun S => [(∀ w1,S w1 → (loadVar 35 ⟨yy,0,none⟩).run Tryz.prog w1 = .ok (.agg (bv dy)) w1)]) ⟨(fun w1 h => h.oload 3 rfl Tryz.underlying35 rfl (n := 32) kr ((bv_size _).trans hdy)),trivial⟩ ?_
      refine Le (Eff.buildAgg (vs := (bv dy)) (n := 32) rfl kr Tryz.underlying31 kr (z := (.agg (bv (List.replicate 32 0)))) kr ((bv_size _).trans hdy) (by decide) (by decide)) ?_
      rintro rd ⟨hrd,nrd⟩
      refine Le (Eff.callH (vs := [.iface 30 (.slice (Own.a tO) T.length (Own.c tO)),.slice (some ⟨rd,0,none⟩) 1 1]) (fun x : List Dg × K.Own => .tuple #[.slice (Own.a x.2) (valL (dsrt x.1)).length (Own.c x.2),.int .i64 0]) [] (fun x => Own.o 35 ((valL (dsrt x.1)).flatMap dgc) x.2) (fun x => Clo (gOf T) (toDg [dy]) x.1 ∧ OwnOk x.2 32 (valL (dsrt x.1)).length ((valL (dsrt x.1)).flatMap dgc)) [(rd,.cells (bv dy) 35 (0,0)),(rc,.cells (bv dx) 35 (0,0)),(rb,.cells (((bv dx).toList ++ (bv dy).toList).toArray) 35 (0,0)),(xx,.cells (bv dx) 35 (0,0)),(yy,.cells (bv dy) 35 (0,0))] ((Own.o 35 ((valL (dsrt c2)).flatMap dgc) r2 ++ (Own.o 35 ((valL (dsrt c1)).flatMap dgc) r1 ++ ((laidO T ids tO iO Tl) ++ [])))) rfl rfl Tryz.func7 rfl rfl kr (fun w1 h _ _ => (reachU hL (by decide) (Own.a tO) (Own.c tO) (some ⟨rd,0,none⟩) 1 [dy] ([(rd,Obj.cells (bv dy) 35 (0,0)),(rc,Obj.cells (bv dx) 35 (0,0)),(rb,Obj.cells (((bv dx).toList ++ (bv dy).toList).toArray) 35 (0,0)),(xx,Obj.cells (bv dx) 35 (0,0)),(yy,Obj.cells (bv dy) 35 (0,0))] ++ (Own.o 35 ((valL (dsrt c2)).flatMap dgc) r2 ++ (Own.o 35 ((valL (dsrt c1)).flatMap dgc) r1 ++ ((laidO T ids tO iO Tl) ++ [])))) w1 ((own_inf hokT).mono (fun e he => (List.mem_append_right _ (List.mem_append_right _ (List.mem_append_right _ (List.mem_append_left _ (laidO_t _ he))))))) (fun e he => (List.mem_append_right _ (List.mem_append_right _ (List.mem_append_right _ (List.mem_append_left _ (laidO_l _ he)))))) (inf_lit1 hdy (List.mem_append_left _ (List.mem_cons_self ..))) (fun e he => h.own e he) hf3 (List.cons_ne_nil _ _) (show 1 ≤ 1000 by decide)).mono fun _ _ ⟨c,ow,a1,a2,a3,a4⟩ => ⟨(c,ow),⟨a1,a2⟩,a3,a4⟩)) ?_
      rintro ⟨c3,r3⟩ ⟨hc3,kr3⟩
      have hc3 : Clo (gOf T) (toDg [dy]) c3 := hc3
      have kr3 : OwnOk r3 32 (valL (dsrt c3)).length ((valL (dsrt c3)).flatMap dgc) := kr3
      have hv3 := clo_le hL hf3 hc3
      refine Lp 5 [] (some [8,10,12,13,14,15,16,17]) n0 trivial ?_
      refine CfgL.done rfl ?_
      refine Cfg.begL rfl ?_
      refine Lp 3 [] (some [10,12,13,14,15,16,17,86,87]) n0 trivial ?_
      refine Le (Eff.callH (vs := [.iface 30 (.slice (Own.a tO) T.length (Own.c tO)),.slice (Own.a r1) ((valL (dsrt c1)).length) (Own.c r1)]) (fun x : List Dg × K.Own => .tuple #[.slice (Own.a x.2) (valL (dsrt x.1)).length (Own.c x.2),.int .i64 0]) [] (fun x => Own.o 35 ((valL (dsrt x.1)).flatMap dgc) x.2) (fun x => Clo (gOf T) (toDg (valL (dsrt c1))) x.1 ∧ OwnOk x.2 32 (valL (dsrt x.1)).length ((valL (dsrt x.1)).flatMap dgc)) [(rd,.cells (bv dy) 35 (0,0)),(rc,.cells (bv dx) 35 (0,0)),(rb,.cells (((bv dx).toList ++ (bv dy).toList).toArray) 35 (0,0)),(xx,.cells (bv dx) 35 (0,0)),(yy,.cells (bv dy) 35 (0,0))] ((Own.o 35 ((valL (dsrt c3)).flatMap dgc) r3 ++ (Own.o 35 ((valL (dsrt c2)).flatMap dgc) r2 ++ (Own.o 35 ((valL (dsrt c1)).flatMap dgc) r1 ++ ((laidO T ids tO iO Tl) ++ []))))) rfl rfl Tryz.func7 rfl rfl kr (fun w1 h _ _ => (reachU hL (by decide) (Own.a tO) (Own.c tO) (Own.a r1) (Own.c r1) (valL (dsrt c1)) ([(rd,Obj.cells (bv dy) 35 (0,0)),(rc,Obj.cells (bv dx) 35 (0,0)),(rb,Obj.cells (((bv dx).toList ++ (bv dy).toList).toArray) 35 (0,0)),(xx,Obj.cells (bv dx) 35 (0,0)),(yy,Obj.cells (bv dy) 35 (0,0))] ++ (Own.o 35 ((valL (dsrt c3)).flatMap dgc) r3 ++ (Own.o 35 ((valL (dsrt c2)).flatMap dgc) r2 ++ (Own.o 35 ((valL (dsrt c1)).flatMap dgc) r1 ++ ((laidO T ids tO iO Tl) ++ []))))) w1 ((own_inf hokT).mono (fun e he => (List.mem_append_right _ (List.mem_append_right _ (List.mem_append_right _ (List.mem_append_right _ (List.mem_append_left _ (laidO_t _ he)))))))) (fun e he => (List.mem_append_right _ (List.mem_append_right _ (List.mem_append_right _ (List.mem_append_right _ (List.mem_append_left _ (laidO_l _ he))))))) ((own_inf kr1).mono (fun e he => (List.mem_append_right _ (List.mem_append_right _ (List.mem_append_right _ (List.mem_append_left _ he)))))) (fun e he => h.own e he) (clo_ids hL hf1 hc1) (List.ne_nil_of_mem (clo_has hdx (List.mem_cons_self ..) hc1)) om).mono fun _ _ ⟨c,ow,a1,a2,a3,a4⟩ => ⟨(c,ow),⟨a1,a2⟩,a3,a4⟩)) ?_
      rintro ⟨c4,r4⟩ ⟨hc4,kr4⟩
      have hc4 : Clo (gOf T) (toDg (valL (dsrt c1))) c4 := hc4
      have kr4 : OwnOk r4 32 (valL (dsrt c4)).length ((valL (dsrt c4)).flatMap dgc) := kr4
      have hv4 := clo_le hL (clo_ids hL hf1 hc1) hc4
      refine CfgL.pure 5 [] (some [10,12,13,14,15,16,17,18,19]) (Γ' := [(19,[],.int .i64 0),(18,[],.slice (Own.a r4) ((valL (dsrt c4)).length) (Own.c r4)),(17,[],.int .i64 0),(16,[],.slice (Own.a r3) ((valL (dsrt c3)).length) (Own.c r3)),(15,[],.int .i64 0),(14,[],.slice (Own.a r2) ((valL (dsrt c2)).length) (Own.c r2)),(13,[],.int .i64 0),(12,[],.slice (Own.a r1) ((valL (dsrt c1)).length) (Own.c r1)),(10,[],.pointer (some ⟨xx,0,none⟩))]) (nd := (fun _ => [])) kr (fun _ => kr) trivial ?_
      refine CfgL.done rfl ?_
      have hsame := law_same hdx hdy hc1 hc4
      have hlens := law_len hdx hdy hc1 hc2 hc3
      obtain ⟨mx,hmx,hmx2⟩ := mx_of hlens.2.1 hlens.2.2
      refine Cfg.begL rfl ?_
      refine Lp 17 [dZ,dZ,dZ,(1,false,none),(1,false,none),dZ,dZ,(1,false,none),(1,false,none),dZ,dZ,(1,false,none),(1,false,none),dZ,dZ,(1,false,none),(1,false,none)] (some [10,12,14,16,105,106,107]) (fun _ => [((.bool false : Value) = .bool false),((.bool false : Value) = .bool false),((.bool false : Value) = .bool false),((.bool false : Value) = .bool false),((.bool false : Value) = .bool false),((.bool false : Value) = .bool false),((.bool false : Value) = .bool false),((.bool false : Value) = .bool false)]) ⟨rfl,rfl,rfl,rfl,rfl,rfl,rfl,rfl,trivial⟩ ?_
      refine Le (Eff.callA (vs := [.slice (Own.a r1) ((valL (dsrt c1)).length) (Own.c r1),.slice (Own.a r4) ((valL (dsrt c4)).length) (Own.c r4)]) (.bool true) rfl Tryz.func8 rfl rfl kr (fun w1 h => by have q := eqD (Own.a r1) (Own.a r4) (Own.c r1) (Own.c r4) (valL (dsrt c1)) (valL (dsrt c4)) ([(rd,Obj.cells (bv dy) 35 (0,0)),(rc,Obj.cells (bv dx) 35 (0,0)),(rb,Obj.cells (((bv dx).toList ++ (bv dy).toList).toArray) 35 (0,0)),(xx,Obj.cells (bv dx) 35 (0,0)),(yy,Obj.cells (bv dy) 35 (0,0))] ++ (Own.o 35 ((valL (dsrt c4)).flatMap dgc) r4 ++ (Own.o 35 ((valL (dsrt c3)).flatMap dgc) r3 ++ (Own.o 35 ((valL (dsrt c2)).flatMap dgc) r2 ++ (Own.o 35 ((valL (dsrt c1)).flatMap dgc) r1 ++ ((laidO T ids tO iO Tl) ++ [])))))) w1 ((own_inf kr1).mono (fun e he => (List.mem_append_right _ (List.mem_append_right _ (List.mem_append_right _ (List.mem_append_right _ (List.mem_append_left _ he))))))) ((own_inf kr4).mono (fun e he => (List.mem_append_right _ (List.mem_append_left _ he)))) (valL_d32 _) (valL_d32 _) (fun e he => h.own e he) (by unfold maxLen; omega) (by unfold maxLen; omega); rw [decide_eq_true hsame] at q; exact q)) ?_
      rintro ⟨⟩ -
      refine Lp 2 [(1,false,none)] (some [10,12,14,16,110]) (fun _ => [((.bool false : Value) = .bool false)]) ⟨rfl,trivial⟩ ?_
      refine CfgL.done rfl ?_
      refine Cfg.condF rfl (b := false) kr rfl ?_
      refine Rg [10,12,14,16,111,112,113] [] n0 trivial ?_
      refine Cfg.loop rfl (ι := Nat) (fun (i : Nat) => [(113,[],.int .i64 (i : Int)),(112,[],.int .i64 ((valL (dsrt c1)).length : Int)),(111,[],.slice (Own.a r1) ((valL (dsrt c1)).length) (Own.c r1)),(16,[],.slice (Own.a r3) ((valL (dsrt c3)).length) (Own.c r3)),(14,[],.slice (Own.a r2) ((valL (dsrt c2)).length) (Own.c r2)),(12,[],.slice (Own.a r1) ((valL (dsrt c1)).length) (Own.c r1)),(10,[],.pointer (some ⟨xx,0,none⟩))]) (fun (i : Nat) => ([(xx,.cells (bv dx) 35 (0,0))] ++ (Own.o 35 ((valL (dsrt c4)).flatMap dgc) r4 ++ (Own.o 35 ((valL (dsrt c3)).flatMap dgc) r3 ++ (Own.o 35 ((valL (dsrt c2)).flatMap dgc) r2 ++ (Own.o 35 ((valL (dsrt c1)).flatMap dgc) r1 ++ ((laidO T ids tO iO Tl) ++ []))))))) (fun (i : Nat) => (i ≤ (valL (dsrt c1)).length)) (fun (i : Nat) => (valL (dsrt c1)).length - i) 0 ?_ (Conv.mk kr) (.cons _ (.cons _ (.cons _ (.cons_cons _ (.cons _ (List.Sublist.refl _)))))) ?_
      ·exact Nat.zero_le _
      ·rintro i hi
       refine Rg [10,12,14,16,111,112,113,114] [] n0 trivial ?_
       refine Cfg.cond rfl (b := (decide ((i : Int) < ((valL (dsrt c1)).length : Int)))) kr (fun c6r => ?_) (fun c6r => ?_)
       ·have c6 := (of_decide_eq_true c6r)
        skip
        obtain ⟨sc,offc,csc,tec,frec,hac,hmc,hcc⟩ := own_inf (e := 35) kr1 om
        refine Cg (Γ' := [(114,[],.bool (decide ((i : Int) < ((valL (dsrt c1)).length : Int)))),(113,[],.int .i64 (i : Int)),(112,[],.int .i64 ((valL (dsrt c1)).length : Int)),(111,[],.slice (Own.a r1) ((valL (dsrt c1)).length) (Own.c r1)),(16,[],.slice (Own.a r3) ((valL (dsrt c3)).length) (Own.c r3)),(14,[],.slice (Own.a r2) ((valL (dsrt c2)).length) (Own.c r2)),(12,[],.slice (Own.a r1) ((valL (dsrt c1)).length) (Own.c r1)),(10,[],.pointer (some ⟨xx,0,none⟩))]) ?_
        refine Cfg.setG (congrArg (fun (xq : Value) => ([(114,[],.bool (decide ((i : Int) < ((valL (dsrt c1)).length : Int)))),(113,[],.int .i64 (i : Int)),(112,[],.int .i64 ((valL (dsrt c1)).length : Int)),(111,[],xq),(16,[],.slice (Own.a r3) ((valL (dsrt c3)).length) (Own.c r3)),(14,[],.slice (Own.a r2) ((valL (dsrt c2)).length) (Own.c r2)),(12,[],.slice (Own.a r1) ((valL (dsrt c1)).length) (Own.c r1)),(10,[],.pointer (some ⟨xx,0,none⟩))] : Env)) (show _ = .slice (some ⟨sc,offc,none⟩) (valL (dsrt c1)).length (Own.c r1) from by rw [hac])) ?_
        obtain ⟨d3,hd3⟩ : ∃ q,q = (valL (dsrt c1)).getD i [] := ⟨_,rfl⟩
        have hd3m : d3 ∈ (valL (dsrt c1)) := by rw [hd3]; exact getD_mem om
        have hd : d3.length = 32 := valL_d32 _ _ hd3m
        have hin3 := fun h => (law_in hdx hdy hc1 hc2 hc3 hd3m).resolve_left h
        refine Cfg.begL rfl ?_
        refine Lp 2 [dZ,(0,false,some (.agg (bv d3)))] (some [10,12,14,16,111,112,113,116]) (fun S => [(0 ≤ (i : Int) ∧ (i : Int) < ((valL (dsrt c1)).length : Int)),(∀ w1,S w1 → (loadVar 35 ⟨sc,(addO offc (i * 32)),none⟩).run Tryz.prog w1 = .ok (.agg (bv d3)) w1)]) ⟨om,(fun w1 h => load_bytes Tryz.underlying35 rfl kr hd (fun j hj => by rw [addO_eq]; exact (cell_cells (h.own _ (List.mem_append_right _ (List.mem_append_right _ (List.mem_append_right _ (List.mem_append_right _ (List.mem_append_left _ hmc))))))).trans (fl_cell [] (fun x hx => dgc_len (valL_d32 _ x hx)) hcc (i := i) om (by rw [← hd3]; exact dg_byte hd hj)))),trivial⟩ ?_
        refine Le (Eff.alloc (z := (.agg (bv (List.replicate 32 0)))) rfl kr) ?_
        rintro db ⟨hdb,ndb⟩
        refine Le (Eff.storeN (b := db) (off := 0) (vs := (bv d3)) (n := 32) rfl kr kr kr ((bv_size _).trans hd) (all_bv _) 0 (cs := (bv (List.replicate 32 0))) (e := 35) kr (by rw [zdg_size]; omega)) ?_
        rintro ⟨⟩ -
        refine CfgL.setO (congrArg (fun (xq : Array Value) => (([(db,.cells xq 35 (0,0)),(xx,.cells (bv dx) 35 (0,0))] ++ (Own.o 35 ((valL (dsrt c4)).flatMap dgc) r4 ++ (Own.o 35 ((valL (dsrt c3)).flatMap dgc) r3 ++ (Own.o 35 ((valL (dsrt c2)).flatMap dgc) r2 ++ (Own.o 35 ((valL (dsrt c1)).flatMap dgc) r1 ++ ((laidO T ids tO iO Tl) ++ [])))))) : List (Nat × Obj))) (show _ = (bv d3) from spl_all (((bv_size _).trans hd).trans zdg_size.symm))) ?_
        refine CfgL.done rfl ?_
        refine Cg (Γ' := [(21,[],.pointer (some ⟨db,0,none⟩)),(113,[],.int .i64 (i : Int)),(112,[],.int .i64 ((valL (dsrt c1)).length : Int)),(111,[],.slice (some ⟨sc,offc,none⟩) (valL (dsrt c1)).length (Own.c r1)),(16,[],.slice (Own.a r3) ((valL (dsrt c3)).length) (Own.c r3)),(14,[],.slice (Own.a r2) ((valL (dsrt c2)).length) (Own.c r2)),(12,[],.slice (Own.a r1) ((valL (dsrt c1)).length) (Own.c r1)),(10,[],.pointer (some ⟨xx,0,none⟩))]) ?_
        refine Cfg.begL rfl ?_
        refine Lp 2 [dZ,(0,false,some (.agg (bv d3)))] none (fun S => [(∀ w1,S w1 → (loadVar 35 ⟨db,0,none⟩).run Tryz.prog w1 = .ok (.agg (bv d3)) w1)]) ⟨(fun w1 h => h.oload 0 rfl Tryz.underlying35 rfl (n := 32) kr ((bv_size _).trans hd)),trivial⟩ ?_
        refine Le (Eff.callA (vs := [.slice (Own.a r2) ((valL (dsrt c2)).length) (Own.c r2),.agg (bv d3)]) (.bool (decide (d3 ∈ (valL (dsrt c2))))) rfl Tryz.func9 rfl rfl kr (fun w1 h => by have q := dContains (Own.a r2) (Own.c r2) (valL (dsrt c2)) d3 ([(db,Obj.cells (bv d3) 35 (0,0)),(xx,Obj.cells (bv dx) 35 (0,0))] ++ (Own.o 35 ((valL (dsrt c4)).flatMap dgc) r4 ++ (Own.o 35 ((valL (dsrt c3)).flatMap dgc) r3 ++ (Own.o 35 ((valL (dsrt c2)).flatMap dgc) r2 ++ (Own.o 35 ((valL (dsrt c1)).flatMap dgc) r1 ++ ((laidO T ids tO iO Tl) ++ [])))))) w1 ((own_inf kr2).mono (fun e he => (List.mem_append_right _ (List.mem_append_right _ (List.mem_append_right _ (List.mem_append_left _ he)))))) (valL_d32 _) hd (fun e he => h.own e he) (by unfold maxLen; omega); skip; exact q)) ?_
        rintro ⟨⟩ -
        refine Lp 2 [] (some [10,12,14,16,21,111,112,113,121]) n0 trivial ?_
        by_cases c7 : (!(decide (d3 ∈ (valL (dsrt c2))))) = true
        ·have c7k : (!(decide (d3 ∈ (valL (dsrt c2))))) = true := c7
         have c7q : ((decide (d3 ∈ (valL (dsrt c2)))) = false) := (notT c7k)
         refine CfgL.known 121 (b := (!(decide (d3 ∈ (valL (dsrt c2)))))) kr true c7k ?_
         refine Lp 2 [(1,false,none),(1,false,some (.agg (bv d3)))] (some [10,12,14,16,111,112,113,121,122,123]) (fun S => [((.bool true : Value) = .bool true),((.bool true : Value) = .bool true),(∀ w1,S w1 → (loadVar 35 ⟨db,0,none⟩).run Tryz.prog w1 = .ok (.agg (bv d3)) w1)]) ⟨rfl,rfl,(fun w1 h => h.oload 0 rfl Tryz.underlying35 rfl (n := 32) kr ((bv_size _).trans hd)),trivial⟩ ?_
         refine Le (Eff.callA (vs := [.slice (Own.a r3) ((valL (dsrt c3)).length) (Own.c r3),.agg (bv d3)]) (.bool true) rfl Tryz.func9 rfl rfl kr (fun w1 h => by have q := dContains (Own.a r3) (Own.c r3) (valL (dsrt c3)) d3 ([(db,Obj.cells (bv d3) 35 (0,0)),(xx,Obj.cells (bv dx) 35 (0,0))] ++ (Own.o 35 ((valL (dsrt c4)).flatMap dgc) r4 ++ (Own.o 35 ((valL (dsrt c3)).flatMap dgc) r3 ++ (Own.o 35 ((valL (dsrt c2)).flatMap dgc) r2 ++ (Own.o 35 ((valL (dsrt c1)).flatMap dgc) r1 ++ ((laidO T ids tO iO Tl) ++ [])))))) w1 ((own_inf kr3).mono (fun e he => (List.mem_append_right _ (List.mem_append_right _ (List.mem_append_left _ he))))) (valL_d32 _) hd (fun e he => h.own e he) (by unfold maxLen; omega); rw [decide_eq_true (hin3 (by simpa using c7k))] at q; exact q)) ?_
         rintro ⟨⟩ -
         refine Lp 2 [(1,false,none)] (some [10,12,14,16,111,112,113,126]) (fun _ => [((.bool true : Value) = .bool true)]) ⟨rfl,trivial⟩ ?_
         refine CfgL.done rfl ?_
         refine Cfg.condF rfl (b := false) kr rfl ?_
         refine Rg [10,12,14,16,111,112,113] [] (fun _ => [((-9223372036854775808 : Int) ≤ ((i : Int) + 1) ∧ ((i : Int) + 1) ≤ 9223372036854775807)]) ⟨om,trivial⟩ ?_
         refine Cg (Γ' := [(113,[],.int .i64 ((i : Int) + 1)),(112,[],.int .i64 ((valL (dsrt c1)).length : Int)),(111,[],.slice (some ⟨sc,offc,none⟩) (valL (dsrt c1)).length (Own.c r1)),(16,[],.slice (Own.a r3) ((valL (dsrt c3)).length) (Own.c r3)),(14,[],.slice (Own.a r2) ((valL (dsrt c2)).length) (Own.c r2)),(12,[],.slice (Own.a r1) ((valL (dsrt c1)).length) (Own.c r1)),(10,[],.pointer (some ⟨xx,0,none⟩))]) ?_
         refine Cfg.setG (congrArg (fun (xq : Value) => ([(113,[],.int .i64 ((i : Int) + 1)),(112,[],.int .i64 ((valL (dsrt c1)).length : Int)),(111,[],xq),(16,[],.slice (Own.a r3) ((valL (dsrt c3)).length) (Own.c r3)),(14,[],.slice (Own.a r2) ((valL (dsrt c2)).length) (Own.c r2)),(12,[],.slice (Own.a r1) ((valL (dsrt c1)).length) (Own.c r1)),(10,[],.pointer (some ⟨xx,0,none⟩))] : Env)) (show _ = .slice (Own.a r1) ((valL (dsrt c1)).length) (Own.c r1) from by rw [hac])) ?_
         refine Cfg.again rfl (i + 1) om om (Conv.mk kr) (.cons _ (.cons_cons _ (List.Sublist.refl _)))
        ·have c7k : (!(decide (d3 ∈ (valL (dsrt c2))))) = false := (by simpa using c7)
         have c7q : ((decide (d3 ∈ (valL (dsrt c2)))) = true) := (notF c7k)
         refine CfgL.known 121 (b := (!(decide (d3 ∈ (valL (dsrt c2)))))) kr false c7k ?_
         refine Lp 5 [(2,false,none),(2,false,none),(2,false,none),(2,false,none)] (some [10,12,14,16,111,112,113,126]) (fun _ => [((.bool false : Value) ≠ .bool true),((.bool false : Value) ≠ .bool true),((.bool false : Value) ≠ .bool true),((.bool false : Value) ≠ .bool true)]) ⟨(by simp),(by simp),(by simp),(by simp),trivial⟩ ?_
         refine CfgL.done rfl ?_
         refine Cfg.condF rfl (b := false) kr rfl ?_
         refine Rg [10,12,14,16,111,112,113] [] (fun _ => [((-9223372036854775808 : Int) ≤ ((i : Int) + 1) ∧ ((i : Int) + 1) ≤ 9223372036854775807)]) ⟨om,trivial⟩ ?_
         refine Cg (Γ' := [(113,[],.int .i64 ((i : Int) + 1)),(112,[],.int .i64 ((valL (dsrt c1)).length : Int)),(111,[],.slice (some ⟨sc,offc,none⟩) (valL (dsrt c1)).length (Own.c r1)),(16,[],.slice (Own.a r3) ((valL (dsrt c3)).length) (Own.c r3)),(14,[],.slice (Own.a r2) ((valL (dsrt c2)).length) (Own.c r2)),(12,[],.slice (Own.a r1) ((valL (dsrt c1)).length) (Own.c r1)),(10,[],.pointer (some ⟨xx,0,none⟩))]) ?_
         refine Cfg.setG (congrArg (fun (xq : Value) => ([(113,[],.int .i64 ((i : Int) + 1)),(112,[],.int .i64 ((valL (dsrt c1)).length : Int)),(111,[],xq),(16,[],.slice (Own.a r3) ((valL (dsrt c3)).length) (Own.c r3)),(14,[],.slice (Own.a r2) ((valL (dsrt c2)).length) (Own.c r2)),(12,[],.slice (Own.a r1) ((valL (dsrt c1)).length) (Own.c r1)),(10,[],.pointer (some ⟨xx,0,none⟩))] : Env)) (show _ = .slice (Own.a r1) ((valL (dsrt c1)).length) (Own.c r1) from by rw [hac])) ?_
         refine Cfg.again rfl (i + 1) om om (Conv.mk kr) (.cons _ (.cons_cons _ (List.Sublist.refl _)))
       ·have c6 := (of_decide_eq_false c6r)
        refine Cfg.begL rfl ?_
        refine Lp 9 [] (some [10,12,14,16,136]) (fun _ => [((-9223372036854775808 : Int) ≤ (((valL (dsrt c2)).length : Int) + ((valL (dsrt c3)).length : Int)) ∧ (((valL (dsrt c2)).length : Int) + ((valL (dsrt c3)).length : Int)) ≤ 9223372036854775807)]) ⟨om,trivial⟩ ?_
        refine CfgL.known 136 (b := (decide (((valL (dsrt c1)).length : Int) ≤ (((valL (dsrt c2)).length : Int) + ((valL (dsrt c3)).length : Int))))) kr true (by simp only [decide_eq_true_eq]; omega) ?_
        refine Lp 6 [(1,false,none),(1,false,none),(1,false,none),(1,false,none),(1,false,none),(1,false,none)] (some [10,14,136,138,140,142]) (fun _ => [((.bool true : Value) = .bool true),((.bool true : Value) = .bool true),((.bool true : Value) = .bool true),((.bool true : Value) = .bool true),((.bool true : Value) = .bool true),((.bool true : Value) = .bool true)]) ⟨rfl,rfl,rfl,rfl,rfl,rfl,trivial⟩ ?_
        refine Le (Eff.maxI2 (k := .i64) (a := ((valL (dsrt c2)).length : Int)) (b := ((valL (dsrt c3)).length : Int)) (mx : Int) hmx rfl kr kr) ?_
        rintro ⟨⟩ -
        refine Lp 3 [(1,false,none)] (some [10,14,146]) (fun _ => [((.bool true : Value) = .bool true)]) ⟨rfl,trivial⟩ ?_
        refine CfgL.known 146 (b := (decide (((valL (dsrt c1)).length : Int) ≥ (mx : Int)))) kr true (by simp only [decide_eq_true_eq]; omega) ?_
        refine Lp 2 [(1,false,none),(1,false,some (.agg (bv dx)))] (some [146,147,148]) (fun S => [((.bool true : Value) = .bool true),((.bool true : Value) = .bool true),(∀ w1,S w1 → (loadVar 35 ⟨xx,0,none⟩).run Tryz.prog w1 = .ok (.agg (bv dx)) w1)]) ⟨rfl,rfl,(fun w1 h => h.oload 0 rfl Tryz.underlying35 rfl (n := 32) kr ((bv_size _).trans hdx)),trivial⟩ ?_
        refine Le (Eff.callA (vs := [.slice (Own.a r2) ((valL (dsrt c2)).length) (Own.c r2),.agg (bv dx)]) (.bool true) rfl Tryz.func9 rfl rfl kr (fun w1 h => by have q := dContains (Own.a r2) (Own.c r2) (valL (dsrt c2)) dx ([(xx,Obj.cells (bv dx) 35 (0,0))] ++ (Own.o 35 ((valL (dsrt c4)).flatMap dgc) r4 ++ (Own.o 35 ((valL (dsrt c3)).flatMap dgc) r3 ++ (Own.o 35 ((valL (dsrt c2)).flatMap dgc) r2 ++ (Own.o 35 ((valL (dsrt c1)).flatMap dgc) r1 ++ ((laidO T ids tO iO Tl) ++ [])))))) w1 ((own_inf kr2).mono (fun e he => (List.mem_append_right _ (List.mem_append_right _ (List.mem_append_right _ (List.mem_append_left _ he)))))) (valL_d32 _) hdx (fun e he => h.own e he) (by unfold maxLen; omega); rw [decide_eq_true (clo_has hdx (List.mem_cons_self ..) hc2)] at q; exact q)) ?_
        rintro ⟨⟩ -
        refine Lp 2 [] (some [6]) n0 trivial ?_
        refine CfgL.done rfl ?_
        refine Cfg.ret rfl (rs := [.tmp 6]) rfl [.bool true] ⟨kr,trivial⟩ (fun w1 hp => ?_)
        exact ⟨rfl,hp.ext⟩
end Go.Proofs.YtinhinjpfmdfiaaGreatDoor
namespace Go.Proofs.YtinhinjpfmdfiaaGreatDoor
open K
set_option linter.unusedVariables false
open Go.ChangeShapes Go.WideShapes
theorem list5 {cs : List Value} (h : cs.length = 5) : cs = (cs.drop 0).take 1 ++ ((cs.drop 1).take 1 ++ ((cs.drop 2).take 1 ++ ((cs.drop 3).take 1 ++ (cs.drop 4).take 1))) := by
 match cs,h with
 | [_,_,_,_,_],_ => rfl
theorem u8_open {H : Type} {enc : TypeId × Value → H} {w : World} {base : Nat} {held : Bool} (cs : List Value) (fuel : Nat) (y : DataW H × List MemPlace) (h : DataW.trod enc Tryz.prog w base (fun _ => true) held fuel 5 cs = some y) : ∃ a : Nat,a < 256 ∧ cs = u8c a := by
 obtain ⟨a,ha,_,wa⟩ := DataW.trod_int Tryz.underlying5 h
 have qa := wf_u8 wa
 refine ⟨a.toNat,by omega,ha.trans ?_⟩
 show [Value.int .u8 a] = [Value.int .u8 (a.toNat : Int)]
 rw [Int.toNat_of_nonneg qa.1]
theorem pl_open {H : Type} {enc : TypeId × Value → H} {w : World} {base : Nat} {held : Bool} (cs : List Value) (fuel : Nat) (y : DataW H × List MemPlace) (hl : cs.length = 5) (h : DataW.trod enc Tryz.prog w base (fun _ => true) held fuel 28 cs = some y) :
  ∃ a : PL × List (Nat × Obj),(Has w a.2 ∧ PLw a.2 a.1) ∧ cs = plc a.1 := by
 obtain ⟨xs,m,_,_,_,hlen,hf⟩ := DataW.trod_struct Tryz.underlying28 h
 have c0 : Tryz.prog.cellsOf 4 = 1 := by kernel_rfl
 have c1 : Tryz.prog.cellsOf 25 = 1 := by kernel_rfl
 have c2 : Tryz.prog.cellsOf 26 = 1 := by kernel_rfl
 have c3 : Tryz.prog.cellsOf 9 = 1 := by kernel_rfl
 match xs,hlen with
 | [y0,y1,y2,y3,y4],_ =>
  have h0 : DataW.trod enc Tryz.prog w base (fun _ => true) held m 4 ((cs.drop 0).take 1) = some y0 := by have q := hf 0 ⟨"Tag",4,0,false,"","",0⟩ rfl; simp only [c0] at q; exact q
  have h1 : DataW.trod enc Tryz.prog w base (fun _ => true) held m 25 ((cs.drop 1).take 1) = some y1 := by have q := hf 1 ⟨"Parents",25,1,false,"","",8⟩ rfl; simp only [c1] at q; exact q
  have h2 : DataW.trod enc Tryz.prog w base (fun _ => true) held m 26 ((cs.drop 2).take 1) = some y2 := by have q := hf 2 ⟨"Number",26,2,false,"","",32⟩ rfl; simp only [c2] at q; exact q
  have h3 : DataW.trod enc Tryz.prog w base (fun _ => true) held m 9 ((cs.drop 3).take 1) = some y3 := by have q := hf 3 ⟨"Text",9,3,false,"","",40⟩ rfl; simp only [c3] at q; exact q
  have h4 : DataW.trod enc Tryz.prog w base (fun _ => true) held m 4 ((cs.drop 4).take 1) = some y4 := by have q := hf 4 ⟨"Lost",4,4,false,"","",56⟩ rfl; simp only [c0] at q; exact q
  obtain ⟨b,hb,_⟩ := DataW.trod_bool Tryz.underlying4 h0
  obtain ⟨la,cap,ps,Rl,hk,hk1,hk2,_,hq,hR,hI⟩ := trod_flat (sz := 1) u8c (fun n => n < 256) Tryz.underlying25 kr (by decide) (fun cs fuel y _ g2 => u8_open cs fuel y g2) h1
  obtain ⟨k,hkk,_,wk⟩ := DataW.trod_int Tryz.underlying26 h2
  have qk := wf_u64 k wk
  obtain ⟨s,hs,_,_⟩ := DataW.trod_string Tryz.underlying9 h3
  obtain ⟨c,hc,_⟩ := DataW.trod_bool Tryz.underlying4 h4
  refine ⟨(⟨b,la,cap,ps,k.toNat,s,c⟩,Rl),⟨hR,⟨hI,Nat.le_trans hk1 hk2,by show k.toNat < _; omega,hq⟩⟩,?_⟩
  have h9 := list5 hl
  rw [hb,hk,hkk,hs,hc] at h9
  refine h9.trans ?_
  show [Value.bool b,.slice la ps.length cap,.int .u64 k,.string s,.bool c] = [Value.bool b,.slice la ps.length cap,.int .u64 (k.toNat : Int),.string s,.bool c]
  rw [Int.toNat_of_nonneg qk.1]
theorem pls_open {w : World} {la : Option Addr} {xs : List (PL × List (Nat × Obj))} {Rl : List (Nat × Obj)} (hq : ∀ x ∈ xs,Has w x.2 ∧ PLw x.2 x.1) (hR : Has w Rl) (hI : InS Rl la (xs.length * 5) (fun j => (xs.flatMap fun x => plc x.1).getD j undef)) :
  ∃ R2,Has w R2 ∧ InF plc 5 R2 la (xs.map (·.1)) ∧ ∀ p ∈ xs.map (·.1),PLw R2 p := by
 refine ⟨Rl ++ xs.flatMap (·.2),fun e he => ?_,?_,fun p hp => ?_⟩
 ·rcases List.mem_append.1 he with he | he
  ·exact hR e he
  ·obtain ⟨a,ha,he⟩ := List.mem_flatMap.1 he
   exact (hq a ha).1 e he
 ·have h9 : InF plc 5 Rl la (xs.map (·.1)) := by
   unfold InF
   rw [List.flatMap_map,List.length_map]; exact hI
  exact h9.mono (fun e he => List.mem_append_left _ he)
 ·obtain ⟨a,ha,rfl⟩ := List.mem_map.1 hp
  exact (hq a ha).2.mono (fun e he => List.mem_append_right _ (List.mem_flatMap.2 ⟨a,ha,he⟩))
end Go.Proofs.YtinhinjpfmdfiaaGreatDoor
