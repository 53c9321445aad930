/- Texts on which the proof of this claim stands: PkS, K33, Pk1, Pk2. -/
import Derived.Test.YtbeegepcdglcaaaGreatDoorP1
import Derived.Test.YtbeegepcdglcaaaGreatDoorP4
import Derived.Test.YtbeegepcdglcaaaGreatDoorP3
namespace Go.Proofs.YtbeegepcdglcaaaGreatDoor
open Go.Shelf Go.RowKit Go.Lib Go.Sort K
set_option maxRecDepth 100000
set_option linter.unusedVariables false
theorem cmpL_val {a b : List UInt8} (h : a.length = b.length) : K.cmpL a b = if I.val a < I.val b then -1 else if I.val a = I.val b then 0 else 1 := I.cmp_val a b h
theorem cfL_lt {a b : List UInt8} (h : a.length = b.length) : KD.cfL a b < 0 ↔ I.val a < I.val b := by
 unfold KD.cfL
 rw [cmpL_val h,cmpL_val h.symm]
 by_cases h1 : I.val a < I.val b
 ·simp [h1]
 ·rw [if_neg h1]
  by_cases h2 : I.val a = I.val b
  ·simp [h2]
  ·have h3 : I.val b < I.val a := by omega
   simp [h1,h2,h3]
section
variable {all : List En} (hw : ∀ e ∈ all,EnL e)
abbrev EnS (all : List En) : Type := { e : En // e ∈ all }
def cfE (all : List En) (x y : EnS all) : Int := KD.cfL x.1.id y.1.id
include hw
theorem lt_cfE (x y : EnS all) : ltOf (cfE all) x y = elt x.1 y.1 := by
 unfold ltOf cfE elt
 rw [decide_eq_decide]
 exact cfL_lt ((hw _ x.2).id.trans (hw _ y.2).id.symm)
theorem swoE : SWO (ltOf (cfE all)) where
 irrefl x := by rw [lt_cfE hw]; simp [elt]
 trans x y z h1 h2 := by rw [lt_cfE hw] at *; simp [elt] at *; omega
 ntrans x y z h1 h2 := by rw [lt_cfE hw] at *; simp [elt] at *; omega
theorem totE (hn : (ids all).Nodup) (x y : EnS all) (h1 : ltOf (cfE all) x y = false) (h2 : ltOf (cfE all) y x = false) : x = y := by
 rw [lt_cfE hw] at h1 h2
 simp only [elt,decide_eq_false_iff_not] at h1 h2
 have e : x.1.id = y.1.id := I.val_inj ((hw _ x.2).id.trans (hw _ y.2).id.symm) om
 obtain ⟨i,hi,hx⟩ := List.mem_iff_getElem.1 x.2
 obtain ⟨j,hj,hy⟩ := List.mem_iff_getElem.1 y.2
 have hij : i = j := by
  refine (List.getElem_inj (xs := ids all) (h₀ := by unfold ids; rw [List.length_map]; exact hi) (h₁ := by unfold ids; rw [List.length_map]; exact hj) hn).1 ?_
  simp only [ids,List.getElem_map,hx,hy,e]
 subst hij
 exact Subtype.ext (hx.symm.trans hy)
theorem geE : (fun x y : EnS all => !ltOf (cfE all) y x) = fun x y => !elt y.1 x.1 := by
 funext x y; rw [lt_cfE hw]
end
theorem flatK_list {α : Type} [Inhabited α] {f : α → List Value} {sz : Nat} (hz : 0 < sz) (hf : ∀ x,(f x).length = sz) (l : List α) : flatK f sz l.toArray = (l.flatMap f).toArray := by
 have hfl : (l.flatMap f).length = l.length * sz := by
  induction l with
  | nil => simp
  | cons x l ih => rw [List.flatMap_cons,List.length_append,ih,hf,List.length_cons,Nat.succ_mul,Nat.add_comm]
 refine ext_get! (by rw [size_flatK,List.size_toArray,List.size_toArray,hfl]) fun t ht => ?_
 have ht' : t < l.length * sz := by simpa using ht
 have hi : t / sz < l.length := Nat.div_lt_of_lt_mul (by rw [Nat.mul_comm]; exact ht')
 rw [get_flatK _ _ _ t (by simpa using ht')]
 have h := flat_get f sz (l := l) (fun x _ => hf x) hi (j := t % sz) (Nat.mod_lt _ hz)
 rw [Nat.div_add_mod' t sz] at h
 have e1 : l.toArray[t / sz]! = l[t / sz] := by simp [hi]
 rw [e1]
 simp only [List.getElem!_toArray,List.getElem!_eq_getElem?_getD]
 rw [h]
theorem putCells_list {F B J : List Value} (h : B.length = F.length) : putCells id 0 F.toArray (B ++ J).toArray = (F ++ J).toArray := by
 apply Array.ext_getElem?
 intro k
 unfold putCells
 simp only [List.mapIdx_toArray,List.getElem?_toArray,List.getElem?_mapIdx,List.size_toArray,Nat.zero_le,true_and,Nat.zero_add,Nat.sub_zero,id]
 by_cases hk : k < F.length
 ·rw [List.getElem?_append_left om,List.getElem?_append_left hk,List.getElem?_eq_getElem (by omega : k < B.length),List.getElem?_eq_getElem hk]
  simp [hk]
 ·rw [List.getElem?_append_right om,List.getElem?_append_right om,h]
  cases J[k - F.length]? with
  | none => rfl
  | some v => simp [hk]
theorem grown_of {w w' : World} (h : KD.Ext [] w w') : ∃ q os',w' = grow (w.drewN q) os' := by
 refine ⟨w'.drawn - w.drawn,w'.heap.extract w.heap.size w'.heap.size,?_⟩
 obtain ⟨h1,h2,h3,h4,h5,h6⟩ := h
 cases w with
 | mk hp tp dr os out =>
  cases w' with
  | mk hp' tp' dr' os' out' =>
   simp only at h1 h2 h3 h4 h5 h6 ⊢
   subst h1 h2 h3
   simp only [grow,World.drewN,World.mk.injEq,true_and,and_true]
   refine ⟨?_,by omega⟩
   apply Array.ext_getElem?
   intro k
   by_cases hk : k < hp.size
   ·rw [h5 k hk (by simp),Array.getElem?_append_left hk]
   ·rw [Array.getElem?_append_right om]
    simp only [Array.getElem?_extract]
    by_cases h7 : k < hp'.size
    ·rw [if_pos om]
     congr 1; omega
    ·rw [if_neg om,Array.getElem?_eq_none om]
theorem cmpLays {all : List En} (hw : ∀ e ∈ all,EnL e) [Inhabited (EnS all)] (b size : Nat) (w : World) : CmpLays Tryz.prog 47 #[] (fun x : EnS all => enc x.1) 67 (cfE all) b 0 size w := fun m os dk _ x y => by
 have h := KD.pkCmp x.1 y.1 (sortWorldK (fun x : EnS all => enc x.1) 67 w b 0 m dk os) (hw _ x.2) (hw _ y.2)
 rw [Array.append_empty]
 exact h.mono fun _ _ ⟨h1,h2⟩ => ⟨h1,grown_of h2⟩
theorem attach_flat (all : List En) : (all.attach.flatMap fun x => enc x.1) = all.flatMap enc := by
 rw [← List.flatMap_map,List.attach_map_subtype_val]
theorem enl_flat {all : List En} (hw : ∀ e ∈ all,EnL e) : (all.flatMap enc).length = all.length * 67 := by
 induction all with
 | nil => rfl
 | cons x l ih => rw [List.flatMap_cons,List.length_append,ih (fun e he => hw e (List.mem_cons_of_mem _ he)),enc_len (hw x mH),List.length_cons]; omega
theorem own_nodup (e : TypeId) (xs : List Value) (ow : K.Own) : ((Own.o e xs ow).map (·.1)).Nodup := by
 cases ow with
 | none => exact List.nodup_nil
 | some p => exact List.nodup_cons.2 ⟨fun h => (by cases h),List.nodup_nil⟩
theorem pkSort (ow : K.Own) (all : List En) (w : World) (hok : OwnOk ow 67 all.length (all.flatMap enc)) (hw : ∀ e ∈ all,EnL e) (hn : (ids all).Nodup) (hA : Has w (Own.o 62 (all.flatMap enc) ow)) (hlen : all.length ≤ 1000000) :
  Calls Tryz.prog 46 #[.slice (Own.a ow) all.length (Own.c ow),.func (.func 47) #[] #[]] w fun e w' => e = .returned (.tuple #[]) ∧ ∃ R1,HP w ((Own.o 62 (all.flatMap enc) ow).map (·.1)) R1 (Own.o 62 ((esrt all).flatMap enc) ow) w' := by
 by_cases h0 : 0 < all.length
 ·obtain ⟨⟨b,cap,junk⟩,rfl⟩ := own_some hok h0
  have hb : w.heap[b]? = some (.cells (all.flatMap enc ++ junk).toArray 62 (0,0)) := hA (b,.cells (all.flatMap enc ++ junk).toArray 62 (0,0)) (by simp [Own.o])
  have hlt : b < w.heap.size := lt_of_get hb
  haveI : Inhabited (EnS all) := ⟨⟨all[0],List.getElem_mem h0⟩⟩
  have hel : ∀ x : EnS all,(enc x.1).length = 67 := fun x => enc_len (hw _ x.2)
  have hfl := enl_flat hw
  have hH : HoldsK (fun x : EnS all => enc x.1) 67 w b 0 all.attach.toArray := by
   intro j hj
   rw [flatK_list (by decide) hel,attach_flat] at hj ⊢
   have hj2 : j < (all.flatMap enc).length := by simpa using hj
   refine ⟨?_,?_⟩
   ·simp only [World.cell?,hb,Nat.zero_add]
    simp only [Option.isSome_none,Bool.false_eq_true,if_false,List.getElem?_toArray,id,List.getElem!_toArray,List.getElem!_eq_getElem?_getD]
    rw [List.getElem?_append_left hj2,List.getElem?_eq_getElem hj2]; rfl
   ·simp [World.frozen?,hb]
  have eg : ∀ args w,(callFunc 47 args).run Tryz.prog w = .ok (.enter 47 args) w := enters_of Tryz.func47 kr rfl
  have hS := AnyQ.slices_SortFunc_total (α := EnS all) L.sortE 67 Tryz.isAgg62 Tryz.sizeOf62 (fun x : EnS all => enc x.1) hel (fun x v hv => (all_enc x.1 v hv)) (cfE all) (swoE hw) 47 #[] b 0 cap all.attach.toArray w eg (cmpLays hw b _ w) hH hlt (by simp; omega) (totE hw hn)
  rw [geE hw,List.size_toArray,List.length_attach] at hS
  refine hS.mono ?_
  rintro e w' ⟨rfl,n,os,rfl⟩
  refine ⟨rfl,[],?_⟩
  obtain ⟨dk,hdk⟩ : ∃ dk : List (EnS all),dk = all.attach.toArray.toList.mergeSort (fun x y => !elt y.1 x.1) := ⟨_,rfl⟩
  rw [← hdk]
  have hmap : dk.map Subtype.val = esrt all := by
   rw [hdk,List.map_mergeSort (s := fun x y => !elt y x) (fun a _ b _ => rfl),List.attach_map_subtype_val]; rfl
  have hdf : (dk.flatMap fun x => enc x.1) = (esrt all).flatMap enc := by rw [← List.flatMap_map,hmap]
  have hes : ((esrt all).flatMap enc).length = (all.flatMap enc).length := by
   rw [hfl,enl_flat (fun e he => hw e ((esrt_perm all).mem_iff.1 he)),esrt_len]
  have hheap : ∀ k,k < w.heap.size → (sortWorldK (fun x : EnS all => enc x.1) 67 w b 0 n dk.toArray os).heap[k]? = if b = k then some (.cells ((esrt all).flatMap enc ++ junk).toArray 62 (0,0)) else w.heap[k]? := by
   intro k hk
   unfold sortWorldK putRowK
   rw [heap_grow_old _ _ (by simpa using hk),flatK_list (by decide) hel,hdf]
   show (w.heap.modify b _)[k]? = _
   rw [Array.getElem?_modify]
   by_cases hbk : b = k
   ·subst hbk
    rw [if_pos rfl,if_pos rfl,hb]
    simp only [Option.map_some,onCells]
    rw [putCells_list hes.symm]
   ·rw [if_neg hbk,if_neg hbk]
  refine ⟨⟨rfl,rfl,rfl,?_,fun k hk hnk => ?_⟩,(fun e he => by cases he),(fun e he => by cases he),?_,own_nodup _ _ _,fun e he => .inr (List.mem_map.2 ⟨e,he,rfl⟩ : e.1 ∈ (Own.o 62 ((esrt all).flatMap enc) (some (b,cap,junk))).map (·.1))⟩
  ·show _ ≤ (grow _ _).heap.size
   rw [size_grow]
   show w.heap.size ≤ (w.heap.modify b _).size + _
   simp
  ·rw [hheap k hk,if_neg]
   rintro rfl
   exact hnk (by simp [Own.o])
  ·intro e he
   simp only [Own.o,List.mem_cons,List.not_mem_nil,or_false] at he
   subst he
   rw [hheap _ hlt,if_pos rfl]
 ·obtain rfl : all = [] := List.eq_nil_of_length_eq_zero om
  refine (AnyF.slices_SortFunc_none L.sortE (Own.a ow) (Own.c ow) (.func (.func 47) #[] #[]) w).mono ?_
  rintro e w' ⟨rfl,rfl⟩
  have e0 : esrt [] = [] := List.eq_nil_of_length_eq_zero (esrt_len [])
  rw [e0]
  exact ⟨rfl,[],Ext.refl _ _,(fun e he => by cases he),(fun e he => by cases he),hA,own_nodup _ _ _,fun e he => .inr (List.mem_map.2 ⟨e,he,rfl⟩)⟩
end Go.Proofs.YtbeegepcdglcaaaGreatDoor
namespace Go.Proofs.YtbeegepcdglcaaaGreatDoor
namespace K
def splL (xs : List Value) (off : Nat) (vs : List Value) : List Value := xs.take off ++ (vs ++ xs.drop (off + vs.length))
theorem splL_len {xs vs : List Value} {off : Nat} (h : off + vs.length ≤ xs.length) : (splL xs off vs).length = xs.length := by
 unfold splL
 rw [List.length_append,List.length_append,List.length_take,List.length_drop]; omega
theorem spl_row {xs vs junk : List Value} {off : Nat} (h : off + vs.length ≤ xs.length) : spl (xs ++ junk).toArray off vs = (splL xs off vs ++ junk).toArray := by
 have h1 := spl_list (xs.take off) ((xs.drop off).take vs.length) (xs.drop (off + vs.length) ++ junk) vs (by rw [List.length_take,List.length_drop]; omega)
 have e : xs.take off ++ (xs.drop off).take vs.length ++ (xs.drop (off + vs.length) ++ junk) = xs ++ junk := by
  have e1 : (xs.drop off).take vs.length ++ xs.drop (off + vs.length) = xs.drop off := by
   rw [← List.drop_drop,List.take_append_drop]
  rw [List.append_assoc,← List.append_assoc ((xs.drop off).take vs.length),e1,← List.append_assoc,List.take_append_drop]
 rw [e,List.length_take,Nat.min_eq_left om] at h1
 rw [h1]
 unfold splL
 simp only [List.append_assoc]
theorem OwnOk.splL {o : Own} {sz n : Nat} {xs vs : List Value} {off : Nat} (hok : OwnOk o sz n xs) (h : off + vs.length ≤ xs.length) : OwnOk o sz n (splL xs off vs) :=
 ⟨(splL_len h).trans hok.len,hok.nil,fun p hp => by rw [splL_len h]; exact hok.some p hp⟩
section
variable {C : Cx} {R O : List (Nat × Obj)} {Γ : Env} {o : Oper}
theorem Eff.storeOwn {t : TypeId} {x y : Operand} {b off : Nat} {vs : Array Value} {n : Nat} (ho : o.op = .store t x y) {ow : Own} {e : TypeId} {xs : List Value} (ha : Own.a ow = some ⟨b,0,none⟩) (hx : opd Γ [] x = some (.pointer (some ⟨b,off,none⟩))) (hy : opd Γ [] y = some (.agg vs))
  (hsz0 : (C.P.info? t).map (·.size) = some n) (hn : vs.size = n) (h1 : ∀ v ∈ vs.toList,one v = true) (F T : LO) (hO : O = F ++ (Own.o e xs ow ++ T)) (hoff : off + n ≤ xs.length) :
  Eff C R O Γ o Unit (fun _ => undef) (fun _ => F ++ (Own.o e (splL xs off vs.toList) ow ++ T)) (fun _ => True) := by
 cases ow with
 | none => cases ha
 | some p =>
  obtain ⟨b',cap,junk⟩ := p
  obtain rfl : b' = b := by simpa [Own.a] using ha
  have hi : O[F.length]? = some (b',.cells (xs ++ junk).toArray e (0,0)) := by
   rw [hO,List.getElem?_append_right (Nat.le_refl _),Nat.sub_self]; rfl
  have h := Eff.storeN (C := C) (R := R) ho hx hy hsz0 hn h1 F.length hi (by rw [List.size_toArray,List.length_append]; omega)
  rw [spl_row (by rw [Array.length_toList]; omega)] at h
  have e1 : O.set F.length (b',.cells (splL xs off vs.toList ++ junk).toArray e (0,0)) = F ++ (Own.o e (splL xs off vs.toList) (some (b',cap,junk)) ++ T) := by
   rw [hO,List.set_append_right _ _ (Nat.le_refl _),Nat.sub_self]; rfl
  rw [e1] at h
  exact h
theorem set_spl {xs : List Value} {off : Nat} {v : Value} (junk : List Value) (h : off < xs.length) : (xs ++ junk).toArray.setIfInBounds off v = (splL xs off [v] ++ junk).toArray := by
 have := spl_row (junk := junk) (vs := [v]) (off := off) (xs := xs) (by simp only [List.length_singleton]; omega)
 exact this
theorem Eff.storeOwn1 {t : TypeId} {x y : Operand} {b off : Nat} {v : Value} (ho : o.op = .store t x y) {ow : Own} {e : TypeId} {xs : List Value} (ha : Own.a ow = some ⟨b,0,none⟩) (hx : opd Γ [] x = some (.pointer (some ⟨b,off,none⟩))) (hy : opd Γ [] y = some v) (h1 : one v = true)
  (hsz0 : (C.P.info? t).map (·.size) = some 1) (F T : LO) (hO : O = F ++ (Own.o e xs ow ++ T)) (hoff : off < xs.length) :
  Eff C R O Γ o Unit (fun _ => undef) (fun _ => F ++ (Own.o e (splL xs off [v]) ow ++ T)) (fun _ => True) := by
 cases ow with
 | none => cases ha
 | some p =>
  obtain ⟨b',cap,junk⟩ := p
  obtain rfl : b' = b := by simpa [Own.a] using ha
  have hi : O[F.length]? = some (b',.cells (xs ++ junk).toArray e (0,0)) := by
   rw [hO,List.getElem?_append_right (Nat.le_refl _),Nat.sub_self]; rfl
  have h := Eff.store1 (C := C) (R := R) ho hx hy h1 hsz0 F.length hi (by rw [List.size_toArray,List.length_append]; omega)
  rw [set_spl junk hoff] at h
  have e1 : O.set F.length (b',.cells (splL xs off [v] ++ junk).toArray e (0,0)) = F ++ (Own.o e (splL xs off [v]) (some (b',cap,junk)) ++ T) := by
   rw [hO,List.set_append_right _ _ (Nat.le_refl _),Nat.sub_self]; rfl
  rw [e1] at h
  exact h
theorem Eff.reO {ι : Type} {V : ι → Value} {A A2 : ι → List (Nat × Obj)} {F : ι → Prop} (h : Eff C R O Γ o ι V A F) (e : ∀ x,A x = A2 x) : Eff C R O Γ o ι V A2 F := by
 have : A = A2 := funext e
 subst this
 exact h
end
end K
end Go.Proofs.YtbeegepcdglcaaaGreatDoor
namespace Go.Proofs.YtbeegepcdglcaaaGreatDoor
open K
set_option linter.unusedVariables false
theorem sum1 {kt : Array Value} {tt0 : TypeId} {fr0 : Nat × Nat} (hK : KT kt) (s : ByteArray) (b cap : Nat) (w : World) (h1 : w.heap[0]? = some (.cells kt tt0 fr0)) {t : TypeId} {fr : Nat × Nat} (h2 : w.heap[b]? = some (.cells #[.string s] t fr)) :
  Calls Tryz.prog 23 #[.slice (some ⟨b,0,none⟩) 1 cap] w fun e w' => e = .returned (.agg (bv (sdg s))) ∧ Ext [] w w' := by
 have h9 := shaSum (some ⟨b,0,none⟩) cap [s] [(b,.cells #[.string s] t fr)] w (fun _ => ⟨b,0,_,t,fr,rfl,mH,fun j hj => by
  obtain rfl : j = 0 := by have : j < 1 := hj; omega
  rfl⟩) (Nat.le_of_ble_eq_true rfl) (fun e he => by
  rcases List.mem_cons.1 he with rfl | he
  ·exact h1
  ·rw [List.mem_singleton.1 he]; exact h2) hK
 rw [scat_one] at h9
 exact h9
abbrev MX2 := Array MapEntry × Nat
theorem size_spl : ∀ (vs : List Value) (cs : Array Value) (off : Nat),(spl cs off vs).size = cs.size
 | [],_,_ => rfl
 | v :: vs,cs,off => by rw [spl,size_spl vs,Array.size_setIfInBounds]
theorem pKey : DKey Tryz.prog 36 5 32 := ⟨Tryz.underlying36,Tryz.underlying5,by kernel_rfl⟩
def SeenOk (W : List (List UInt8 × Value)) (l : List (List UInt8)) : Prop := ∀ d,dget W d = if d ∈ l then some (.agg #[]) else none
theorem SeenOk.nil : SeenOk [] [] := fun d => rfl
theorem SeenOk.add {W : List (List UInt8 × Value)} {l : List En} (h : SeenOk W (ids l)) (s : ByteArray) : SeenOk (dset W (sdg s) (.agg #[])) (ids (l ++ [mk0 s])) := by
 intro d
 rw [dget_set,h d]
 have e : ids (l ++ [mk0 s]) = ids l ++ [sdg s] := by unfold ids; rw [List.map_append]; rfl
 rw [e]
 by_cases hd : d = sdg s
 ·rw [if_pos hd,if_pos (mR (by rw [hd]; exact mH))]
 ·rw [if_neg hd]
  by_cases h2 : d ∈ ids l
  ·rw [if_pos h2,if_pos (mL h2)]
  ·rw [if_neg h2,if_neg (fun h => (List.mem_append.1 h).elim h2 (fun h => hd (List.mem_singleton.1 h)))]
theorem K.Eff.seen {C : Cx} {R O : List (Nat × Obj)} {Γ : Env} {op : Oper} {t kt el : TypeId} {x y : Operand} {k : List UInt8} {l : List (List UInt8)} {e : TypeId} (ho : op.op = .lookup t x y true) (hm : C.P.underlying t = some (.map kt e)) (hd : DKey C.P kt el 32) (hkn : k.length = 32) (hz0 : (C.P.info? e).bind (·.zero) = some (.agg #[])) {r : Nat} (hx : opd Γ [] x = some (.map (some r))) (hy : opd Γ [] y = some (.agg (bv k)))
  {es : Array MapEntry} {ck : Nat} {W : List (List UInt8 × Value)} (h : DMapOk 32 es ck W) (hW : SeenOk W l) (hb : ∀ w,HP C.w0 C.M R O w → w.heap[r]? = some (.map es ck)) : Eff C R O Γ op Unit (fun _ => .tuple #[.agg #[],.bool (decide (k ∈ l))]) (fun _ => O) (fun _ => True) := by
 have h1 := Eff.dGet (z := .agg #[]) ho hm hd hz0 hkn hx hy h hb
 rw [hW k] at h1
 by_cases hk : k ∈ l
 ·rw [if_pos hk] at h1; rw [decide_eq_true hk]; exact h1
 ·rw [if_neg hk] at h1; rw [decide_eq_false hk]; exact h1
def LastOk (W : List (Int × Value)) (acc : List En) : Prop := ∀ k : Nat,mget W (k : Int) = (lst acc k).map fun j => .int .i64 (j : Int)
theorem LastOk.nil : LastOk [] [] := fun k => rfl
theorem LastOk.add {W : List (Int × Value)} {acc : List En} (h : LastOk W acc) {x : En} (hx : 0 < x.t.size) : LastOk (mset W ((fb x.t : Nat) : Int) (.int .i64 (acc.length : Int))) (acc ++ [x]) := by
 intro k
 rw [mget_set,lst_snoc,h k]
 by_cases hk : fb x.t = k
 ·rw [if_pos (by rw [hk]),if_pos ⟨hx,hk⟩]; rfl
 ·rw [if_neg om,if_neg (fun h => hk h.2)]
theorem LastOk.skip {W : List (Int × Value)} {acc : List En} (h : LastOk W acc) {x : En} (hx : x.t.size = 0) : LastOk W (acc ++ [x]) := by
 intro k
 rw [lst_snoc,h k,if_neg (fun h => by omega)]
theorem K.Eff.last {C : Cx} {R O : List (Nat × Obj)} {Γ : Env} {op : Oper} {t kt : TypeId} {q : IntKind} {x y : Operand} {k : Nat} {acc : List En} {e : TypeId} (ho : op.op = .lookup t x y true) (hm : C.P.underlying t = some (.map kt e)) (hd : C.P.underlying kt = some (.int q)) (hz0 : (C.P.info? e).bind (·.zero) = some (.int .i64 0)) {r : Nat} (hx : opd Γ [] x = some (.map (some r))) (hy : opd Γ [] y = some (.int .u8 (k : Int)))
  {es : Array MapEntry} {ck : Nat} {W : List (Int × Value)} (h : BMapOk es ck W) (hW : LastOk W acc) (hb : ∀ w,HP C.w0 C.M R O w → w.heap[r]? = some (.map es ck)) {j : Nat} {b : Bool} (hj : (lst acc k = some j ∧ b = true) ∨ (lst acc k = none ∧ j = 0 ∧ b = false)) : Eff C R O Γ op Unit (fun _ => .tuple #[.int .i64 (j : Int),.bool b]) (fun _ => O) (fun _ => True) := by
 have h1 := Eff.bGet (z := .int .i64 0) ho hm hd hz0 hx hy h hb
 rw [hW k] at h1
 rcases hj with ⟨hj,rfl⟩ | ⟨hj,rfl,rfl⟩
 ·rw [hj] at h1; exact h1
 ·rw [hj] at h1; exact h1
def pre (L : List En) (i : Nat) : List En := chn (L.take i) ++ L.drop i
theorem chn_tl (L : List En) {i : Nat} (h : i ≤ L.length) : (chn (L.take i)).length = i := by rw [chn_len,List.length_take]; omega
theorem pre_len (L : List En) {i : Nat} (h : i ≤ L.length) : (pre L i).length = L.length := by unfold pre; rw [List.length_append,chn_tl L h,List.length_drop]; omega
theorem pre_at {L : List En} {i : Nat} (h : i < L.length) : (pre L i).getD i ez = L.getD i ez := by
 unfold pre
 rw [List.getD_eq_getElem?_getD,List.getElem?_append_right (by rw [chn_tl L om]; exact Nat.le_refl _),chn_tl L om,Nat.sub_self,List.getElem?_drop,List.getD_eq_getElem?_getD]; rfl
theorem pre_lt {L : List En} {i j : Nat} (h : i ≤ L.length) (hj : j < i) : (pre L i).getD j ez = (chn (L.take i)).getD j ez := by
 unfold pre
 rw [List.getD_eq_getElem?_getD,List.getElem?_append_left (by rw [chn_tl L h]; exact hj),List.getD_eq_getElem?_getD]
theorem pre_l {L : List En} (hL : ∀ e ∈ L,EnL e) (i : Nat) : ∀ e ∈ pre L i,EnL e := by
 intro e he
 rcases List.mem_append.1 he with he | he
 ·have key : ∀ l : List En,(∀ e ∈ l,EnL e) → ∀ e ∈ chn l,EnL e := by
   intro l
   refine snoc_ind (p := fun l => (∀ e ∈ l,EnL e) → ∀ e ∈ chn l,EnL e) (fun _ e he => by cases he) (fun l x ih h => ?_) l
   have h1 := ih fun e he => h e (mL he)
   have h2 := h x (mR mH)
   intro e he
   rw [chn_snoc] at he
   rcases List.mem_append.1 he with he | he
   ·exact h1 e he
   ·rw [List.mem_singleton.1 he]
    rcases mkE_cases (chn l) x with h3 | ⟨j,_,h4,_,_,h3⟩
    ·rw [h3]; exact h2
    ·rw [h3]; exact ⟨h2.id,(h1 _ (K.getD_mem (lst_lt h4))).id⟩
  exact key _ (fun e he => hL e (List.mem_of_mem_take he)) e he
 ·exact hL e (List.mem_of_mem_drop he)
theorem pre_same {L : List En} {i : Nat} (h : i < L.length) (he : mkE (chn (L.take i)) (L.getD i ez) = L.getD i ez) : pre L (i + 1) = pre L i := by
 unfold pre
 rw [chn_take h,he,List.append_assoc,List.singleton_append,getD_of _ h,← List.drop_eq_getElem_cons h]
theorem pre_set {L : List En} (hL : ∀ e ∈ L,EnL e) {i : Nat} (h : i < L.length) {y : En} (hy : mkE (chn (L.take i)) (L.getD i ez) = y) (hyl : EnL y) : splL ((pre L i).flatMap enc) (i * 67) (enc y).toArray.toList = (pre L (i + 1)).flatMap enc := by
 have h1 : ((chn (L.take i)).flatMap enc).length = i * 67 := by rw [enl_len (fun e he => pre_l hL i e (mL he)),chn_tl L om]
 have e1 : (pre L i).flatMap enc = (chn (L.take i)).flatMap enc ++ (enc (L.getD i ez) ++ (L.drop (i + 1)).flatMap enc) := by
  unfold pre
  rw [List.flatMap_append,List.drop_eq_getElem_cons h,List.flatMap_cons,getD_of _ h]
 have h2 : (enc (L.getD i ez)).length = 67 := enc_len (hL _ (K.getD_mem h))
 unfold splL
 rw [e1,List.take_append_of_le_length om,List.take_of_length_le om,List.drop_append,List.drop_of_length_le om,List.nil_append]
 have h3 : (enc y).toArray.toList.length = 67 := enc_len hyl
 rw [h1,h3,show i * 67 + 67 - i * 67 = 67 by omega,List.drop_append,List.drop_of_length_le om,h2,Nat.sub_self,List.nil_append,List.drop_zero]
 unfold pre
 rw [chn_take h,hy,List.append_assoc,List.flatMap_append,List.singleton_append,List.flatMap_cons]
theorem pre_end (L : List En) : pre L L.length = chn L := by unfold pre; rw [List.take_length,List.drop_length,List.append_nil]
theorem size_of {s : ByteArray} (h : ¬ (s.toList == (⟨#[]⟩ : ByteArray).toList) = true) : 0 < s.size := by
 rcases Nat.eq_zero_or_pos s.size with h0 | h0
 ·exact absurd (emp_eq h0) h
 ·exact h0
theorem size_no {s : ByteArray} (h : (s.toList == (⟨#[]⟩ : ByteArray).toList) = true) : s.size = 0 := by
 rcases Nat.eq_zero_or_pos s.size with h0 | h0
 ·exact h0
 ·rw [emp_ne om] at h; cases h
set_option maxRecDepth 100000 in
set_option maxHeartbeats 8000000 in
theorem pkPlan (la : Option Addr) (ca : Nat) (ls : List ByteArray) (Rl : List (Nat × Obj)) {kt : Array Value} {tt0 : TypeId} {fr0 : Nat × Nat} (w : World) (hK : KT kt) (hI : InS Rl la ls.length (fun j => .string (ls.getD j ByteArray.empty))) (hR : Has w ((0,Obj.cells kt tt0 fr0) :: Rl)) (hn : ls.length ≤ 1000000) (hsz : ∀ s ∈ ls,s.size ≤ 1000000) :
  Calls Tryz.prog 18 #[.slice la ls.length ca] w fun e w' => ∃ ow : K.Own,OwnOk ow 67 (planF ls).length ((planF ls).flatMap enc) ∧ e = .returned (.slice (Own.a ow) (planF ls).length (Own.c ow)) ∧ ∃ R1,HP w [] R1 (Own.o 62 ((planF ls).flatMap enc) ow) w' := by
 refine enter (vs := [.slice la ls.length ca]) [] ((0,Obj.cells kt tt0 fr0) :: Rl) [] Tryz.func18 rfl kr (HP.ofHas hR) ?_
 refine Rg [0] [] n0 trivial ?_
 refine Rg [0,3] [] n0 trivial ?_
 refine Cfg.begL rfl ?_
 refine Le (Eff.mapNew rfl) ?_
 rintro mb ⟨hmb,nmb⟩
 refine Lp 1 [] (some [0,3,4]) n0 trivial ?_
 refine CfgL.done rfl ?_
 refine Rg [3,4,17,18,19] [] n0 trivial ?_
 refine Cfg.loop rfl (ι := Nat × List (List UInt8 × Value) × MX2 × K.Own) (fun (xz : Nat × List (List UInt8 × Value) × MX2 × K.Own) => match xz with | (i,W,y,ow) => [(19,[],.int .i64 (i : Int)),(18,[],.int .i64 (ls.length : Int)),(17,[],.slice la ls.length ca),(4,[],.map (some mb)),(3,[],.slice (Own.a ow) ((uq (ls.take i)).length) (Own.c ow))]) (fun (xz : Nat × List (List UInt8 × Value) × MX2 × K.Own) => match xz with | (i,W,y,ow) => ([(mb,.map y.1 y.2)] ++ (Own.o 62 ((uq (ls.take i)).flatMap enc) ow ++ []))) (fun (xz : Nat × List (List UInt8 × Value) × MX2 × K.Own) => match xz with | (i,W,y,ow) => (i ≤ ls.length) ∧ (OwnOk ow 67 (uq (ls.take i)).length ((uq (ls.take i)).flatMap enc)) ∧ (DMapOk 32 y.1 y.2 W) ∧ (SeenOk W (ids (uq (ls.take i))))) (fun (xz : Nat × List (List UInt8 × Value) × MX2 × K.Own) => match xz with | (i,W,y,ow) => ls.length - i) (0,[],(#[],0),none) ?_ (Conv.mk kr) slr ?_
 ·exact ⟨Nat.zero_le _,OwnOk.none 67,DMapOk.empty 32 0,SeenOk.nil⟩
 ·rintro ⟨i,W,y,ow⟩ ⟨hi,hok,hm,hW⟩
  refine Rg [3,4,17,18,19,20] [] n0 trivial ?_
  refine Cfg.cond rfl (b := (decide ((i : Int) < (ls.length : Int)))) kr (fun c1r => ?_) (fun c1r => ?_)
  ·have c1 := (dT c1r)
   obtain ⟨sa,offa,csa,tea,frea,rfl,hma,hca⟩ := hI om
   refine Cg (Γ' := [(20,[],.bool (decide ((i : Int) < (ls.length : Int)))),(19,[],.int .i64 (i : Int)),(18,[],.int .i64 (ls.length : Int)),(17,[],.slice (some ⟨sa,offa,none⟩) ls.length ca),(4,[],.map (some mb)),(3,[],.slice (Own.a ow) ((uq (ls.take i)).length) (Own.c ow))]) ?_
   obtain ⟨s,hs⟩ : ∃ s,s = ls.getD i ByteArray.empty := ⟨_,rfl⟩
   have hul := uq_len (ls.take i)
   rw [List.length_take] at hul
   refine Rg [3,4,6,17,18,19] [dZ,(dS (.string s))] (fun S => [(0 ≤ (i : Int) ∧ (i : Int) < (ls.length : Int)),(cE S sa (addO offa i) (.string s))]) ⟨om,(fun w1 h => by rw [addO_eq,hs]; exact (cell_cells (h.ro _ (List.mem_cons_of_mem _ hma))).trans (hca i om)),trivial⟩ ?_
   refine Cfg.begL rfl ?_
   refine Lp 1 [] none n0 trivial ?_
   refine Le (Eff.buildSlice (e := 9) (cells := #[.string s]) (parts := #[(0,.string s)]) rfl kr (fun _ => kr)) ?_
   rintro lb ⟨hlb,nlb⟩
   refine Le (Eff.callA (vs := [.slice (some ⟨lb,0,none⟩) 1 1]) (.agg (bv (sdg s))) rfl Tryz.func23 rfl rfl kr (fun w1 h => sum1 hK s lb 1 w1 (h.ro (0,_) mH) (h.own (lb,_) (show _ ∈ (([(lb,Obj.cells #[.string s] 9 (0,0)),(mb,Obj.map y.1 y.2)] ++ (Own.o 62 ((uq (ls.take i)).flatMap enc) ow ++ [])) : LO) from (mL mH))))) ?_
   rintro ⟨⟩ -
   refine Le (Eff.alloc (z := (.agg (bv (List.replicate 32 0)))) rfl kr) ?_
   rintro db ⟨hdb,ndb⟩
   refine Le (Eff.storeN (b := db) (off := 0) (vs := (bv (sdg s))) (n := 32) rfl kr kr kr ((bv_size _).trans (sdg_len s)) (all_bv _) 0 (cs := (bv (List.replicate 32 0))) (e := 36) kr (by rw [zdg_size]; omega)) ?_
   rintro ⟨⟩ -
   refine CfgL.setO (congrArg (fun (xq : Array Value) => (([(db,.cells xq 36 (0,0)),(lb,.cells #[.string s] 9 (0,0)),(mb,.map y.1 y.2)] ++ (Own.o 62 ((uq (ls.take i)).flatMap enc) ow ++ [])) : LO)) (show _ = (bv (sdg s)) from spl_all (((bv_size _).trans (sdg_len s)).trans zdg_size.symm))) ?_
   refine CfgL.done rfl ?_
   refine Cg (Γ' := [(7,[],pT db),(6,[],.string s),(19,[],.int .i64 (i : Int)),(18,[],.int .i64 (ls.length : Int)),(17,[],.slice (some ⟨sa,offa,none⟩) ls.length ca),(4,[],.map (some mb)),(3,[],.slice (Own.a ow) ((uq (ls.take i)).length) (Own.c ow))]) ?_
   refine Cfg.begL rfl ?_
   refine Lp 2 [dZ,(dS (.agg (bv (sdg s))))] none (fun S => [(∀ w1,S w1 → (loadVar 36 ⟨db,0,none⟩).run Tryz.prog w1 = .ok (.agg (bv (sdg s))) w1)]) ⟨(fun w1 h => h.oload 0 rfl Tryz.underlying36 rfl (n := 32) kr ((bv_size _).trans (sdg_len s))),trivial⟩ ?_
   refine Le (Eff.seen (r := mb) (k := sdg s) (l := ids (uq (ls.take i))) (es := y.1) (ck := y.2) rfl Tryz.underlying91 pKey (sdg_len s) kr kr kr hm hW (fun w1 h => (h.own (mb,_) (show _ ∈ (([(db,Obj.cells (bv (sdg s)) 36 (0,0)),(lb,Obj.cells #[.string s] 9 (0,0)),(mb,Obj.map y.1 y.2)] ++ (Own.o 62 ((uq (ls.take i)).flatMap enc) ow ++ [])) : LO) from (mL (List.mem_cons_of_mem _ (List.mem_cons_of_mem _ mH))))))) ?_
   rintro ⟨⟩ -
   refine Lp 3 [] (some [3,4,6,7,17,18,19,30,31]) n0 trivial ?_
   refine Le (Eff.alloc (z := (.agg #[])) rfl kr) ?_
   rintro zb ⟨hzb,nzb⟩
   refine Le (Eff.storeN (b := zb) (off := 0) (vs := #[]) (n := 0) rfl kr kr kr rfl (fun q hq => by cases hq) 0 (cs := #[]) (e := 92) kr (by simp)) ?_
   rintro ⟨⟩ -
   refine CfgL.setO (congrArg (fun (xq : Array Value) => (([(zb,.cells xq 92 (0,0)),(db,.cells (bv (sdg s)) 36 (0,0)),(lb,.cells #[.string s] 9 (0,0)),(mb,.map y.1 y.2)] ++ (Own.o 62 ((uq (ls.take i)).flatMap enc) ow ++ [])) : LO)) (show _ = #[] from rfl)) ?_
   refine Lp 1 [] (some [3,4,6,7,9,17,18,19]) n0 trivial ?_
   refine CfgL.done rfl ?_
   refine Rg [3,4,6,7,17,18,19,32] [] n0 trivial ?_
   refine Cfg.cond rfl (b := (decide (sdg s ∈ ids (uq (ls.take i))))) kr (fun c2r => ?_) (fun c2r => ?_)
   ·have c2 : ((decide (sdg s ∈ ids (uq (ls.take i)))) = true) := c2r
    refine Rg [3,4,17,18,19] [] (fun _ => [(i6 ((i : Int) + 1))]) ⟨om,trivial⟩ ?_
    have hU : uq (ls.take (i + 1)) = (uq (ls.take i)) := by rw [uq_take om,← hs,uqs,if_pos (dT (by simpa using c2))]
    refine Cfg.setO (congrArg (fun (xq : List Value) => (([(zb,.cells #[] 92 (0,0)),(db,.cells (bv (sdg s)) 36 (0,0)),(lb,.cells #[.string s] 9 (0,0)),(mb,.map y.1 y.2)] ++ (Own.o 62 xq ow ++ [])) : LO)) (show _ = ((uq (ls.take (i + 1))).flatMap enc) from by rw [hU])) ?_
    refine Cfg.setS 3 (congrArg (fun (xq : Nat) => (.slice (Own.a ow) xq (Own.c ow) : Value)) (show ((uq (ls.take i)).length) = ((uq (ls.take (i + 1))).length) from by rw [hU])) ?_
    refine Cfg.again rfl (i + 1,W,y,ow) ⟨by omega,by rw [hU]; exact hok,hm,by rw [hU]; exact hW⟩ (by show ls.length - (i + 1) < ls.length - i; omega) (Conv.mk kr) (.cons _ (.cons _ (.cons _ slr)))
   ·have c2 : ((decide (sdg s ∈ ids (uq (ls.take i)))) = false) := c2r
    refine Cfg.begL rfl ?_
    refine Lp 3 [dZ,(dS (.agg (bv (sdg s)))),(dS (.agg #[]))] (some [3,4,6,7,17,18,19,33,34,35]) (fun S => [(∀ w1,S w1 → (loadVar 36 ⟨db,0,none⟩).run Tryz.prog w1 = .ok (.agg (bv (sdg s))) w1),(∀ w1,S w1 → (Instr.build 92 #[]).run Tryz.prog w1 = .ok (.agg #[]) w1)]) ⟨(fun w1 h => h.oload 1 rfl Tryz.underlying36 rfl (n := 32) kr ((bv_size _).trans (sdg_len s))),(fun w1 _ => kr),trivial⟩ ?_
    refine Le (Eff.dSet (r := mb) (k := sdg s) (u := .agg #[]) (es := y.1) (ck := y.2) (n := 32) (el := 5) rfl Tryz.underlying91 pKey (sdg_len s) kr kr kr hm 3 kr) ?_
    rintro xm hxm
    refine CfgL.done rfl ?_
    refine Cg (Γ' := [(7,[],pT db),(6,[],.string s),(19,[],.int .i64 (i : Int)),(18,[],.int .i64 (ls.length : Int)),(17,[],.slice (some ⟨sa,offa,none⟩) ls.length ca),(4,[],.map (some mb)),(3,[],.slice (Own.a ow) ((uq (ls.take i)).length) (Own.c ow))]) ?_
    refine Cfg.begL rfl ?_
    refine Lp 4 [dZ,(dS (.agg (bv (sdg s)))),dZ,(dS (.agg (enc (mk0 s)).toArray))] (some [3,4,17,18,19,36,39]) (fun S => [(∀ w1,S w1 → (loadVar 36 ⟨db,0,none⟩).run Tryz.prog w1 = .ok (.agg (bv (sdg s))) w1),(∀ w1,S w1 → (Instr.build 62 #[(0,.agg (bv (sdg s))),(1,.string s)]).run Tryz.prog w1 = .ok (.agg (enc (mk0 s)).toArray) w1)]) ⟨(fun w1 h => h.oload 1 rfl Tryz.underlying36 rfl (n := 32) kr ((bv_size _).trans (sdg_len s))),(fun w1 _ => build_e (sdg_len s) s w1),trivial⟩ ?_
    refine Le (Eff.buildAgg (vs := (enc (mk0 s)).toArray) (n := 67) rfl kr Tryz.underlying43 kr (z := (.agg (enc ez).toArray)) kr (by rw [List.size_toArray,enc_len (mk0_l s)]) (by decide) (by decide)) ?_
    rintro nb ⟨hnb,nnb⟩
    refine Le (Eff.appendF rfl 67 104 Tryz.underlying43 kr (z := (.agg (enc ez).toArray)) kr kr ow (xs := ((uq (ls.take i)).flatMap enc)) hok kr (b2 := nb) (off2 := 0) (m := 1) (c2 := 1) kr (enc (mk0 s)) (enc_len (mk0_l s)) (all_enc _) [(nb,.cells ((enc (mk0 s)).toArray) 62 (0,0)),(zb,.cells #[] 92 (0,0)),(db,.cells (bv (sdg s)) 36 (0,0)),(lb,.cells #[.string s] 9 (0,0)),(mb,.map xm.1 xm.2)] [] (by rfl) (fun w1 h j v hj => by rw [Nat.zero_add]; exact h.ocell 0 rfl (by rw [List.getElem?_toArray]; exact hj)) om om) ?_
    rintro o2 ko2
    refine Lp 1 [] (some [3,4,17,18,19]) n0 trivial ?_
    refine CfgL.done rfl ?_
    refine Rg [3,4,17,18,19] [] (fun _ => [(i6 ((i : Int) + 1))]) ⟨om,trivial⟩ ?_
    have hU : uq (ls.take (i + 1)) = (uq (ls.take i)) ++ [mk0 s] := by rw [uq_take om,← hs,uqs,if_neg (by simpa using c2)]
    refine Cfg.setO (congrArg (fun (xq : List Value) => (([(nb,.cells ((enc (mk0 s)).toArray) 62 (0,0)),(zb,.cells #[] 92 (0,0)),(db,.cells (bv (sdg s)) 36 (0,0)),(lb,.cells #[.string s] 9 (0,0)),(mb,.map xm.1 xm.2)] ++ (Own.o 62 xq o2 ++ [])) : LO)) (show _ = ((uq (ls.take (i + 1))).flatMap enc) from by rw [hU,List.flatMap_append,List.flatMap_singleton])) ?_
    refine Cfg.setS 3 (congrArg (fun (xq : Nat) => (.slice (Own.a o2) xq (Own.c o2) : Value)) (show (((uq (ls.take i)).length + 1)) = ((uq (ls.take (i + 1))).length) from by rw [hU,List.length_append]; rfl)) ?_
    refine Cfg.again rfl (i + 1,dset W (sdg s) (.agg #[]),xm,o2) ⟨by omega,by rw [hU,List.flatMap_append,List.flatMap_singleton,List.length_append]; exact ko2,hxm,by rw [hU]; exact hW.add s⟩ (by show ls.length - (i + 1) < ls.length - i; omega) (Conv.mk kr) (.cons _ (.cons _ (.cons _ (.cons _ slr))))
  ·have c1 := (dF c1r)
   have hie : i = ls.length := by omega
   have hUe : (uq (ls.take i)) = uq ls := by rw [hie,List.take_length]
   have hok : OwnOk ow 67 (uq ls).length ((uq ls).flatMap enc) := by rw [hUe] at hok; exact hok
   refine Cfg.setS 3 (congrArg (fun (xq : Nat) => (.slice (Own.a ow) xq (Own.c ow) : Value)) (show ((uq (ls.take i)).length) = ((uq ls).length) from by rw [hUe])) ?_
   refine Cfg.setO (congrArg (fun (xq : List Value) => (([(mb,.map y.1 y.2)] ++ (Own.o 62 xq ow ++ [])) : LO)) (show _ = ((uq ls).flatMap enc) from by rw [hUe])) ?_
   refine Cfg.begL rfl ?_
   refine Lp 1 [] (some [3,43]) n0 trivial ?_
   refine Le (Eff.callH (vs := [.slice (Own.a ow) ((uq ls).length) (Own.c ow),.func (.func 47) #[] #[]]) (fun _ : Unit => .tuple #[]) (Own.o 62 ((uq ls).flatMap enc) ow) (fun _ => Own.o 62 ((esrt (uq ls)).flatMap enc) ow) (fun _ => True) [(mb,.map y.1 y.2)] [] rfl rfl Tryz.func46 rfl rfl kr (fun w1 h hA hd => (pkSort ow (uq ls) w1 hok (fun e he => by rw [uq_mk0 ls e he]; exact mk0_l _) (uq_nodup ls) hA (by have := uq_len ls; omega)).mono fun _ _ ⟨h1,h2⟩ => ⟨(),trivial,h1,h2⟩)) ?_
   rintro ⟨⟩ -
   refine CfgL.done rfl ?_
   refine Cg (Γ' := [(3,[],.slice (Own.a ow) ((uq ls).length) (Own.c ow))]) ?_
   refine Cfg.begL rfl ?_
   refine Le (Eff.mapNew rfl) ?_
   rintro mc ⟨hmc,nmc⟩
   refine Lp 1 [] (some [3,10]) n0 trivial ?_
   refine CfgL.done rfl ?_
   obtain ⟨L,hLd⟩ : ∃ L,L = esrt (uq ls) := ⟨_,rfl⟩
   have hLn : (uq ls).length = L.length := by rw [hLd,esrt_len]
   have hLl : ∀ e ∈ L,EnL e := fun e he => by rw [hLd] at he; have he := (esrt_perm _).mem_iff.1 he; rw [uq_mk0 ls e he]; exact mk0_l _
   have hLs : ∀ e ∈ L,e.t.size ≤ 1000000 := fun e he => by rw [hLd] at he; exact hsz _ (uq_mem ls e ((esrt_perm _).mem_iff.1 he))
   have huq := uq_len ls
   have hokL : OwnOk ow 67 L.length (L.flatMap enc) := by
    rw [← hLn,hLd]
    have h1 : ((esrt (uq ls)).flatMap enc).length = ((uq ls).flatMap enc).length := by rw [enl_len (hLd ▸ hLl),enl_len (fun e he => by rw [uq_mk0 ls e he]; exact mk0_l _),esrt_len]
    exact ⟨h1.trans hok.len,hok.nil,fun p hp => by rw [h1]; exact hok.some p hp⟩
   refine Cfg.setS 3 (congrArg (fun (xq : Nat) => (.slice (Own.a ow) xq (Own.c ow) : Value)) (show ((uq ls).length) = L.length from hLn)) ?_
   refine Cfg.setO (congrArg (fun (xq : List Value) => (([(mc,.map #[] 0),(mb,.map y.1 y.2)] ++ (Own.o 62 xq ow ++ [])) : LO)) (show _ = (L.flatMap enc) from by rw [hLd])) ?_
   refine Rg [3,10,46,47,48] [] n0 trivial ?_
   refine Cfg.loop rfl (ι := Nat × List (Int × Value) × MX2) (fun (xz : Nat × List (Int × Value) × MX2) => match xz with | (i,W,y) => [(48,[],.int .i64 (i : Int)),(47,[],.int .i64 (L.length : Int)),(46,[],.slice (Own.a ow) L.length (Own.c ow)),(10,[],.map (some mc)),(3,[],.slice (Own.a ow) L.length (Own.c ow))]) (fun (xz : Nat × List (Int × Value) × MX2) => match xz with | (i,W,y) => ([(mc,.map y.1 y.2)] ++ (Own.o 62 ((pre L i).flatMap enc) ow ++ []))) (fun (xz : Nat × List (Int × Value) × MX2) => match xz with | (i,W,y) => (i ≤ L.length) ∧ (OwnOk ow 67 L.length ((pre L i).flatMap enc)) ∧ (BMapOk y.1 y.2 W) ∧ (LastOk W (chn (L.take i)))) (fun (xz : Nat × List (Int × Value) × MX2) => match xz with | (i,W,y) => L.length - i) (0,[],(#[],0)) ?_ (Conv.mk kr) (.cons_cons _ (.cons _ slr)) ?_
   ·exact ⟨Nat.zero_le _,by exact hokL,BMapOk.empty 0,LastOk.nil⟩
   ·rintro ⟨i,W,y⟩ ⟨hi,hok2,hm,hW⟩
    refine Rg [3,10,46,47,48,49] [] n0 trivial ?_
    refine Cfg.cond rfl (b := (decide ((i : Int) < (L.length : Int)))) kr (fun c3r => ?_) (fun c3r => ?_)
    ·have c3 := (dT c3r)
     have hpl := pre_len L (i := i) om
     have hch := chn_tl L (i := i) om
     obtain ⟨b2,bcs,hba,hbm,hbc⟩ := own_at (e := 62) hok2 om
     obtain ⟨x,hx⟩ : ∃ x,x = L.getD i ez := ⟨_,rfl⟩
     have hxm : x ∈ L := by rw [hx]; exact K.getD_mem om
     have hxl : EnL x := hLl _ hxm
     have hxs := hLs _ hxm
     have hxp : x = (pre L i).getD i ez := by rw [pre_at om]; exact hx
     have hpre := pre_l hLl i
     refine Cfg.setS 46 (congrArg (fun (xq : Value) => (xq : Value)) (show .slice (Own.a ow) L.length (Own.c ow) = .slice (some ⟨b2,0,none⟩) L.length (Own.c ow) from by rw [hba])) ?_
     refine Cfg.setS 3 (congrArg (fun (xq : Value) => (xq : Value)) (show .slice (Own.a ow) L.length (Own.c ow) = .slice (some ⟨b2,0,none⟩) L.length (Own.c ow) from by rw [hba])) ?_
     refine Cfg.begL rfl ?_
     refine Lp 3 [dZ,dZ,(dS (.agg (enc x).toArray))] (some [3,10,46,47,48,50,52]) (fun S => [(0 ≤ (i : Int) ∧ (i : Int) < (L.length : Int)),(∀ w1,S w1 → (loadVar 62 ⟨b2,(i * 67),none⟩).run Tryz.prog w1 = .ok (.agg (enc x).toArray) w1)]) ⟨om,(fun w1 h => load_list (vs := enc x) Tryz.underlying62 rfl kr (enc_len hxl) (fun q9 v hq9 => by exact (cell_cells (h.own _ (show _ ∈ (([(mc,Obj.map y.1 y.2)] ++ (Own.o 62 ((pre L i).flatMap enc) ow ++ [])) : LO) from (mR (mL hbm))))).trans (en_cell hpre hbc (i := i) om (by rw [← hxp]; exact hq9)))),trivial⟩ ?_
     refine Le (Eff.alloc (z := (.agg (enc ez).toArray)) rfl kr) ?_
     rintro eb ⟨heb,neb⟩
     refine Lp 1 [] (some [3,10,11,12,46,47,48,52]) n0 trivial ?_
     refine Le (Eff.storeN (b := eb) (off := 0) (vs := (enc x).toArray) (n := 67) rfl kr kr kr (by rw [List.size_toArray,enc_len hxl]) (fun q hq => all_enc _ q hq) 0 (cs := (enc ez).toArray) (e := 62) kr (by rw [zero_en]; decide)) ?_
     rintro ⟨⟩ -
     refine CfgL.setO (congrArg (fun (xq : Array Value) => (([(eb,.cells xq 62 (0,0)),(mc,.map y.1 y.2)] ++ (Own.o 62 ((pre L i).flatMap enc) ow ++ [])) : LO)) (show _ = ((enc x).toArray) from spl_all (by rw [List.size_toArray,zero_en,enc_len hxl]))) ?_
     refine CfgL.done rfl ?_
     refine Cg (Γ' := [(11,[],.int .i64 (i : Int)),(12,[],pT eb),(48,[],.int .i64 (i : Int)),(47,[],.int .i64 (L.length : Int)),(46,[],.slice (some ⟨b2,0,none⟩) L.length (Own.c ow)),(10,[],.map (some mc)),(3,[],.slice (some ⟨b2,0,none⟩) L.length (Own.c ow))]) ?_
     refine Rg [3,10,11,12,46,47,48,55] [dZ,(dS (.string x.t))] (fun S => [(cE S eb 32 (.string x.t))]) ⟨(fun w1 h => h.ocell 0 rfl (by rw [List.getElem?_toArray]; exact (enc_t hxl))),trivial⟩ ?_
     refine Cfg.cond rfl (b := (x.t.toList == (⟨#[]⟩ : ByteArray).toList)) kr (fun c4r => ?_) (fun c4r => ?_)
     ·have c4 : ((x.t.toList == (⟨#[]⟩ : ByteArray).toList) = true) := c4r
      refine Rg [3,10,46,47,48] [] (fun _ => [(i6 ((i : Int) + 1))]) ⟨om,trivial⟩ ?_
      have hmk : mkE (chn (L.take i)) x = x := mkE_zero (size_no c4)
      have hps : (pre L (i + 1)) = (pre L i) := pre_same om (by rw [← hx]; exact hmk)
      have hcn : chn (L.take (i + 1)) = (chn (L.take i)) ++ [x] := by rw [chn_take om,← hx,hmk]
      refine Cfg.setO (congrArg (fun (xq : List Value) => (([(eb,.cells ((enc x).toArray) 62 (0,0)),(mc,.map y.1 y.2)] ++ (Own.o 62 xq ow ++ [])) : LO)) (show _ = ((pre L (i + 1)).flatMap enc) from by rw [hps])) ?_
      refine Cfg.setS 46 (congrArg (fun (xq : Value) => (xq : Value)) (show .slice (some ⟨b2,0,none⟩) L.length (Own.c ow) = .slice (Own.a ow) L.length (Own.c ow) from by rw [hba])) ?_
      refine Cfg.setS 3 (congrArg (fun (xq : Value) => (xq : Value)) (show .slice (some ⟨b2,0,none⟩) L.length (Own.c ow) = .slice (Own.a ow) L.length (Own.c ow) from by rw [hba])) ?_
      refine Cfg.again rfl (i + 1,W,y) ⟨by omega,by rw [hps]; exact hok2,hm,by rw [hcn]; exact hW.skip (size_no c4)⟩ (by show L.length - (i + 1) < L.length - i; omega) (Conv.mk kr) (.cons _ slr)
     ·have c4 : ((x.t.toList == (⟨#[]⟩ : ByteArray).toList) = false) := c4r
      by_cases hlf : (lst (chn (L.take i)) (fb x.t)).isSome = true
      ·
       have hx0 : 0 < x.t.size := size_of (by simpa using c4)
       obtain ⟨j,hj⟩ := Option.isSome_iff_exists.1 hlf
       have hjl := lst_lt hj
       rw [hch] at hjl
       obtain ⟨ye,hye⟩ : ∃ y,y = (chn (L.take i)).getD j ez := ⟨_,rfl⟩
       have hyep : ye = (pre L i).getD j ez := by rw [pre_lt om hjl]; exact hye
       have hyel : EnL ye := by rw [hyep]; exact hpre _ (K.getD_mem om)
       have hyes : ye.t.size ≤ 1000000 := by
        have h1 : ye ∈ (chn (L.take i)) := by rw [hye]; exact K.getD_mem om
        have h2 : ye.t ∈ txs (chn (L.take i)) := List.mem_map.2 ⟨ye,h1,rfl⟩
        rw [(chn_ids _).2] at h2
        obtain ⟨z,hz,hzt⟩ := List.mem_map.1 h2
        rw [← hzt]; exact hLs z (List.mem_of_mem_take hz)
       refine Cfg.begL rfl ?_
       refine Lp 4 [dZ,dZ,(dS (.string x.t))] (some [3,10,11,12,46,47,48,57,60]) (fun S => [(cE S eb 32 (.string x.t)),(0 ≤ (0 : Int) ∧ (0 : Int) < (x.t.size : Int))]) ⟨(fun w1 h => h.ocell 0 rfl (by rw [List.getElem?_toArray]; exact (enc_t hxl))),om,trivial⟩ ?_
       refine Le (Eff.last (r := mc) (k := fb x.t) (acc := (chn (L.take i))) (es := y.1) (ck := y.2) rfl Tryz.underlying97 Tryz.underlying5 kr kr kr hm hW (fun w1 h => (h.own (mc,_) (show _ ∈ (([(eb,Obj.cells ((enc x).toArray) 62 (0,0)),(mc,Obj.map y.1 y.2)] ++ (Own.o 62 ((pre L i).flatMap enc) ow ++ [])) : LO) from (mL (List.mem_cons_of_mem _ mH))))) (j := j) (b := true) (.inl ⟨hj,rfl⟩)) ?_
       rintro ⟨⟩ -
       refine Lp 5 [] (some [3,10,11,12,13,14,46,47,48]) n0 trivial ?_
       refine CfgL.done rfl ?_
       refine Rg [3,10,11,12,13,46,47,48,72] [dZ,dZ,(1,false,none),(1,false,none),(1,false,none),(1,false,none),(1,false,some (.int .i64 (ye.p : Int))),(1,false,none)] (fun S => [((.bool true : Value) = .bool true),((.bool true : Value) = .bool true),((.bool true : Value) = .bool true),(0 ≤ (j : Int) ∧ (j : Int) < (L.length : Int)),((.bool true : Value) = .bool true),((.bool true : Value) = .bool true),(cE S b2 ((j * 67) + 66) (.int .i64 (ye.p : Int))),((.bool true : Value) = .bool true)]) ⟨rfl,rfl,rfl,om,rfl,rfl,(fun w1 h => by exact (cell_cells (h.own _ (show _ ∈ (([(eb,Obj.cells ((enc x).toArray) 62 (0,0)),(mc,Obj.map y.1 y.2)] ++ (Own.o 62 ((pre L i).flatMap enc) ow ++ [])) : LO) from (mR (mL hbm))))).trans (en_cell hpre hbc (i := j) om (by rw [← hyep]; exact (enc_p hyel)))),rfl,trivial⟩ ?_
       refine Cfg.cond rfl (b := (decide ((ye.p : Int) < (4 : Int)))) kr (fun c5r => ?_) (fun c5r => ?_)
       ·have c5 := (dT c5r)
        refine Cfg.begA rfl kr ([(eb,.cells ((enc x).toArray) 62 (0,0)),(mc,.map y.1 y.2)] ++ (Own.o 62 ((pre L i).flatMap enc) ow ++ [])) ?_
        refine Ap [0,1,2,3,4,5,6] [dZ,dZ,dZ,dZ,(dS (.string ye.t)),dZ,(dS (.string x.t))] (some [3,10,11,12,13,46,47,48,77,79]) (tF 7 2) slr 2 (fun S => [(0 ≤ (j : Int) ∧ (j : Int) < (L.length : Int)),(cE S b2 ((j * 67) + 32) (.string ye.t)),(cE S eb 32 (.string x.t))]) ⟨om,(fun w1 h => by exact (cell_cells (h.own _ (show _ ∈ (([(eb,Obj.cells ((enc x).toArray) 62 (0,0)),(mc,Obj.map y.1 y.2)] ++ (Own.o 62 ((pre L i).flatMap enc) ow ++ [])) : LO) from (mR (mL hbm))))).trans (en_cell hpre hbc (i := j) om (by rw [← hyep]; exact (enc_t hyel)))),(fun w1 h => h.ocell 0 rfl (by rw [List.getElem?_toArray]; exact (enc_t hxl))),trivial⟩ ?_
        refine Ae 7 rfl 1  (Eff.callA (vs := [.string ye.t,.string x.t]) (.string (tx (mk ye.t x.t))) rfl Tryz.func49 rfl rfl kr (fun w1 _ => dMake ye.t x.t w1 om om)) (fun _ _ => slr) ?_
        rintro ⟨⟩ -
        refine Ap [8] [] (some [3,10,11,12,13,15,46,47,48]) (tF 9 0) slr 0 n0 trivial ?_
        refine CfgA.done kr ?_
        refine Rg [3,10,11,12,13,15,46,47,48,87] [dZ,dZ,dZ,dZ,(dS (.string x.t))] (fun S => [(i6 (((tx (mk ye.t x.t)).size : Int) + 32)),(cE S eb 32 (.string x.t))]) ⟨(by have := mk_len ye.t x.t; have := md_size ye.t x.t; rw [tx_size]; omega),(fun w1 h => h.ocell 0 rfl (by rw [List.getElem?_toArray]; exact (enc_t hxl))),trivial⟩ ?_
        refine Cfg.cond rfl (b := (decide ((((tx (mk ye.t x.t)).size : Int) + 32) ≤ (x.t.size : Int)))) kr (fun c6r => ?_) (fun c6r => ?_)
        ·have c6 := (dT c6r)
         rw [tx_size] at c6
         refine Cfg.begA rfl kr ([(mc,.map y.1 y.2)] ++ (Own.o 62 ((pre L i).flatMap enc) ow ++ [])) ?_
         refine Ap (List.range 13) [dZ,dZ,dZ,dZ,(dS (.agg (bv ye.id))),dZ,dZ,dZ,dZ,dZ,(dS (.int .i64 (ye.p : Int)))] (some [3,10,11,12,46,47,48,92,93,99,100]) (tF 13 5) (.cons _ slr) 5 (fun S => [(0 ≤ (j : Int) ∧ (j : Int) < (L.length : Int)),(∀ w1,S w1 → (loadVar 36 ⟨b2,(j * 67),none⟩).run Tryz.prog w1 = .ok (.agg (bv ye.id)) w1),(0 ≤ (j : Int) ∧ (j : Int) < (L.length : Int)),(cE S b2 ((j * 67) + 66) (.int .i64 (ye.p : Int))),(i6 ((ye.p : Int) + 1))]) ⟨om,(fun w1 h => load_list (vs := dgc ye.id) Tryz.underlying36 rfl kr (dgc_len hyel.id) (fun q9 v hq9 => by exact (cell_cells (h.own _ (show _ ∈ (([(mc,Obj.map y.1 y.2)] ++ (Own.o 62 ((pre L i).flatMap enc) ow ++ [])) : LO) from (mR (mL hbm))))).trans (en_cell hpre hbc (i := j) om (by rw [← hyep]; exact app_l hq9)))),om,(fun w1 h => by exact (cell_cells (h.own _ (show _ ∈ (([(mc,Obj.map y.1 y.2)] ++ (Own.o 62 ((pre L i).flatMap enc) ow ++ [])) : LO) from (mR (mL hbm))))).trans (en_cell hpre hbc (i := j) om (by rw [← hyep]; exact (enc_p hyel)))),om,trivial⟩ ?_
         refine Ae 13 rfl 4  (Eff.storeN (b := eb) (off := 33) (vs := (bv ye.id)) (n := 32) rfl kr kr kr ((bv_size _).trans hyel.id) (all_bv _) 0 (cs := (enc x).toArray) (e := 62) kr (by rw [List.size_toArray,enc_len hxl]; decide)) (fun _ _ => (.cons _ slr)) ?_
         rintro ⟨⟩ -
         refine CfgA.setO (congrArg (fun (xq : Array Value) => (([(eb,.cells xq 62 (0,0)),(mc,.map y.1 y.2)] ++ (Own.o 62 ((pre L i).flatMap enc) ow ++ [])) : LO)) (show _ = (spl (enc x).toArray 33 (bv ye.id).toList) from rfl)) ?_
         refine CfgA.pure [14] [] (some [3,10,11,12,46,47,48,93,99,101]) (l' := tF 15 3) kr kr (.cons _ slr) 3 rfl (Γ' := [(101,[],.pointer (some ⟨eb,65,none⟩)),(99,[],.int .i64 ((ye.p : Int) + 1)),(93,[],.string (tx (mk ye.t x.t))),(11,[],.int .i64 (i : Int)),(12,[],pT eb),(48,[],.int .i64 (i : Int)),(47,[],.int .i64 (L.length : Int)),(46,[],.slice (some ⟨b2,0,none⟩) L.length (Own.c ow)),(10,[],.map (some mc)),(3,[],.slice (some ⟨b2,0,none⟩) L.length (Own.c ow))]) (nd := (fun _ => [])) (fun _ => kr) trivial ?_
         refine Ae 15 rfl 2  (Eff.store1 (b := eb) (off := 65) (v := .string (tx (mk ye.t x.t))) rfl kr kr rfl kr 0 (cs := (spl (enc x).toArray 33 (bv ye.id).toList)) (e := 62) kr (by (repeat rw [Array.size_setIfInBounds]); rw [size_spl,List.size_toArray,enc_len hxl]; decide)) (fun _ _ => (.cons _ slr)) ?_
         rintro ⟨⟩ -
         refine Ap [16] [] (some [3,10,11,12,46,47,48,99,102]) (tF 17 1) (.cons _ slr) 1 n0 trivial ?_
         refine Ae 17 rfl 0  (Eff.store1 (b := eb) (off := 66) (v := .int .i64 ((ye.p : Int) + 1)) rfl kr kr rfl kr 0 (cs := ((spl (enc x).toArray 33 (bv ye.id).toList).setIfInBounds 65 (.string (tx (mk ye.t x.t))))) (e := 62) kr (by (repeat rw [Array.size_setIfInBounds]); rw [size_spl,List.size_toArray,enc_len hxl]; decide)) (fun _ _ => (.cons _ slr)) ?_
         rintro ⟨⟩ -
         refine CfgA.done kr ?_
         refine Cg (Γ' := [(11,[],.int .i64 (i : Int)),(12,[],pT eb),(48,[],.int .i64 (i : Int)),(47,[],.int .i64 (L.length : Int)),(46,[],.slice (some ⟨b2,0,none⟩) L.length (Own.c ow)),(10,[],.map (some mc)),(3,[],.slice (some ⟨b2,0,none⟩) L.length (Own.c ow))]) ?_
         obtain ⟨z,hz⟩ : ∃ z,z = (⟨x.id,x.t,ye.id,tx (mk ye.t x.t),ye.p + 1⟩ : En) := ⟨_,rfl⟩
         have hzl : EnL z := by rw [hz]; exact ⟨hxl.id,hyel.id⟩
         have hzs : z.t.size = x.t.size := by rw [hz]
         have hmk : mkE (chn (L.take i)) x = z := by rw [hz,mkE_some om hj (by rw [← hye]; omega) (by rw [← hye]; omega),← hye]
         refine Cfg.setO (congrArg (fun (xq : Array Value) => (([(eb,.cells xq 62 (0,0)),(mc,.map y.1 y.2)] ++ (Own.o 62 ((pre L i).flatMap enc) ow ++ [])) : LO)) (show _ = ((enc z).toArray) from by rw [hz]; exact enc_upd hxl hyel.id _ ye.p)) ?_
         refine Cfg.begL rfl ?_
         refine Lp 4 [dZ,dZ,(dS (.agg (enc z).toArray))] (some [3,10,11,12,46,47,48,105,106]) (fun S => [(∀ w1,S w1 → (loadVar 62 ⟨eb,0,none⟩).run Tryz.prog w1 = .ok (.agg (enc z).toArray) w1),(0 ≤ (i : Int) ∧ (i : Int) < (L.length : Int))]) ⟨(fun w1 h => load_list (vs := enc z) Tryz.underlying62 rfl kr (enc_len hzl) (fun q9 v hq9 => h.ocell 0 rfl (by rw [List.getElem?_toArray,Nat.zero_add]; exact hq9))),om,trivial⟩ ?_
         refine Le (Eff.storeOwn (b := b2) (off := i * 67) (vs := (enc z).toArray) (n := 67) rfl (ow := ow) (e := 62) (xs := ((pre L i).flatMap enc)) hba kr kr kr (by rw [List.size_toArray,enc_len hzl]) (fun q hq => all_enc _ q hq) [(eb,.cells ((enc z).toArray) 62 (0,0)),(mc,.map y.1 y.2)] [] rfl (by rw [enl_len hpre,hpl]; omega)) ?_
         rintro ⟨⟩ -
         refine CfgL.done rfl ?_
         refine Cg (Γ' := [(11,[],.int .i64 (i : Int)),(12,[],pT eb),(48,[],.int .i64 (i : Int)),(47,[],.int .i64 (L.length : Int)),(46,[],.slice (some ⟨b2,0,none⟩) L.length (Own.c ow)),(10,[],.map (some mc)),(3,[],.slice (some ⟨b2,0,none⟩) L.length (Own.c ow))]) ?_
         refine Cfg.begL rfl ?_
         refine Lp 5 [dZ,dZ,(dS (.string z.t))] (some [3,10,46,47,48,107,110,111]) (fun S => [(cE S eb 32 (.string z.t)),(0 ≤ (0 : Int) ∧ (0 : Int) < (z.t.size : Int))]) ⟨(fun w1 h => h.ocell 0 rfl (by rw [List.getElem?_toArray]; exact (enc_t hzl))),om,trivial⟩ ?_
         refine Le (Eff.bSet (r := mc) (k := ((fb z.t : Nat) : Int)) (u := .int .i64 (i : Int)) (es := y.1) (ck := y.2) rfl Tryz.underlying97 Tryz.underlying5 kr kr kr hm 1 kr) ?_
         rintro xm hxmm
         refine CfgL.done rfl ?_
         refine Cg (Γ' := [(48,[],.int .i64 (i : Int)),(47,[],.int .i64 (L.length : Int)),(46,[],.slice (some ⟨b2,0,none⟩) L.length (Own.c ow)),(10,[],.map (some mc)),(3,[],.slice (some ⟨b2,0,none⟩) L.length (Own.c ow))]) ?_
         refine Rg [3,10,46,47,48] [] (fun _ => [(i6 ((i : Int) + 1))]) ⟨om,trivial⟩ ?_
         have hcn : chn (L.take (i + 1)) = (chn (L.take i)) ++ [z] := by rw [chn_take om,← hx,hmk]
         have hps := pre_set hLl (i := i) om (by rw [← hx]; exact hmk) hzl
         refine Cfg.setO (congrArg (fun (xq : List Value) => (([(eb,.cells ((enc z).toArray) 62 (0,0)),(mc,.map xm.1 xm.2)] ++ (Own.o 62 xq ow ++ [])) : LO)) (show _ = ((pre L (i + 1)).flatMap enc) from hps)) ?_
         refine Cfg.setS 46 (congrArg (fun (xq : Value) => (xq : Value)) (show .slice (some ⟨b2,0,none⟩) L.length (Own.c ow) = .slice (Own.a ow) L.length (Own.c ow) from by rw [hba])) ?_
         refine Cfg.setS 3 (congrArg (fun (xq : Value) => (xq : Value)) (show .slice (some ⟨b2,0,none⟩) L.length (Own.c ow) = .slice (Own.a ow) L.length (Own.c ow) from by rw [hba])) ?_
         refine Cfg.again rfl (i + 1,mset W ((fb z.t : Nat) : Int) (.int .i64 (i : Int)),xm) ⟨by omega,by rw [← hps]; exact hok2.splL (by rw [enl_len hpre,hpl]; show i * 67 + (enc z).length ≤ _; rw [enc_len hzl]; omega),hxmm,by rw [hcn]; have h9 := hW.add (x := z) (by rw [hz]; exact hx0); rw [hch] at h9; exact h9⟩ (by show L.length - (i + 1) < L.length - i; omega) (Conv.mk kr) (.cons _ slr)
        ·have c6 := (dF c6r)
         rw [tx_size] at c6
         refine Cfg.begL rfl ?_
         refine Lp 5 [dZ,dZ,(dS (.string x.t))] (some [3,10,46,47,48,107,110,111]) (fun S => [(cE S eb 32 (.string x.t)),(0 ≤ (0 : Int) ∧ (0 : Int) < (x.t.size : Int))]) ⟨(fun w1 h => h.ocell 0 rfl (by rw [List.getElem?_toArray]; exact (enc_t hxl))),om,trivial⟩ ?_
         refine Le (Eff.bSet (r := mc) (k := ((fb x.t : Nat) : Int)) (u := .int .i64 (i : Int)) (es := y.1) (ck := y.2) rfl Tryz.underlying97 Tryz.underlying5 kr kr kr hm 1 kr) ?_
         rintro xm hxmm
         refine CfgL.done rfl ?_
         refine Cg (Γ' := [(48,[],.int .i64 (i : Int)),(47,[],.int .i64 (L.length : Int)),(46,[],.slice (some ⟨b2,0,none⟩) L.length (Own.c ow)),(10,[],.map (some mc)),(3,[],.slice (some ⟨b2,0,none⟩) L.length (Own.c ow))]) ?_
         refine Rg [3,10,46,47,48] [] (fun _ => [(i6 ((i : Int) + 1))]) ⟨om,trivial⟩ ?_
         have hmk : mkE (chn (L.take i)) x = x := mkE_far om hj (by rw [← hye]; omega)
         have hps : (pre L (i + 1)) = (pre L i) := pre_same om (by rw [← hx]; exact hmk)
         have hcn : chn (L.take (i + 1)) = (chn (L.take i)) ++ [x] := by rw [chn_take om,← hx,hmk]
         refine Cfg.setO (congrArg (fun (xq : List Value) => (([(eb,.cells ((enc x).toArray) 62 (0,0)),(mc,.map xm.1 xm.2)] ++ (Own.o 62 xq ow ++ [])) : LO)) (show _ = ((pre L (i + 1)).flatMap enc) from by rw [hps])) ?_
         refine Cfg.setS 46 (congrArg (fun (xq : Value) => (xq : Value)) (show .slice (some ⟨b2,0,none⟩) L.length (Own.c ow) = .slice (Own.a ow) L.length (Own.c ow) from by rw [hba])) ?_
         refine Cfg.setS 3 (congrArg (fun (xq : Value) => (xq : Value)) (show .slice (some ⟨b2,0,none⟩) L.length (Own.c ow) = .slice (Own.a ow) L.length (Own.c ow) from by rw [hba])) ?_
         refine Cfg.again rfl (i + 1,mset W ((fb x.t : Nat) : Int) (.int .i64 (i : Int)),xm) ⟨by omega,by rw [hps]; exact hok2,hxmm,by rw [hcn]; have h9 := hW.add hx0; rw [hch] at h9; exact h9⟩ (by show L.length - (i + 1) < L.length - i; omega) (Conv.mk kr) (.cons _ slr)
       ·have c5 := (dF c5r)
        refine Cfg.begL rfl ?_
        refine Lp 5 [dZ,dZ,(dS (.string x.t))] (some [3,10,46,47,48,107,110,111]) (fun S => [(cE S eb 32 (.string x.t)),(0 ≤ (0 : Int) ∧ (0 : Int) < (x.t.size : Int))]) ⟨(fun w1 h => h.ocell 0 rfl (by rw [List.getElem?_toArray]; exact (enc_t hxl))),om,trivial⟩ ?_
        refine Le (Eff.bSet (r := mc) (k := ((fb x.t : Nat) : Int)) (u := .int .i64 (i : Int)) (es := y.1) (ck := y.2) rfl Tryz.underlying97 Tryz.underlying5 kr kr kr hm 1 kr) ?_
        rintro xm hxmm
        refine CfgL.done rfl ?_
        refine Cg (Γ' := [(48,[],.int .i64 (i : Int)),(47,[],.int .i64 (L.length : Int)),(46,[],.slice (some ⟨b2,0,none⟩) L.length (Own.c ow)),(10,[],.map (some mc)),(3,[],.slice (some ⟨b2,0,none⟩) L.length (Own.c ow))]) ?_
        refine Rg [3,10,46,47,48] [] (fun _ => [(i6 ((i : Int) + 1))]) ⟨om,trivial⟩ ?_
        have hmk : mkE (chn (L.take i)) x = x := mkE_far om hj (by rw [← hye]; omega)
        have hps : (pre L (i + 1)) = (pre L i) := pre_same om (by rw [← hx]; exact hmk)
        have hcn : chn (L.take (i + 1)) = (chn (L.take i)) ++ [x] := by rw [chn_take om,← hx,hmk]
        refine Cfg.setO (congrArg (fun (xq : List Value) => (([(eb,.cells ((enc x).toArray) 62 (0,0)),(mc,.map xm.1 xm.2)] ++ (Own.o 62 xq ow ++ [])) : LO)) (show _ = ((pre L (i + 1)).flatMap enc) from by rw [hps])) ?_
        refine Cfg.setS 46 (congrArg (fun (xq : Value) => (xq : Value)) (show .slice (some ⟨b2,0,none⟩) L.length (Own.c ow) = .slice (Own.a ow) L.length (Own.c ow) from by rw [hba])) ?_
        refine Cfg.setS 3 (congrArg (fun (xq : Value) => (xq : Value)) (show .slice (some ⟨b2,0,none⟩) L.length (Own.c ow) = .slice (Own.a ow) L.length (Own.c ow) from by rw [hba])) ?_
        refine Cfg.again rfl (i + 1,mset W ((fb x.t : Nat) : Int) (.int .i64 (i : Int)),xm) ⟨by omega,by rw [hps]; exact hok2,hxmm,by rw [hcn]; have h9 := hW.add hx0; rw [hch] at h9; exact h9⟩ (by show L.length - (i + 1) < L.length - i; omega) (Conv.mk kr) (.cons _ slr)
      ·
       have hx0 : 0 < x.t.size := size_of (by simpa using c4)
       have hjn : lst (chn (L.take i)) (fb x.t) = none := by simpa using hlf
       refine Cfg.begL rfl ?_
       refine Lp 4 [dZ,dZ,(dS (.string x.t))] (some [3,10,11,12,46,47,48,57,60]) (fun S => [(cE S eb 32 (.string x.t)),(0 ≤ (0 : Int) ∧ (0 : Int) < (x.t.size : Int))]) ⟨(fun w1 h => h.ocell 0 rfl (by rw [List.getElem?_toArray]; exact (enc_t hxl))),om,trivial⟩ ?_
       refine Le (Eff.last (r := mc) (k := fb x.t) (acc := (chn (L.take i))) (es := y.1) (ck := y.2) rfl Tryz.underlying97 Tryz.underlying5 kr kr kr hm hW (fun w1 h => (h.own (mc,_) (show _ ∈ (([(eb,Obj.cells ((enc x).toArray) 62 (0,0)),(mc,Obj.map y.1 y.2)] ++ (Own.o 62 ((pre L i).flatMap enc) ow ++ [])) : LO) from (mL (List.mem_cons_of_mem _ mH))))) (j := 0) (b := false) (.inr ⟨hjn,rfl,rfl⟩)) ?_
       rintro ⟨⟩ -
       refine Lp 5 [] (some [3,10,11,12,13,14,46,47,48]) n0 trivial ?_
       refine CfgL.done rfl ?_
       refine Rg [3,10,11,12,13,46,47,48,72] [dZ,dZ,(2,false,none),(2,false,none),(2,false,none),(2,false,none),(2,false,none),(2,false,none)] (fun _ => [((.bool false : Value) ≠ .bool true),((.bool false : Value) ≠ .bool true),((.bool false : Value) ≠ .bool true),((.bool false : Value) ≠ .bool true),((.bool false : Value) ≠ .bool true),((.bool false : Value) ≠ .bool true)]) ⟨(by simp),(by simp),(by simp),(by simp),(by simp),(by simp),trivial⟩ ?_
       refine Cfg.condF rfl (b := false) kr rfl ?_
       refine Cfg.begL rfl ?_
       refine Lp 5 [dZ,dZ,(dS (.string x.t))] (some [3,10,46,47,48,107,110,111]) (fun S => [(cE S eb 32 (.string x.t)),(0 ≤ (0 : Int) ∧ (0 : Int) < (x.t.size : Int))]) ⟨(fun w1 h => h.ocell 0 rfl (by rw [List.getElem?_toArray]; exact (enc_t hxl))),om,trivial⟩ ?_
       refine Le (Eff.bSet (r := mc) (k := ((fb x.t : Nat) : Int)) (u := .int .i64 (i : Int)) (es := y.1) (ck := y.2) rfl Tryz.underlying97 Tryz.underlying5 kr kr kr hm 1 kr) ?_
       rintro xm hxmm
       refine CfgL.done rfl ?_
       refine Cg (Γ' := [(48,[],.int .i64 (i : Int)),(47,[],.int .i64 (L.length : Int)),(46,[],.slice (some ⟨b2,0,none⟩) L.length (Own.c ow)),(10,[],.map (some mc)),(3,[],.slice (some ⟨b2,0,none⟩) L.length (Own.c ow))]) ?_
       refine Rg [3,10,46,47,48] [] (fun _ => [(i6 ((i : Int) + 1))]) ⟨om,trivial⟩ ?_
       have hmk : mkE (chn (L.take i)) x = x := mkE_none om hjn
       have hps : (pre L (i + 1)) = (pre L i) := pre_same om (by rw [← hx]; exact hmk)
       have hcn : chn (L.take (i + 1)) = (chn (L.take i)) ++ [x] := by rw [chn_take om,← hx,hmk]
       refine Cfg.setO (congrArg (fun (xq : List Value) => (([(eb,.cells ((enc x).toArray) 62 (0,0)),(mc,.map xm.1 xm.2)] ++ (Own.o 62 xq ow ++ [])) : LO)) (show _ = ((pre L (i + 1)).flatMap enc) from by rw [hps])) ?_
       refine Cfg.setS 46 (congrArg (fun (xq : Value) => (xq : Value)) (show .slice (some ⟨b2,0,none⟩) L.length (Own.c ow) = .slice (Own.a ow) L.length (Own.c ow) from by rw [hba])) ?_
       refine Cfg.setS 3 (congrArg (fun (xq : Value) => (xq : Value)) (show .slice (some ⟨b2,0,none⟩) L.length (Own.c ow) = .slice (Own.a ow) L.length (Own.c ow) from by rw [hba])) ?_
       refine Cfg.again rfl (i + 1,mset W ((fb x.t : Nat) : Int) (.int .i64 (i : Int)),xm) ⟨by omega,by rw [hps]; exact hok2,hxmm,by rw [hcn]; have h9 := hW.add hx0; rw [hch] at h9; exact h9⟩ (by show L.length - (i + 1) < L.length - i; omega) (Conv.mk kr) (.cons _ slr)
    ·have c3 := (dF c3r)
     refine Rg [2] [] n0 trivial ?_
     refine Cfg.ret rfl (rs := [.tmp 2]) rfl [.slice (Own.a ow) L.length (Own.c ow)] ⟨kr,trivial⟩ (fun w1 hp => ?_)
     have hie : i = L.length := by omega
     have hpe : (pre L i) = planF ls := by rw [hie,pre_end,hLd]; rfl
     have hpl : L.length = (planF ls).length := by unfold planF; rw [chn_len,hLd]
     have h9 : HP w [] ((0,Obj.cells kt tt0 fr0) :: Rl) ([(mc,Obj.map y.1 y.2)] ++ (Own.o 62 ((pre L i).flatMap enc) ow ++ [])) w1 := hp
     rw [hpe] at hok2 h9
     rw [hpl] at hok2
     rw [List.append_nil] at h9
     exact ⟨ow,hok2,by rw [← hpl]; rfl,_,h9.sub (List.sublist_append_right _ _)⟩
end Go.Proofs.YtbeegepcdglcaaaGreatDoor
namespace Go.Proofs.YtbeegepcdglcaaaGreatDoor
open K
set_option linter.unusedVariables false
theorem inS_dig (bk : Nat) (t : TypeId) (fr : Nat × Nat) (d : List UInt8) (h : d.length = 32) : InS [(bk,.cells (bv d) t fr)] (some ⟨bk,0,none⟩) ([d].length * 32) (fun j => .int .u8 ((([d].getD (j / 32) []).getD (j % 32) 0).toNat : Int)) := by
 intro _
 refine ⟨bk,0,_,t,fr,rfl,List.mem_singleton.2 rfl,fun j hj => ?_⟩
 simp only [List.length_cons,List.length_nil] at hj
 rw [Nat.zero_add,bv_get h om]
 simp only [show j / 32 = 0 by omega,show j % 32 = j by omega]
 rfl
theorem wDigest1 (l d : List UInt8) (bk : Nat) (t : TypeId) (w : World) (h : d.length = 32) (hr : l.length + 32 ≤ 140737488355328) (hh : Has w [(bk,.cells (bv d) t (0,0))]) :
  Calls Tryz.prog 40 #[.agg #[.string (tx l)],.slice (some ⟨bk,0,none⟩) 1 1] w fun e w' => e = .returned (.agg #[.string (tx (l ++ d))]) ∧ Ext [] w w' := by
 have := wDigest (tx l) (some ⟨bk,0,none⟩) 1 [d] [(bk,.cells (bv d) t (0,0))] w (inS_dig bk t (0,0) d h) hh (by simp [maxLen]) (by rw [flat_one,tx_size]; show _ + d.length ≤ _; omega) (fun i hi => by
  obtain rfl : i = 0 := by simpa using hi
  exact h)
 rw [flat_one] at this
 exact this
def prts (es : List En) : List ByteArray := es.map fun e => tx (partE e)
theorem prts_len (es : List En) : (prts es).length = es.length := List.length_map ..
theorem prts_take {es : List En} {i : Nat} (h : i < es.length) : prts (es.take (i + 1)) = prts (es.take i) ++ [tx (partE (es.getD i ez))] := by
 unfold prts
 rw [List.take_succ_eq_append_getElem h,List.map_append,getD_of _ h]; rfl
theorem cat_prts (es : List En) : cat (prts es) = flat partE es := by
 unfold cat prts flat
 rw [List.flatMap_map]
 congr 1
theorem part_d {e : En} (h : 0 < e.p) : (([] ++ e.id ++ be 1 1) ++ e.b) ++ text4 e.d = partE e := by unfold partE; rw [if_pos h]; simp only [List.nil_append,List.append_assoc]
theorem part_w {e : En} (h : ¬ 0 < e.p) : ([] ++ e.id ++ be 0 1) ++ text4 e.t = partE e := by unfold partE; rw [if_neg h]; simp only [List.nil_append,List.append_assoc]
theorem body_eq (es : List En) : (([] ++ cat [⟨#[80,65,67,75]⟩]) ++ four es.length) ++ cat (prts es) = bodyF es := by
 unfold bodyF
 rw [cat_prts,List.append_assoc]; rfl
theorem has_cons {w : World} {b : Nat} {o : Obj} {Rl : List (Nat × Obj)} (h : w.heap[b]? = some o) (hR : ∀ e ∈ Rl,w.heap[e.1]? = some e.2) : Has w ((b,o) :: Rl) := fun e he => by
 rcases List.mem_cons.1 he with rfl | he
 ·exact h
 ·exact hR e he
set_option maxRecDepth 100000 in
set_option maxHeartbeats 8000000 in
theorem pkLay (la : Option Addr) (ca : Nat) (es : List En) (Rl : List (Nat × Obj)) {kt : Array Value} {tt0 : TypeId} {fr0 : Nat × Nat} (w : World) (hK : KT kt) (hI : InF enc 67 Rl la es) (hw : ∀ e ∈ es,EnOk e) (hR : Has w ((0,Obj.cells kt tt0 fr0) :: Rl)) (hn : es.length ≤ 1000000) :
  Calls Tryz.prog 17 #[.slice la es.length ca] w fun e w' => e = .returned (.string (tx (fileF es))) ∧ Ext [] w w' := by
 have hmod : (es.length : Int) % 4294967296 = es.length := by omega
 have hbl := body_len hw
 have hel : ∀ e ∈ es,EnL e := fun e he => (hw e he).l
 refine enter (vs := [.slice la es.length ca]) [] ((0,Obj.cells kt tt0 fr0) :: Rl) [] Tryz.func17 rfl kr (HP.ofHas hR) ?_
 refine Rg [0] [] n0 trivial ?_
 refine Rg [0,3] [] n0 trivial ?_
 refine Rg [0,3,8,9,10] [] n0 trivial ?_
 refine Cfg.loop rfl (ι := Nat × K.Own) (fun (xz : Nat × K.Own) => match xz with | (i,ow) => [(10,[],.int .i64 (i : Int)),(9,[],.int .i64 (es.length : Int)),(8,[],.slice la es.length ca),(3,[],.slice (Own.a ow) i (Own.c ow)),(0,[],.slice la es.length ca)]) (fun (xz : Nat × K.Own) => match xz with | (i,ow) => ([] ++ (Own.o 9 ((prts (es.take i)).map Value.string) ow ++ []))) (fun (xz : Nat × K.Own) => match xz with | (i,ow) => (i ≤ es.length) ∧ (OwnOk ow 1 i ((prts (es.take i)).map Value.string))) (fun (xz : Nat × K.Own) => match xz with | (i,ow) => es.length - i) (0,none) ?_ (Conv.mk kr) slr ?_
 ·exact ⟨Nat.zero_le _,OwnOk.none 1⟩
 ·rintro ⟨i,ow⟩ ⟨hi,hok⟩
  refine Rg [0,3,8,9,10,11] [] n0 trivial ?_
  refine Cfg.cond rfl (b := (decide ((i : Int) < (es.length : Int)))) kr (fun c1r => ?_) (fun c1r => ?_)
  ·have c1 := (dT c1r)
   obtain ⟨sa,offa,csa,tea,frea,rfl,hma,hca⟩ := hI om
   refine Cg (Γ' := [(11,[],.bool (decide ((i : Int) < (es.length : Int)))),(10,[],.int .i64 (i : Int)),(9,[],.int .i64 (es.length : Int)),(8,[],.slice (some ⟨sa,offa,none⟩) es.length ca),(3,[],.slice (Own.a ow) i (Own.c ow)),(0,[],.slice (some ⟨sa,offa,none⟩) es.length ca)]) ?_
   obtain ⟨x,hx⟩ : ∃ x,x = es.getD i ez := ⟨_,rfl⟩
   have hxk : EnOk x := by rw [hx]; exact hw _ (K.getD_mem om)
   have hxl := hxk.l
   have hxb := partE_len hxk
   have hxi := hxk.id
   have hxbb := hxk.b
   have hxt := hxk.t
   have hxd := hxk.d
   refine Cfg.begL rfl ?_
   refine Lp 2 [dZ,(dS (.agg (enc x).toArray))] (some [0,3,8,9,10,13]) (fun S => [(0 ≤ (i : Int) ∧ (i : Int) < (es.length : Int)),(∀ w1,S w1 → (loadVar 62 ⟨sa,(addO offa (i * 67)),none⟩).run Tryz.prog w1 = .ok (.agg (enc x).toArray) w1)]) ⟨om,(fun w1 h => load_list (vs := enc x) Tryz.underlying62 rfl kr (enc_len hxl) (fun q9 v hq9 => by rw [addO_eq]; exact (cell_cells (h.ro _ (List.mem_cons_of_mem _ hma))).trans (en_cell2 hel hca (i := i) om (by rw [← hx]; exact hq9)))),trivial⟩ ?_
   refine Le (Eff.alloc (z := (.agg (enc ez).toArray)) rfl kr) ?_
   rintro eb ⟨heb,neb⟩
   refine Le (Eff.storeN (b := eb) (off := 0) (vs := (enc x).toArray) (n := 67) rfl kr kr kr (by rw [List.size_toArray,enc_len hxl]) (fun q hq => all_enc _ q hq) 0 (cs := (enc ez).toArray) (e := 62) kr (by rw [zero_en]; decide)) ?_
   rintro ⟨⟩ -
   refine CfgL.setO (congrArg (fun (xq : Array Value) => (([(eb,.cells xq 62 (0,0))] ++ (Own.o 9 ((prts (es.take i)).map Value.string) ow ++ [])) : LO)) (show _ = ((enc x).toArray) from spl_all (by rw [List.size_toArray,zero_en,enc_len hxl]))) ?_
   refine CfgL.done rfl ?_
   refine Cg (Γ' := [(5,[],pT eb),(10,[],.int .i64 (i : Int)),(9,[],.int .i64 (es.length : Int)),(8,[],.slice (some ⟨sa,offa,none⟩) es.length ca),(3,[],.slice (Own.a ow) i (Own.c ow)),(0,[],.slice (some ⟨sa,offa,none⟩) es.length ca)]) ?_
   refine Cfg.begL rfl ?_
   refine Lp 3 [(dS (.agg #[.string (tx [])])),dZ,(dS (.agg (bv x.id)))] (some [0,3,5,8,9,10,14,16]) (fun S => [(∀ w1,S w1 → (Instr.build 85 #[]).run Tryz.prog w1 = .ok (.agg #[.string (tx [])]) w1),(∀ w1,S w1 → (loadVar 36 ⟨eb,0,none⟩).run Tryz.prog w1 = .ok (.agg (bv x.id)) w1)]) ⟨(fun w1 _ => kr),(fun w1 h => load_list (vs := dgc x.id) Tryz.underlying36 rfl kr (dgc_len hxl.id) (fun q9 v hq9 => h.ocell 0 rfl (by rw [List.getElem?_toArray]; exact enc_id hq9))),trivial⟩ ?_
   refine Le (Eff.buildAgg (vs := (bv x.id)) (n := 32) rfl kr Tryz.underlying57 kr (z := (.agg (bv (List.replicate 32 0)))) kr ((bv_size _).trans hxl.id) (by decide) (by decide)) ?_
   rintro ib ⟨hib,nib⟩
   refine Le (Eff.callA (vs := [.agg #[.string (tx [])],.slice (some ⟨ib,0,none⟩) 1 1]) (.agg #[.string (tx ([] ++ x.id))]) rfl Tryz.func40 rfl rfl kr (fun w1 h => wDigest1 [] x.id ib 36 w1 hxi (by (repeat rw [List.length_append]); (repeat rw [be_len]); (try rw [List.length_nil]); omega) (h.has (fun e he => by rw [List.mem_singleton.1 he]; exact (show _ ∈ (([(ib,Obj.cells (bv x.id) 36 (0,0)),(eb,Obj.cells ((enc x).toArray) 62 (0,0))] ++ (Own.o 9 ((prts (es.take i)).map Value.string) ow ++ [])) : LO) from (mL mH)))))) ?_
   rintro ⟨⟩ -
   refine Le (Eff.alloc (z := (.agg #[.string ByteArray.empty])) rfl kr) ?_
   rintro ob ⟨hob,nob⟩
   refine Le (Eff.storeN (b := ob) (off := 0) (vs := #[.string (tx ([] ++ x.id))]) (n := 1) rfl kr kr kr rfl (fun q hq => by rw [List.mem_singleton.1 hq]; rfl) 0 (cs := #[.string ByteArray.empty]) (e := 85) kr (by simp)) ?_
   rintro ⟨⟩ -
   refine CfgL.setO (congrArg (fun (xq : Array Value) => (([(ob,.cells xq 85 (0,0)),(ib,.cells (bv x.id) 36 (0,0)),(eb,.cells ((enc x).toArray) 62 (0,0))] ++ (Own.o 9 ((prts (es.take i)).map Value.string) ow ++ [])) : LO)) (show _ = #[.string (tx ([] ++ x.id))] from rfl)) ?_
   refine CfgL.done rfl ?_
   refine Cg (Γ' := [(6,[],pT ob),(5,[],pT eb),(10,[],.int .i64 (i : Int)),(9,[],.int .i64 (es.length : Int)),(8,[],.slice (some ⟨sa,offa,none⟩) es.length ca),(3,[],.slice (Own.a ow) i (Own.c ow)),(0,[],.slice (some ⟨sa,offa,none⟩) es.length ca)]) ?_
   refine Rg [0,3,5,6,8,9,10,21] [dZ,(dS (.int .i64 (x.p : Int)))] (fun S => [(cE S eb 66 (.int .i64 (x.p : Int)))]) ⟨(fun w1 h => h.ocell 2 rfl (by rw [List.getElem?_toArray]; exact (enc_p hxl))),trivial⟩ ?_
   refine Cfg.cond rfl (b := (decide ((x.p : Int) > (0 : Int)))) kr (fun c2r => ?_) (fun c2r => ?_)
   ·have c2 := (dT c2r)
    refine Cfg.begA rfl kr ([(ib,.cells (bv x.id) 36 (0,0)),(eb,.cells ((enc x).toArray) 62 (0,0))] ++ (Own.o 9 ((prts (es.take i)).map Value.string) ow ++ [])) ?_
    refine Ap [2,3,6,7] [dZ,(dS (.agg (bv x.b))),dZ,(dS (.string x.d))] (some [0,3,6,8,9,10,25,29]) (bF 204 11) (.cons _ slr) 7 (fun S => [(∀ w1,S w1 → (loadVar 36 ⟨eb,33,none⟩).run Tryz.prog w1 = .ok (.agg (bv x.b)) w1),(cE S eb 65 (.string x.d))]) ⟨(fun w1 h => load_list (vs := dgc x.b) Tryz.underlying36 rfl kr (dgc_len hxl.b) (fun q9 v hq9 => h.ocell 1 rfl (by rw [List.getElem?_toArray]; exact enc_b hxl hq9))),(fun w1 h => h.ocell 1 rfl (by rw [List.getElem?_toArray]; exact (enc_d hxl))),trivial⟩ ?_
    refine CfgA.fam (ι := Option (Unit) × Option (Unit) × Option (Nat) × Option (Unit) × Option (Nat) × Option (Unit)) (fun (zq : Option (Unit) × Option (Unit) × Option (Nat) × Option (Unit) × Option (Nat) × Option (Unit)) => match zq with | (oo0,oo1,oo4,oo5,oo8,oo9) => (optL oo0 (fun (_ : Unit) => [(22,[],.agg #[.string (tx ([] ++ x.id))])]) ++ (optL oo1 (fun (_ : Unit) => [(23,[],.agg #[.string (tx (([] ++ x.id) ++ be 1 1))])]) ++ (optL oo4 (fun (bb : Nat) => [(26,[],.slice (some ⟨bb,0,none⟩) 1 1)]) ++ (optL oo5 (fun (_ : Unit) => [(27,[],.agg #[.string (tx (((([] ++ x.id) ++ be 1 1)) ++ x.b))])]) ++ (optL oo8 (fun (tb : Nat) => [(30,[],.slice (some ⟨tb,0,none⟩) 1 1)]) ++ (optL oo9 (fun (_ : Unit) => [(31,[],.agg #[.string (tx ((((([] ++ x.id) ++ be 1 1)) ++ x.b) ++ text4 x.d))])]) ++ [(29,[],.string x.d),(25,[],.agg (bv x.b)),(6,[],pT ob),(10,[],.int .i64 (i : Int)),(9,[],.int .i64 (es.length : Int)),(8,[],.slice (some ⟨sa,offa,none⟩) es.length ca),(3,[],.slice (Own.a ow) i (Own.c ow)),(0,[],.slice (some ⟨sa,offa,none⟩) es.length ca)]))))))) (fun (zq : Option (Unit) × Option (Unit) × Option (Nat) × Option (Unit) × Option (Nat) × Option (Unit)) => match zq with | (oo0,oo1,oo4,oo5,oo8,oo9) => (optL oo4 (fun (bb : Nat) => [(bb,.cells (bv x.b) 36 (0,0))]) ++ (optL oo8 (fun (tb : Nat) => [(tb,.cells #[.string x.d] 9 (0,0))]) ++ ([(ob,.cells #[.string (tx ([] ++ x.id))] 85 (0,0)),(ib,.cells (bv x.id) 36 (0,0)),(eb,.cells ((enc x).toArray) 62 (0,0))] ++ ([] ++ (Own.o 9 ((prts (es.take i)).map Value.string) ow ++ [])))))) (fun (zq : Option (Unit) × Option (Unit) × Option (Nat) × Option (Unit) × Option (Nat) × Option (Unit)) => match zq with | (oo0,oo1,oo4,oo5,oo8,oo9) => #[oo0.isSome,oo1.isSome,true,true,oo4.isSome,oo5.isSome,true,true,oo8.isSome,oo9.isSome,false]) (fun (zq : Option (Unit) × Option (Unit) × Option (Nat) × Option (Unit) × Option (Nat) × Option (Unit)) => match zq with | (oo0,oo1,oo4,oo5,oo8,oo9) => 7 - (optN oo0 + optN oo1 + optN oo4 + optN oo5 + optN oo8 + optN oo9)) (fun (zq : Option (Unit) × Option (Unit) × Option (Nat) × Option (Unit) × Option (Nat) × Option (Unit)) => match zq with | (oo0,oo1,oo4,oo5,oo8,oo9) => (oo1.isSome = true → oo0.isSome = true) ∧ (oo5.isSome = true → oo1.isSome = true) ∧ (oo5.isSome = true → oo4.isSome = true) ∧ (oo5.isSome = true → oo1.isSome = true) ∧ (oo9.isSome = true → oo5.isSome = true) ∧ (oo9.isSome = true → oo8.isSome = true) ∧ (oo9.isSome = true → oo5.isSome = true) ∧ True) (none,none,none,none,none,none) ⟨nofun,nofun,nofun,nofun,nofun,nofun,nofun,trivial⟩ kr kr (List.Perm.refl _) (Conv.mk kr) ?_
    rintro ⟨oo0,oo1,oo4,oo5,oo8,oo9⟩ hz IH
    obtain ⟨dd1_0,dd5_1,dd5_4,dd5_1,dd9_5,dd9_8,dd9_5,-⟩ := hz
    rcases oo0 with _ | ⟨⟩
    ·
     rcases oo1 with _ | ⟨⟩
     ·
      rcases oo4 with _ | bb
      ·
       rcases oo5 with _ | ⟨⟩
       ·
        rcases oo8 with _ | tb
        ·
         rcases oo9 with _ | ⟨⟩
         ·
          refine CfgA.to (l' := (bF 204 11)) (fuel' := 7) (O' := ([(ob,.cells #[.string (tx ([] ++ x.id))] 85 (0,0)),(ib,.cells (bv x.id) 36 (0,0)),(eb,.cells ((enc x).toArray) 62 (0,0))] ++ (Own.o 9 ((prts (es.take i)).map Value.string) ow ++ []))) (Γ' := [(29,[],.string x.d),(25,[],.agg (bv x.b)),(6,[],pT ob),(10,[],.int .i64 (i : Int)),(9,[],.int .i64 (es.length : Int)),(8,[],.slice (some ⟨sa,offa,none⟩) es.length ca),(3,[],.slice (Own.a ow) i (Own.c ow)),(0,[],.slice (some ⟨sa,offa,none⟩) es.length ca)]) ?_ kr kr (List.Perm.refl _) (Conv.mk kr)
          refine CfgA.many [0,4,8] kr (by decide) (fuel' := 6) kr ⟨?_,?_,?_,trivial⟩
          ·
           refine Ie rfl  (Eff.quiet (raw := false) (orc := some (.agg #[.string (tx ([] ++ x.id))])) (v := .agg #[.string (tx ([] ++ x.id))]) (nd := (fun S => [(∀ w1,S w1 → (loadVar 85 ⟨ob,0,none⟩).run Tryz.prog w1 = .ok (.agg #[.string (tx ([] ++ x.id))]) w1)])) (fun _ => kr) ⟨(fun w1 h => h.oload 0 rfl Tryz.underlying85 rfl (n := 1) kr rfl),trivial⟩ kr) (fun _ _ => (.cons _ slr)) ?_
           rintro ⟨⟩ -
           exact CfgA.to (IH (some (),none,none,none,none,none) ⟨nofun,nofun,nofun,nofun,nofun,nofun,nofun,trivial⟩ (lt4 kr)) kr kr (.refl _) (Conv.mk kr)
          ·
           refine Ie rfl  (Eff.buildAgg (vs := (bv x.b)) (n := 32) rfl kr Tryz.underlying57 kr (z := (.agg (bv (List.replicate 32 0)))) kr ((bv_size _).trans hxl.b) (by decide) (by decide)) (fun _ _ => (.cons _ (.cons _ slr))) ?_
           rintro bb ⟨hbb,nbb⟩
           exact CfgA.to (IH (none,none,some bb,none,none,none) ⟨nofun,nofun,nofun,nofun,nofun,nofun,nofun,trivial⟩ (lt4 kr)) kr kr (.refl _) (Conv.mk kr)
          ·
           refine Ie rfl  (Eff.buildSlice (e := 9) (cells := #[.string x.d]) (parts := #[(0,.string x.d)]) rfl kr (fun _ => kr)) (fun _ _ => (.cons _ (.cons _ slr))) ?_
           rintro tb ⟨htb,ntb⟩
           exact CfgA.to (IH (none,none,none,none,some tb,none) ⟨nofun,nofun,nofun,nofun,nofun,nofun,nofun,trivial⟩ (lt4 kr)) kr kr (.refl _) (Conv.mk kr)
         ·
          exact absurd (dd9_5 rfl) (by decide)
        ·
         rcases oo9 with _ | ⟨⟩
         ·
          refine CfgA.to (l' := (bF 460 11)) (fuel' := 6) (O' := ([(tb,.cells #[.string x.d] 9 (0,0)),(ob,.cells #[.string (tx ([] ++ x.id))] 85 (0,0)),(ib,.cells (bv x.id) 36 (0,0)),(eb,.cells ((enc x).toArray) 62 (0,0))] ++ (Own.o 9 ((prts (es.take i)).map Value.string) ow ++ []))) (Γ' := [(30,[],.slice (some ⟨tb,0,none⟩) 1 1),(29,[],.string x.d),(25,[],.agg (bv x.b)),(6,[],pT ob),(10,[],.int .i64 (i : Int)),(9,[],.int .i64 (es.length : Int)),(8,[],.slice (some ⟨sa,offa,none⟩) es.length ca),(3,[],.slice (Own.a ow) i (Own.c ow)),(0,[],.slice (some ⟨sa,offa,none⟩) es.length ca)]) ?_ kr kr (List.Perm.refl _) (Conv.mk kr)
          refine CfgA.many [0,4] kr (by decide) (fuel' := 5) kr ⟨?_,?_,trivial⟩
          ·
           refine Ie rfl  (Eff.quiet (raw := false) (orc := some (.agg #[.string (tx ([] ++ x.id))])) (v := .agg #[.string (tx ([] ++ x.id))]) (nd := (fun S => [(∀ w1,S w1 → (loadVar 85 ⟨ob,0,none⟩).run Tryz.prog w1 = .ok (.agg #[.string (tx ([] ++ x.id))]) w1)])) (fun _ => kr) ⟨(fun w1 h => h.oload 1 rfl Tryz.underlying85 rfl (n := 1) kr rfl),trivial⟩ kr) (fun _ _ => (.cons _ (.cons _ slr))) ?_
           rintro ⟨⟩ -
           exact CfgA.to (IH (some (),none,none,none,some tb,none) ⟨nofun,nofun,nofun,nofun,nofun,nofun,nofun,trivial⟩ (lt4 kr)) kr kr (.refl _) (Conv.mk kr)
          ·
           refine Ie rfl  (Eff.buildAgg (vs := (bv x.b)) (n := 32) rfl kr Tryz.underlying57 kr (z := (.agg (bv (List.replicate 32 0)))) kr ((bv_size _).trans hxl.b) (by decide) (by decide)) (fun _ _ => (.cons _ (.cons _ (.cons _ slr)))) ?_
           rintro bb ⟨hbb,nbb⟩
           exact CfgA.to (IH (none,none,some bb,none,some tb,none) ⟨nofun,nofun,nofun,nofun,nofun,nofun,nofun,trivial⟩ (lt4 kr)) kr kr (.refl _) (Conv.mk kr)
         ·
          exact absurd (dd9_5 rfl) (by decide)
       ·
        exact absurd (dd5_1 rfl) (by decide)
      ·
       rcases oo5 with _ | ⟨⟩
       ·
        rcases oo8 with _ | tb
        ·
         rcases oo9 with _ | ⟨⟩
         ·
          refine CfgA.to (l' := (bF 220 11)) (fuel' := 6) (O' := ([(bb,.cells (bv x.b) 36 (0,0)),(ob,.cells #[.string (tx ([] ++ x.id))] 85 (0,0)),(ib,.cells (bv x.id) 36 (0,0)),(eb,.cells ((enc x).toArray) 62 (0,0))] ++ (Own.o 9 ((prts (es.take i)).map Value.string) ow ++ []))) (Γ' := [(26,[],.slice (some ⟨bb,0,none⟩) 1 1),(29,[],.string x.d),(25,[],.agg (bv x.b)),(6,[],pT ob),(10,[],.int .i64 (i : Int)),(9,[],.int .i64 (es.length : Int)),(8,[],.slice (some ⟨sa,offa,none⟩) es.length ca),(3,[],.slice (Own.a ow) i (Own.c ow)),(0,[],.slice (some ⟨sa,offa,none⟩) es.length ca)]) ?_ kr kr (List.Perm.refl _) (Conv.mk kr)
          refine CfgA.many [0,8] kr (by decide) (fuel' := 5) kr ⟨?_,?_,trivial⟩
          ·
           refine Ie rfl  (Eff.quiet (raw := false) (orc := some (.agg #[.string (tx ([] ++ x.id))])) (v := .agg #[.string (tx ([] ++ x.id))]) (nd := (fun S => [(∀ w1,S w1 → (loadVar 85 ⟨ob,0,none⟩).run Tryz.prog w1 = .ok (.agg #[.string (tx ([] ++ x.id))]) w1)])) (fun _ => kr) ⟨(fun w1 h => h.oload 1 rfl Tryz.underlying85 rfl (n := 1) kr rfl),trivial⟩ kr) (fun _ _ => (.cons _ (.cons _ slr))) ?_
           rintro ⟨⟩ -
           exact CfgA.to (IH (some (),none,some bb,none,none,none) ⟨nofun,nofun,nofun,nofun,nofun,nofun,nofun,trivial⟩ (lt4 kr)) kr kr (.refl _) (Conv.mk kr)
          ·
           refine Ie rfl  (Eff.buildSlice (e := 9) (cells := #[.string x.d]) (parts := #[(0,.string x.d)]) rfl kr (fun _ => kr)) (fun _ _ => (.cons _ (.cons _ (.cons _ slr)))) ?_
           rintro tb ⟨htb,ntb⟩
           exact CfgA.to (IH (none,none,some bb,none,some tb,none) ⟨nofun,nofun,nofun,nofun,nofun,nofun,nofun,trivial⟩ (lt4 kr)) kr kr (pmid (l₁ := [(bb,Obj.cells (bv x.b) 36 (0,0))])) (Conv.mk kr)
         ·
          exact absurd (dd9_5 rfl) (by decide)
        ·
         rcases oo9 with _ | ⟨⟩
         ·
          refine CfgA.to (l' := (bF 476 11)) (fuel' := 5) (O' := ([(bb,.cells (bv x.b) 36 (0,0)),(tb,.cells #[.string x.d] 9 (0,0)),(ob,.cells #[.string (tx ([] ++ x.id))] 85 (0,0)),(ib,.cells (bv x.id) 36 (0,0)),(eb,.cells ((enc x).toArray) 62 (0,0))] ++ (Own.o 9 ((prts (es.take i)).map Value.string) ow ++ []))) (Γ' := [(26,[],.slice (some ⟨bb,0,none⟩) 1 1),(30,[],.slice (some ⟨tb,0,none⟩) 1 1),(29,[],.string x.d),(25,[],.agg (bv x.b)),(6,[],pT ob),(10,[],.int .i64 (i : Int)),(9,[],.int .i64 (es.length : Int)),(8,[],.slice (some ⟨sa,offa,none⟩) es.length ca),(3,[],.slice (Own.a ow) i (Own.c ow)),(0,[],.slice (some ⟨sa,offa,none⟩) es.length ca)]) ?_ kr kr (List.Perm.refl _) (Conv.mk kr)
          refine CfgA.many [0] kr (by decide) (fuel' := 4) kr ⟨?_,trivial⟩
          ·
           refine Ie rfl  (Eff.quiet (raw := false) (orc := some (.agg #[.string (tx ([] ++ x.id))])) (v := .agg #[.string (tx ([] ++ x.id))]) (nd := (fun S => [(∀ w1,S w1 → (loadVar 85 ⟨ob,0,none⟩).run Tryz.prog w1 = .ok (.agg #[.string (tx ([] ++ x.id))]) w1)])) (fun _ => kr) ⟨(fun w1 h => h.oload 2 rfl Tryz.underlying85 rfl (n := 1) kr rfl),trivial⟩ kr) (fun _ _ => (.cons _ (.cons _ (.cons _ slr)))) ?_
           rintro ⟨⟩ -
           exact CfgA.to (IH (some (),none,some bb,none,some tb,none) ⟨nofun,nofun,nofun,nofun,nofun,nofun,nofun,trivial⟩ (lt4 kr)) kr kr (.refl _) (Conv.mk kr)
         ·
          exact absurd (dd9_5 rfl) (by decide)
       ·
        exact absurd (dd5_1 rfl) (by decide)
     ·
      exact absurd (dd1_0 rfl) (by decide)
    ·
     rcases oo1 with _ | ⟨⟩
     ·
      rcases oo4 with _ | bb
      ·
       rcases oo5 with _ | ⟨⟩
       ·
        rcases oo8 with _ | tb
        ·
         rcases oo9 with _ | ⟨⟩
         ·
          refine CfgA.to (l' := (bF 205 11)) (fuel' := 6) (O' := ([(ob,.cells #[.string (tx ([] ++ x.id))] 85 (0,0)),(ib,.cells (bv x.id) 36 (0,0)),(eb,.cells ((enc x).toArray) 62 (0,0))] ++ (Own.o 9 ((prts (es.take i)).map Value.string) ow ++ []))) (Γ' := [(22,[],.agg #[.string (tx ([] ++ x.id))]),(29,[],.string x.d),(25,[],.agg (bv x.b)),(6,[],pT ob),(10,[],.int .i64 (i : Int)),(9,[],.int .i64 (es.length : Int)),(8,[],.slice (some ⟨sa,offa,none⟩) es.length ca),(3,[],.slice (Own.a ow) i (Own.c ow)),(0,[],.slice (some ⟨sa,offa,none⟩) es.length ca)]) ?_ kr kr (List.Perm.refl _) (Conv.mk kr)
          refine CfgA.many [1,4,8] kr (by decide) (fuel' := 5) kr ⟨?_,?_,?_,trivial⟩
          ·
           refine Ie rfl  (Eff.callA (vs := [.agg #[.string (tx ([] ++ x.id))],.int .u8 1]) (.agg #[.string (tx (([] ++ x.id) ++ be 1 1))]) rfl Tryz.func41 rfl rfl kr (fun w1 _ => wByte (tx ([] ++ x.id)) 1 w1 (by decide) (by rw [tx_size]; (repeat rw [List.length_append]); (repeat rw [be_len]); (try rw [List.length_nil]); omega))) (fun _ _ => (.cons _ slr)) ?_
           rintro ⟨⟩ -
           exact CfgA.to (IH (some (),some (),none,none,none,none) ⟨(fun _ => rfl),nofun,nofun,nofun,nofun,nofun,nofun,trivial⟩ (lt4 kr)) kr kr (.refl _) (Conv.mk kr)
          ·
           refine Ie rfl  (Eff.buildAgg (vs := (bv x.b)) (n := 32) rfl kr Tryz.underlying57 kr (z := (.agg (bv (List.replicate 32 0)))) kr ((bv_size _).trans hxl.b) (by decide) (by decide)) (fun _ _ => (.cons _ (.cons _ slr))) ?_
           rintro bb ⟨hbb,nbb⟩
           exact CfgA.to (IH (some (),none,some bb,none,none,none) ⟨nofun,nofun,nofun,nofun,nofun,nofun,nofun,trivial⟩ (lt4 kr)) kr kr (.refl _) (Conv.mk kr)
          ·
           refine Ie rfl  (Eff.buildSlice (e := 9) (cells := #[.string x.d]) (parts := #[(0,.string x.d)]) rfl kr (fun _ => kr)) (fun _ _ => (.cons _ (.cons _ slr))) ?_
           rintro tb ⟨htb,ntb⟩
           exact CfgA.to (IH (some (),none,none,none,some tb,none) ⟨nofun,nofun,nofun,nofun,nofun,nofun,nofun,trivial⟩ (lt4 kr)) kr kr (.refl _) (Conv.mk kr)
         ·
          exact absurd (dd9_5 rfl) (by decide)
        ·
         rcases oo9 with _ | ⟨⟩
         ·
          refine CfgA.to (l' := (bF 461 11)) (fuel' := 5) (O' := ([(tb,.cells #[.string x.d] 9 (0,0)),(ob,.cells #[.string (tx ([] ++ x.id))] 85 (0,0)),(ib,.cells (bv x.id) 36 (0,0)),(eb,.cells ((enc x).toArray) 62 (0,0))] ++ (Own.o 9 ((prts (es.take i)).map Value.string) ow ++ []))) (Γ' := [(22,[],.agg #[.string (tx ([] ++ x.id))]),(30,[],.slice (some ⟨tb,0,none⟩) 1 1),(29,[],.string x.d),(25,[],.agg (bv x.b)),(6,[],pT ob),(10,[],.int .i64 (i : Int)),(9,[],.int .i64 (es.length : Int)),(8,[],.slice (some ⟨sa,offa,none⟩) es.length ca),(3,[],.slice (Own.a ow) i (Own.c ow)),(0,[],.slice (some ⟨sa,offa,none⟩) es.length ca)]) ?_ kr kr (List.Perm.refl _) (Conv.mk kr)
          refine CfgA.many [1,4] kr (by decide) (fuel' := 4) kr ⟨?_,?_,trivial⟩
          ·
           refine Ie rfl  (Eff.callA (vs := [.agg #[.string (tx ([] ++ x.id))],.int .u8 1]) (.agg #[.string (tx (([] ++ x.id) ++ be 1 1))]) rfl Tryz.func41 rfl rfl kr (fun w1 _ => wByte (tx ([] ++ x.id)) 1 w1 (by decide) (by rw [tx_size]; (repeat rw [List.length_append]); (repeat rw [be_len]); (try rw [List.length_nil]); omega))) (fun _ _ => (.cons _ (.cons _ slr))) ?_
           rintro ⟨⟩ -
           exact CfgA.to (IH (some (),some (),none,none,some tb,none) ⟨(fun _ => rfl),nofun,nofun,nofun,nofun,nofun,nofun,trivial⟩ (lt4 kr)) kr kr (.refl _) (Conv.mk kr)
          ·
           refine Ie rfl  (Eff.buildAgg (vs := (bv x.b)) (n := 32) rfl kr Tryz.underlying57 kr (z := (.agg (bv (List.replicate 32 0)))) kr ((bv_size _).trans hxl.b) (by decide) (by decide)) (fun _ _ => (.cons _ (.cons _ (.cons _ slr)))) ?_
           rintro bb ⟨hbb,nbb⟩
           exact CfgA.to (IH (some (),none,some bb,none,some tb,none) ⟨nofun,nofun,nofun,nofun,nofun,nofun,nofun,trivial⟩ (lt4 kr)) kr kr (.refl _) (Conv.mk kr)
         ·
          exact absurd (dd9_5 rfl) (by decide)
       ·
        exact absurd (dd5_1 rfl) (by decide)
      ·
       rcases oo5 with _ | ⟨⟩
       ·
        rcases oo8 with _ | tb
        ·
         rcases oo9 with _ | ⟨⟩
         ·
          refine CfgA.to (l' := (bF 221 11)) (fuel' := 5) (O' := ([(bb,.cells (bv x.b) 36 (0,0)),(ob,.cells #[.string (tx ([] ++ x.id))] 85 (0,0)),(ib,.cells (bv x.id) 36 (0,0)),(eb,.cells ((enc x).toArray) 62 (0,0))] ++ (Own.o 9 ((prts (es.take i)).map Value.string) ow ++ []))) (Γ' := [(22,[],.agg #[.string (tx ([] ++ x.id))]),(26,[],.slice (some ⟨bb,0,none⟩) 1 1),(29,[],.string x.d),(25,[],.agg (bv x.b)),(6,[],pT ob),(10,[],.int .i64 (i : Int)),(9,[],.int .i64 (es.length : Int)),(8,[],.slice (some ⟨sa,offa,none⟩) es.length ca),(3,[],.slice (Own.a ow) i (Own.c ow)),(0,[],.slice (some ⟨sa,offa,none⟩) es.length ca)]) ?_ kr kr (List.Perm.refl _) (Conv.mk kr)
          refine CfgA.many [1,8] kr (by decide) (fuel' := 4) kr ⟨?_,?_,trivial⟩
          ·
           refine Ie rfl  (Eff.callA (vs := [.agg #[.string (tx ([] ++ x.id))],.int .u8 1]) (.agg #[.string (tx (([] ++ x.id) ++ be 1 1))]) rfl Tryz.func41 rfl rfl kr (fun w1 _ => wByte (tx ([] ++ x.id)) 1 w1 (by decide) (by rw [tx_size]; (repeat rw [List.length_append]); (repeat rw [be_len]); (try rw [List.length_nil]); omega))) (fun _ _ => (.cons _ (.cons _ slr))) ?_
           rintro ⟨⟩ -
           exact CfgA.to (IH (some (),some (),some bb,none,none,none) ⟨(fun _ => rfl),nofun,nofun,nofun,nofun,nofun,nofun,trivial⟩ (lt4 kr)) kr kr (.refl _) (Conv.mk kr)
          ·
           refine Ie rfl  (Eff.buildSlice (e := 9) (cells := #[.string x.d]) (parts := #[(0,.string x.d)]) rfl kr (fun _ => kr)) (fun _ _ => (.cons _ (.cons _ (.cons _ slr)))) ?_
           rintro tb ⟨htb,ntb⟩
           exact CfgA.to (IH (some (),none,some bb,none,some tb,none) ⟨nofun,nofun,nofun,nofun,nofun,nofun,nofun,trivial⟩ (lt4 kr)) kr kr (pmid (l₁ := [(bb,Obj.cells (bv x.b) 36 (0,0))])) (Conv.mk kr)
         ·
          exact absurd (dd9_5 rfl) (by decide)
        ·
         rcases oo9 with _ | ⟨⟩
         ·
          refine CfgA.to (l' := (bF 477 11)) (fuel' := 4) (O' := ([(bb,.cells (bv x.b) 36 (0,0)),(tb,.cells #[.string x.d] 9 (0,0)),(ob,.cells #[.string (tx ([] ++ x.id))] 85 (0,0)),(ib,.cells (bv x.id) 36 (0,0)),(eb,.cells ((enc x).toArray) 62 (0,0))] ++ (Own.o 9 ((prts (es.take i)).map Value.string) ow ++ []))) (Γ' := [(22,[],.agg #[.string (tx ([] ++ x.id))]),(26,[],.slice (some ⟨bb,0,none⟩) 1 1),(30,[],.slice (some ⟨tb,0,none⟩) 1 1),(29,[],.string x.d),(25,[],.agg (bv x.b)),(6,[],pT ob),(10,[],.int .i64 (i : Int)),(9,[],.int .i64 (es.length : Int)),(8,[],.slice (some ⟨sa,offa,none⟩) es.length ca),(3,[],.slice (Own.a ow) i (Own.c ow)),(0,[],.slice (some ⟨sa,offa,none⟩) es.length ca)]) ?_ kr kr (List.Perm.refl _) (Conv.mk kr)
          refine CfgA.many [1] kr (by decide) (fuel' := 3) kr ⟨?_,trivial⟩
          ·
           refine Ie rfl  (Eff.callA (vs := [.agg #[.string (tx ([] ++ x.id))],.int .u8 1]) (.agg #[.string (tx (([] ++ x.id) ++ be 1 1))]) rfl Tryz.func41 rfl rfl kr (fun w1 _ => wByte (tx ([] ++ x.id)) 1 w1 (by decide) (by rw [tx_size]; (repeat rw [List.length_append]); (repeat rw [be_len]); (try rw [List.length_nil]); omega))) (fun _ _ => (.cons _ (.cons _ (.cons _ slr)))) ?_
           rintro ⟨⟩ -
           exact CfgA.to (IH (some (),some (),some bb,none,some tb,none) ⟨(fun _ => rfl),nofun,nofun,nofun,nofun,nofun,nofun,trivial⟩ (lt4 kr)) kr kr (.refl _) (Conv.mk kr)
         ·
          exact absurd (dd9_5 rfl) (by decide)
       ·
        exact absurd (dd5_1 rfl) (by decide)
     ·
      rcases oo4 with _ | bb
      ·
       rcases oo5 with _ | ⟨⟩
       ·
        rcases oo8 with _ | tb
        ·
         rcases oo9 with _ | ⟨⟩
         ·
          refine CfgA.to (l' := (bF 207 11)) (fuel' := 5) (O' := ([(ob,.cells #[.string (tx ([] ++ x.id))] 85 (0,0)),(ib,.cells (bv x.id) 36 (0,0)),(eb,.cells ((enc x).toArray) 62 (0,0))] ++ (Own.o 9 ((prts (es.take i)).map Value.string) ow ++ []))) (Γ' := [(22,[],.agg #[.string (tx ([] ++ x.id))]),(23,[],.agg #[.string (tx (([] ++ x.id) ++ be 1 1))]),(29,[],.string x.d),(25,[],.agg (bv x.b)),(6,[],pT ob),(10,[],.int .i64 (i : Int)),(9,[],.int .i64 (es.length : Int)),(8,[],.slice (some ⟨sa,offa,none⟩) es.length ca),(3,[],.slice (Own.a ow) i (Own.c ow)),(0,[],.slice (some ⟨sa,offa,none⟩) es.length ca)]) ?_ kr kr (List.Perm.refl _) (Conv.mk kr)
          refine CfgA.many [4,8] kr (by decide) (fuel' := 4) kr ⟨?_,?_,trivial⟩
          ·
           refine Ie rfl  (Eff.buildAgg (vs := (bv x.b)) (n := 32) rfl kr Tryz.underlying57 kr (z := (.agg (bv (List.replicate 32 0)))) kr ((bv_size _).trans hxl.b) (by decide) (by decide)) (fun _ _ => (.cons _ (.cons _ slr))) ?_
           rintro bb ⟨hbb,nbb⟩
           exact CfgA.to (IH (some (),some (),some bb,none,none,none) ⟨(fun _ => rfl),nofun,nofun,nofun,nofun,nofun,nofun,trivial⟩ (lt4 kr)) kr kr (.refl _) (Conv.mk kr)
          ·
           refine Ie rfl  (Eff.buildSlice (e := 9) (cells := #[.string x.d]) (parts := #[(0,.string x.d)]) rfl kr (fun _ => kr)) (fun _ _ => (.cons _ (.cons _ slr))) ?_
           rintro tb ⟨htb,ntb⟩
           exact CfgA.to (IH (some (),some (),none,none,some tb,none) ⟨(fun _ => rfl),nofun,nofun,nofun,nofun,nofun,nofun,trivial⟩ (lt4 kr)) kr kr (.refl _) (Conv.mk kr)
         ·
          exact absurd (dd9_5 rfl) (by decide)
        ·
         rcases oo9 with _ | ⟨⟩
         ·
          refine CfgA.to (l' := (bF 463 11)) (fuel' := 4) (O' := ([(tb,.cells #[.string x.d] 9 (0,0)),(ob,.cells #[.string (tx ([] ++ x.id))] 85 (0,0)),(ib,.cells (bv x.id) 36 (0,0)),(eb,.cells ((enc x).toArray) 62 (0,0))] ++ (Own.o 9 ((prts (es.take i)).map Value.string) ow ++ []))) (Γ' := [(22,[],.agg #[.string (tx ([] ++ x.id))]),(23,[],.agg #[.string (tx (([] ++ x.id) ++ be 1 1))]),(30,[],.slice (some ⟨tb,0,none⟩) 1 1),(29,[],.string x.d),(25,[],.agg (bv x.b)),(6,[],pT ob),(10,[],.int .i64 (i : Int)),(9,[],.int .i64 (es.length : Int)),(8,[],.slice (some ⟨sa,offa,none⟩) es.length ca),(3,[],.slice (Own.a ow) i (Own.c ow)),(0,[],.slice (some ⟨sa,offa,none⟩) es.length ca)]) ?_ kr kr (List.Perm.refl _) (Conv.mk kr)
          refine CfgA.many [4] kr (by decide) (fuel' := 3) kr ⟨?_,trivial⟩
          ·
           refine Ie rfl  (Eff.buildAgg (vs := (bv x.b)) (n := 32) rfl kr Tryz.underlying57 kr (z := (.agg (bv (List.replicate 32 0)))) kr ((bv_size _).trans hxl.b) (by decide) (by decide)) (fun _ _ => (.cons _ (.cons _ (.cons _ slr)))) ?_
           rintro bb ⟨hbb,nbb⟩
           exact CfgA.to (IH (some (),some (),some bb,none,some tb,none) ⟨(fun _ => rfl),nofun,nofun,nofun,nofun,nofun,nofun,trivial⟩ (lt4 kr)) kr kr (.refl _) (Conv.mk kr)
         ·
          exact absurd (dd9_5 rfl) (by decide)
       ·
        exact absurd (dd5_4 rfl) (by decide)
      ·
       rcases oo5 with _ | ⟨⟩
       ·
        rcases oo8 with _ | tb
        ·
         rcases oo9 with _ | ⟨⟩
         ·
          refine CfgA.to (l' := (bF 223 11)) (fuel' := 4) (O' := ([(bb,.cells (bv x.b) 36 (0,0)),(ob,.cells #[.string (tx ([] ++ x.id))] 85 (0,0)),(ib,.cells (bv x.id) 36 (0,0)),(eb,.cells ((enc x).toArray) 62 (0,0))] ++ (Own.o 9 ((prts (es.take i)).map Value.string) ow ++ []))) (Γ' := [(22,[],.agg #[.string (tx ([] ++ x.id))]),(23,[],.agg #[.string (tx (([] ++ x.id) ++ be 1 1))]),(26,[],.slice (some ⟨bb,0,none⟩) 1 1),(29,[],.string x.d),(25,[],.agg (bv x.b)),(6,[],pT ob),(10,[],.int .i64 (i : Int)),(9,[],.int .i64 (es.length : Int)),(8,[],.slice (some ⟨sa,offa,none⟩) es.length ca),(3,[],.slice (Own.a ow) i (Own.c ow)),(0,[],.slice (some ⟨sa,offa,none⟩) es.length ca)]) ?_ kr kr (List.Perm.refl _) (Conv.mk kr)
          refine CfgA.many [5,8] kr (by decide) (fuel' := 3) kr ⟨?_,?_,trivial⟩
          ·
           refine Ie rfl  (Eff.callA (vs := [.agg #[.string (tx (([] ++ x.id) ++ be 1 1))],.slice (some ⟨bb,0,none⟩) 1 1]) (.agg #[.string (tx (((([] ++ x.id) ++ be 1 1)) ++ x.b))]) rfl Tryz.func40 rfl rfl kr (fun w1 h => wDigest1 (([] ++ x.id) ++ be 1 1) x.b bb 36 w1 hxbb (by (repeat rw [List.length_append]); (repeat rw [be_len]); (try rw [List.length_nil]); omega) (h.has (fun e he => by rw [List.mem_singleton.1 he]; exact (show _ ∈ (([(bb,Obj.cells (bv x.b) 36 (0,0)),(ob,Obj.cells #[.string (tx ([] ++ x.id))] 85 (0,0)),(ib,Obj.cells (bv x.id) 36 (0,0)),(eb,Obj.cells ((enc x).toArray) 62 (0,0))] ++ (Own.o 9 ((prts (es.take i)).map Value.string) ow ++ [])) : LO) from (mL mH)))))) (fun _ _ => (.cons _ (.cons _ slr))) ?_
           rintro ⟨⟩ -
           exact CfgA.to (IH (some (),some (),some bb,some (),none,none) ⟨(fun _ => rfl),(fun _ => rfl),(fun _ => rfl),(fun _ => rfl),nofun,nofun,nofun,trivial⟩ (lt4 kr)) kr kr (.refl _) (Conv.mk kr)
          ·
           refine Ie rfl  (Eff.buildSlice (e := 9) (cells := #[.string x.d]) (parts := #[(0,.string x.d)]) rfl kr (fun _ => kr)) (fun _ _ => (.cons _ (.cons _ (.cons _ slr)))) ?_
           rintro tb ⟨htb,ntb⟩
           exact CfgA.to (IH (some (),some (),some bb,none,some tb,none) ⟨(fun _ => rfl),nofun,nofun,nofun,nofun,nofun,nofun,trivial⟩ (lt4 kr)) kr kr (pmid (l₁ := [(bb,Obj.cells (bv x.b) 36 (0,0))])) (Conv.mk kr)
         ·
          exact absurd (dd9_5 rfl) (by decide)
        ·
         rcases oo9 with _ | ⟨⟩
         ·
          refine CfgA.to (l' := (bF 479 11)) (fuel' := 3) (O' := ([(bb,.cells (bv x.b) 36 (0,0)),(tb,.cells #[.string x.d] 9 (0,0)),(ob,.cells #[.string (tx ([] ++ x.id))] 85 (0,0)),(ib,.cells (bv x.id) 36 (0,0)),(eb,.cells ((enc x).toArray) 62 (0,0))] ++ (Own.o 9 ((prts (es.take i)).map Value.string) ow ++ []))) (Γ' := [(22,[],.agg #[.string (tx ([] ++ x.id))]),(23,[],.agg #[.string (tx (([] ++ x.id) ++ be 1 1))]),(26,[],.slice (some ⟨bb,0,none⟩) 1 1),(30,[],.slice (some ⟨tb,0,none⟩) 1 1),(29,[],.string x.d),(25,[],.agg (bv x.b)),(6,[],pT ob),(10,[],.int .i64 (i : Int)),(9,[],.int .i64 (es.length : Int)),(8,[],.slice (some ⟨sa,offa,none⟩) es.length ca),(3,[],.slice (Own.a ow) i (Own.c ow)),(0,[],.slice (some ⟨sa,offa,none⟩) es.length ca)]) ?_ kr kr (List.Perm.refl _) (Conv.mk kr)
          refine CfgA.many [5] kr (by decide) (fuel' := 2) kr ⟨?_,trivial⟩
          ·
           refine Ie rfl  (Eff.callA (vs := [.agg #[.string (tx (([] ++ x.id) ++ be 1 1))],.slice (some ⟨bb,0,none⟩) 1 1]) (.agg #[.string (tx (((([] ++ x.id) ++ be 1 1)) ++ x.b))]) rfl Tryz.func40 rfl rfl kr (fun w1 h => wDigest1 (([] ++ x.id) ++ be 1 1) x.b bb 36 w1 hxbb (by (repeat rw [List.length_append]); (repeat rw [be_len]); (try rw [List.length_nil]); omega) (h.has (fun e he => by rw [List.mem_singleton.1 he]; exact (show _ ∈ (([(bb,Obj.cells (bv x.b) 36 (0,0)),(tb,Obj.cells #[.string x.d] 9 (0,0)),(ob,Obj.cells #[.string (tx ([] ++ x.id))] 85 (0,0)),(ib,Obj.cells (bv x.id) 36 (0,0)),(eb,Obj.cells ((enc x).toArray) 62 (0,0))] ++ (Own.o 9 ((prts (es.take i)).map Value.string) ow ++ [])) : LO) from (mL mH)))))) (fun _ _ => (.cons _ (.cons _ (.cons _ slr)))) ?_
           rintro ⟨⟩ -
           exact CfgA.to (IH (some (),some (),some bb,some (),some tb,none) ⟨(fun _ => rfl),(fun _ => rfl),(fun _ => rfl),(fun _ => rfl),nofun,nofun,nofun,trivial⟩ (lt4 kr)) kr kr (.refl _) (Conv.mk kr)
         ·
          exact absurd (dd9_5 rfl) (by decide)
       ·
        rcases oo8 with _ | tb
        ·
         rcases oo9 with _ | ⟨⟩
         ·
          refine CfgA.to (l' := tF 8 3) (fuel' := 3) (O' := ([(bb,.cells (bv x.b) 36 (0,0)),(ob,.cells #[.string (tx ([] ++ x.id))] 85 (0,0)),(ib,.cells (bv x.id) 36 (0,0)),(eb,.cells ((enc x).toArray) 62 (0,0))] ++ (Own.o 9 ((prts (es.take i)).map Value.string) ow ++ []))) (Γ' := [(22,[],.agg #[.string (tx ([] ++ x.id))]),(23,[],.agg #[.string (tx (([] ++ x.id) ++ be 1 1))]),(26,[],.slice (some ⟨bb,0,none⟩) 1 1),(27,[],.agg #[.string (tx (((([] ++ x.id) ++ be 1 1)) ++ x.b))]),(29,[],.string x.d),(25,[],.agg (bv x.b)),(6,[],pT ob),(10,[],.int .i64 (i : Int)),(9,[],.int .i64 (es.length : Int)),(8,[],.slice (some ⟨sa,offa,none⟩) es.length ca),(3,[],.slice (Own.a ow) i (Own.c ow)),(0,[],.slice (some ⟨sa,offa,none⟩) es.length ca)]) ?_ kr kr (List.Perm.refl _) (Conv.mk kr)
          refine CfgA.many [8] kr (by decide) (fuel' := 2) kr ⟨?_,trivial⟩
          ·
           refine Ie rfl  (Eff.buildSlice (e := 9) (cells := #[.string x.d]) (parts := #[(0,.string x.d)]) rfl kr (fun _ => kr)) (fun _ _ => (.cons _ (.cons _ (.cons _ slr)))) ?_
           rintro tb ⟨htb,ntb⟩
           exact CfgA.to (IH (some (),some (),some bb,some (),some tb,none) ⟨(fun _ => rfl),(fun _ => rfl),(fun _ => rfl),(fun _ => rfl),nofun,nofun,nofun,trivial⟩ (lt4 kr)) kr kr (pmid (l₁ := [(bb,Obj.cells (bv x.b) 36 (0,0))])) (Conv.mk kr)
         ·
          exact absurd (dd9_8 rfl) (by decide)
        ·
         rcases oo9 with _ | ⟨⟩
         ·
          refine CfgA.to (l' := tF 9 2) (fuel' := 2) (O' := ([(bb,.cells (bv x.b) 36 (0,0)),(tb,.cells #[.string x.d] 9 (0,0)),(ob,.cells #[.string (tx ([] ++ x.id))] 85 (0,0)),(ib,.cells (bv x.id) 36 (0,0)),(eb,.cells ((enc x).toArray) 62 (0,0))] ++ (Own.o 9 ((prts (es.take i)).map Value.string) ow ++ []))) (Γ' := [(22,[],.agg #[.string (tx ([] ++ x.id))]),(23,[],.agg #[.string (tx (([] ++ x.id) ++ be 1 1))]),(26,[],.slice (some ⟨bb,0,none⟩) 1 1),(27,[],.agg #[.string (tx (((([] ++ x.id) ++ be 1 1)) ++ x.b))]),(30,[],.slice (some ⟨tb,0,none⟩) 1 1),(29,[],.string x.d),(25,[],.agg (bv x.b)),(6,[],pT ob),(10,[],.int .i64 (i : Int)),(9,[],.int .i64 (es.length : Int)),(8,[],.slice (some ⟨sa,offa,none⟩) es.length ca),(3,[],.slice (Own.a ow) i (Own.c ow)),(0,[],.slice (some ⟨sa,offa,none⟩) es.length ca)]) ?_ kr kr (List.Perm.refl _) (Conv.mk kr)
          refine CfgA.many [9] kr (by decide) (fuel' := 1) kr ⟨?_,trivial⟩
          ·
           refine Ie rfl  (Eff.callA (vs := [.agg #[.string (tx (((([] ++ x.id) ++ be 1 1)) ++ x.b))],.slice (some ⟨tb,0,none⟩) 1 1]) (.agg #[.string (tx ((((([] ++ x.id) ++ be 1 1)) ++ x.b) ++ text4 x.d))]) rfl Tryz.func42 rfl rfl kr (fun w1 h => wText1 (((([] ++ x.id) ++ be 1 1)) ++ x.b) x.d tb 9 w1 (by (repeat rw [List.length_append]); (repeat rw [be_len]); (try rw [List.length_nil]); omega) (h.has (fun e he => by rw [List.mem_singleton.1 he]; exact (show _ ∈ (([(bb,Obj.cells (bv x.b) 36 (0,0)),(tb,Obj.cells #[.string x.d] 9 (0,0)),(ob,Obj.cells #[.string (tx ([] ++ x.id))] 85 (0,0)),(ib,Obj.cells (bv x.id) 36 (0,0)),(eb,Obj.cells ((enc x).toArray) 62 (0,0))] ++ (Own.o 9 ((prts (es.take i)).map Value.string) ow ++ [])) : LO) from (mL (List.mem_cons_of_mem _ mH))))))) (fun _ _ => (.cons _ (.cons _ (.cons _ slr)))) ?_
           rintro ⟨⟩ -
           exact CfgA.to (IH (some (),some (),some bb,some (),some tb,some ()) ⟨(fun _ => rfl),(fun _ => rfl),(fun _ => rfl),(fun _ => rfl),(fun _ => rfl),(fun _ => rfl),(fun _ => rfl),trivial⟩ (lt4 kr)) kr kr (.refl _) (Conv.mk kr)
         ·
          refine CfgA.to (l' := tF 10 1) (fuel' := 1) (O' := ([(bb,.cells (bv x.b) 36 (0,0)),(tb,.cells #[.string x.d] 9 (0,0)),(ob,.cells #[.string (tx ([] ++ x.id))] 85 (0,0)),(ib,.cells (bv x.id) 36 (0,0)),(eb,.cells ((enc x).toArray) 62 (0,0))] ++ (Own.o 9 ((prts (es.take i)).map Value.string) ow ++ []))) (Γ' := [(22,[],.agg #[.string (tx ([] ++ x.id))]),(23,[],.agg #[.string (tx (([] ++ x.id) ++ be 1 1))]),(26,[],.slice (some ⟨bb,0,none⟩) 1 1),(27,[],.agg #[.string (tx (((([] ++ x.id) ++ be 1 1)) ++ x.b))]),(30,[],.slice (some ⟨tb,0,none⟩) 1 1),(31,[],.agg #[.string (tx ((((([] ++ x.id) ++ be 1 1)) ++ x.b) ++ text4 x.d))]),(29,[],.string x.d),(25,[],.agg (bv x.b)),(6,[],pT ob),(10,[],.int .i64 (i : Int)),(9,[],.int .i64 (es.length : Int)),(8,[],.slice (some ⟨sa,offa,none⟩) es.length ca),(3,[],.slice (Own.a ow) i (Own.c ow)),(0,[],.slice (some ⟨sa,offa,none⟩) es.length ca)]) ?_ kr kr (List.Perm.refl _) (Conv.mk kr)
          refine Ae 10 rfl 0  (Eff.storeN (b := ob) (off := 0) (vs := #[.string (tx ((((([] ++ x.id) ++ be 1 1)) ++ x.b) ++ text4 x.d))]) (n := 1) rfl kr kr kr rfl (fun q hq => by rw [List.mem_singleton.1 hq]; rfl) 2 (cs := #[.string (tx ([] ++ x.id))]) (e := 85) kr (by simp)) (fun _ _ => (.cons _ (.cons _ (.cons _ slr)))) ?_
          rintro ⟨⟩ -
          refine CfgA.setO (congrArg (fun (xq : Array Value) => (([(bb,.cells (bv x.b) 36 (0,0)),(tb,.cells #[.string x.d] 9 (0,0)),(ob,.cells xq 85 (0,0)),(ib,.cells (bv x.id) 36 (0,0)),(eb,.cells ((enc x).toArray) 62 (0,0))] ++ (Own.o 9 ((prts (es.take i)).map Value.string) ow ++ [])) : LO)) (show _ = #[.string (tx ((((([] ++ x.id) ++ be 1 1)) ++ x.b) ++ text4 x.d))] from rfl)) ?_
          refine CfgA.done kr ?_
          refine Cg (Γ' := [(6,[],pT ob),(10,[],.int .i64 (i : Int)),(9,[],.int .i64 (es.length : Int)),(8,[],.slice (some ⟨sa,offa,none⟩) es.length ca),(3,[],.slice (Own.a ow) i (Own.c ow)),(0,[],.slice (some ⟨sa,offa,none⟩) es.length ca)]) ?_
          have hpt := part_d (e := x) om
          refine Cfg.setO (congrArg (fun (xq : Array Value) => (([(bb,.cells (bv x.b) 36 (0,0)),(tb,.cells #[.string x.d] 9 (0,0)),(ob,.cells xq 85 (0,0)),(ib,.cells (bv x.id) 36 (0,0)),(eb,.cells ((enc x).toArray) 62 (0,0))] ++ (Own.o 9 ((prts (es.take i)).map Value.string) ow ++ [])) : LO)) (show _ = #[.string (tx (partE x))] from by rw [← hpt])) ?_
          refine Cfg.begL rfl ?_
          refine Lp 2 [dZ,(dS (.agg #[.string (tx (partE x))]))] (some [0,3,8,9,10,38,39]) (fun S => [(∀ w1,S w1 → (loadVar 85 ⟨ob,0,none⟩).run Tryz.prog w1 = .ok (.agg #[.string (tx (partE x))]) w1)]) ⟨(fun w1 h => h.oload 2 rfl Tryz.underlying85 rfl (n := 1) kr rfl),trivial⟩ ?_
          refine Le (Eff.callA (vs := [.agg #[.string (tx (partE x))]]) (.string (tx (partE x))) rfl Tryz.func43 rfl rfl kr (fun w1 _ => wString (tx (partE x)) w1)) ?_
          rintro ⟨⟩ -
          refine Le (Eff.buildSlice (e := 9) (cells := #[.string (tx (partE x))]) (parts := #[(0,.string (tx (partE x)))]) rfl kr (fun _ => kr)) ?_
          rintro sb2 ⟨hsb2,nsb2⟩
          refine Le (Eff.appendF rfl 1 16 Tryz.underlying22 kr (z := (.string ByteArray.empty)) kr kr ow (xs := ((prts (es.take i)).map Value.string)) hok kr (b2 := sb2) (off2 := 0) (m := 1) (c2 := 1) kr ([Value.string (tx (partE x))]) rfl (fun q hq => by rw [List.mem_singleton.1 hq]; rfl) [(sb2,.cells #[.string (tx (partE x))] 9 (0,0)),(bb,.cells (bv x.b) 36 (0,0)),(tb,.cells #[.string x.d] 9 (0,0)),(ob,.cells #[.string (tx (partE x))] 85 (0,0)),(ib,.cells (bv x.id) 36 (0,0)),(eb,.cells ((enc x).toArray) 62 (0,0))] [] (by rfl) (fun w1 h j v hj => by rw [Nat.zero_add]; exact h.ocell 0 rfl (by rw [← Array.getElem?_toList]; exact hj)) om om) ?_
          rintro o4 ko4
          refine Lp 1 [] (some [0,3,8,9,10]) n0 trivial ?_
          refine CfgL.done rfl ?_
          refine Rg [0,3,8,9,10] [] (fun _ => [(i6 ((i : Int) + 1))]) ⟨om,trivial⟩ ?_
          have hpp : prts (es.take (i + 1)) = (prts (es.take i)) ++ [tx (partE x)] := by rw [prts_take om,← hx]
          refine Cfg.setO (congrArg (fun (xq : List Value) => (([(sb2,.cells #[.string (tx (partE x))] 9 (0,0)),(bb,.cells (bv x.b) 36 (0,0)),(tb,.cells #[.string x.d] 9 (0,0)),(ob,.cells #[.string (tx (partE x))] 85 (0,0)),(ib,.cells (bv x.id) 36 (0,0)),(eb,.cells ((enc x).toArray) 62 (0,0))] ++ (Own.o 9 xq o4 ++ [])) : LO)) (show _ = ((prts (es.take (i + 1))).map Value.string) from by rw [hpp,List.map_append]; rfl)) ?_
          refine Cfg.again rfl (i + 1,o4) ⟨by omega,by rw [hpp,List.map_append]; exact ko4⟩ (by show es.length - (i + 1) < es.length - i; omega) (Conv.mk kr) (.cons _ (.cons _ (.cons _ (.cons _ (.cons _ (.cons _ slr))))))
   ·have c2 := (dF c2r)
    refine Cfg.begA rfl kr ([(ib,.cells (bv x.id) 36 (0,0)),(eb,.cells ((enc x).toArray) 62 (0,0))] ++ (Own.o 9 ((prts (es.take i)).map Value.string) ow ++ [])) ?_
    refine Ap [2,3] [dZ,(dS (.string x.t))] (some [0,3,6,8,9,10,35]) (bF 12 7) (.cons _ slr) 5 (fun S => [(cE S eb 32 (.string x.t))]) ⟨(fun w1 h => h.ocell 1 rfl (by rw [List.getElem?_toArray]; exact (enc_t hxl))),trivial⟩ ?_
    refine CfgA.fam (ι := Option (Unit) × Option (Unit) × Option (Nat) × Option (Unit)) (fun (zq : Option (Unit) × Option (Unit) × Option (Nat) × Option (Unit)) => match zq with | (oo0,oo1,oo4,oo5) => (optL oo0 (fun (_ : Unit) => [(32,[],.agg #[.string (tx ([] ++ x.id))])]) ++ (optL oo1 (fun (_ : Unit) => [(33,[],.agg #[.string (tx (([] ++ x.id) ++ be 0 1))])]) ++ (optL oo4 (fun (tb : Nat) => [(36,[],.slice (some ⟨tb,0,none⟩) 1 1)]) ++ (optL oo5 (fun (_ : Unit) => [(37,[],.agg #[.string (tx ((([] ++ x.id) ++ be 0 1) ++ text4 x.t))])]) ++ [(35,[],.string x.t),(6,[],pT ob),(10,[],.int .i64 (i : Int)),(9,[],.int .i64 (es.length : Int)),(8,[],.slice (some ⟨sa,offa,none⟩) es.length ca),(3,[],.slice (Own.a ow) i (Own.c ow)),(0,[],.slice (some ⟨sa,offa,none⟩) es.length ca)]))))) (fun (zq : Option (Unit) × Option (Unit) × Option (Nat) × Option (Unit)) => match zq with | (oo0,oo1,oo4,oo5) => (optL oo4 (fun (tb : Nat) => [(tb,.cells #[.string x.t] 9 (0,0))]) ++ ([(ob,.cells #[.string (tx ([] ++ x.id))] 85 (0,0)),(ib,.cells (bv x.id) 36 (0,0)),(eb,.cells ((enc x).toArray) 62 (0,0))] ++ ([] ++ (Own.o 9 ((prts (es.take i)).map Value.string) ow ++ []))))) (fun (zq : Option (Unit) × Option (Unit) × Option (Nat) × Option (Unit)) => match zq with | (oo0,oo1,oo4,oo5) => #[oo0.isSome,oo1.isSome,true,true,oo4.isSome,oo5.isSome,false]) (fun (zq : Option (Unit) × Option (Unit) × Option (Nat) × Option (Unit)) => match zq with | (oo0,oo1,oo4,oo5) => 5 - (optN oo0 + optN oo1 + optN oo4 + optN oo5)) (fun (zq : Option (Unit) × Option (Unit) × Option (Nat) × Option (Unit)) => match zq with | (oo0,oo1,oo4,oo5) => (oo1.isSome = true → oo0.isSome = true) ∧ (oo5.isSome = true → oo1.isSome = true) ∧ (oo5.isSome = true → oo4.isSome = true) ∧ (oo5.isSome = true → oo1.isSome = true) ∧ True) (none,none,none,none) ⟨nofun,nofun,nofun,nofun,trivial⟩ kr kr (List.Perm.refl _) (Conv.mk kr) ?_
    rintro ⟨oo0,oo1,oo4,oo5⟩ hz IH
    obtain ⟨dd1_0,dd5_1,dd5_4,dd5_1,-⟩ := hz
    rcases oo0 with _ | ⟨⟩
    ·
     rcases oo1 with _ | ⟨⟩
     ·
      rcases oo4 with _ | tb
      ·
       rcases oo5 with _ | ⟨⟩
       ·
        refine CfgA.to (l' := (bF 12 7)) (fuel' := 5) (O' := ([(ob,.cells #[.string (tx ([] ++ x.id))] 85 (0,0)),(ib,.cells (bv x.id) 36 (0,0)),(eb,.cells ((enc x).toArray) 62 (0,0))] ++ (Own.o 9 ((prts (es.take i)).map Value.string) ow ++ []))) (Γ' := [(35,[],.string x.t),(6,[],pT ob),(10,[],.int .i64 (i : Int)),(9,[],.int .i64 (es.length : Int)),(8,[],.slice (some ⟨sa,offa,none⟩) es.length ca),(3,[],.slice (Own.a ow) i (Own.c ow)),(0,[],.slice (some ⟨sa,offa,none⟩) es.length ca)]) ?_ kr kr (List.Perm.refl _) (Conv.mk kr)
        refine CfgA.many [0,4] kr (by decide) (fuel' := 4) kr ⟨?_,?_,trivial⟩
        ·
         refine Ie rfl  (Eff.quiet (raw := false) (orc := some (.agg #[.string (tx ([] ++ x.id))])) (v := .agg #[.string (tx ([] ++ x.id))]) (nd := (fun S => [(∀ w1,S w1 → (loadVar 85 ⟨ob,0,none⟩).run Tryz.prog w1 = .ok (.agg #[.string (tx ([] ++ x.id))]) w1)])) (fun _ => kr) ⟨(fun w1 h => h.oload 0 rfl Tryz.underlying85 rfl (n := 1) kr rfl),trivial⟩ kr) (fun _ _ => (.cons _ slr)) ?_
         rintro ⟨⟩ -
         exact CfgA.to (IH (some (),none,none,none) ⟨nofun,nofun,nofun,nofun,trivial⟩ (lt4 kr)) kr kr (.refl _) (Conv.mk kr)
        ·
         refine Ie rfl  (Eff.buildSlice (e := 9) (cells := #[.string x.t]) (parts := #[(0,.string x.t)]) rfl kr (fun _ => kr)) (fun _ _ => (.cons _ (.cons _ slr))) ?_
         rintro tb ⟨htb,ntb⟩
         exact CfgA.to (IH (none,none,some tb,none) ⟨nofun,nofun,nofun,nofun,trivial⟩ (lt4 kr)) kr kr (.refl _) (Conv.mk kr)
       ·
        exact absurd (dd5_1 rfl) (by decide)
      ·
       rcases oo5 with _ | ⟨⟩
       ·
        refine CfgA.to (l' := (bF 28 7)) (fuel' := 4) (O' := ([(tb,.cells #[.string x.t] 9 (0,0)),(ob,.cells #[.string (tx ([] ++ x.id))] 85 (0,0)),(ib,.cells (bv x.id) 36 (0,0)),(eb,.cells ((enc x).toArray) 62 (0,0))] ++ (Own.o 9 ((prts (es.take i)).map Value.string) ow ++ []))) (Γ' := [(36,[],.slice (some ⟨tb,0,none⟩) 1 1),(35,[],.string x.t),(6,[],pT ob),(10,[],.int .i64 (i : Int)),(9,[],.int .i64 (es.length : Int)),(8,[],.slice (some ⟨sa,offa,none⟩) es.length ca),(3,[],.slice (Own.a ow) i (Own.c ow)),(0,[],.slice (some ⟨sa,offa,none⟩) es.length ca)]) ?_ kr kr (List.Perm.refl _) (Conv.mk kr)
        refine CfgA.many [0] kr (by decide) (fuel' := 3) kr ⟨?_,trivial⟩
        ·
         refine Ie rfl  (Eff.quiet (raw := false) (orc := some (.agg #[.string (tx ([] ++ x.id))])) (v := .agg #[.string (tx ([] ++ x.id))]) (nd := (fun S => [(∀ w1,S w1 → (loadVar 85 ⟨ob,0,none⟩).run Tryz.prog w1 = .ok (.agg #[.string (tx ([] ++ x.id))]) w1)])) (fun _ => kr) ⟨(fun w1 h => h.oload 1 rfl Tryz.underlying85 rfl (n := 1) kr rfl),trivial⟩ kr) (fun _ _ => (.cons _ (.cons _ slr))) ?_
         rintro ⟨⟩ -
         exact CfgA.to (IH (some (),none,some tb,none) ⟨nofun,nofun,nofun,nofun,trivial⟩ (lt4 kr)) kr kr (.refl _) (Conv.mk kr)
       ·
        exact absurd (dd5_1 rfl) (by decide)
     ·
      exact absurd (dd1_0 rfl) (by decide)
    ·
     rcases oo1 with _ | ⟨⟩
     ·
      rcases oo4 with _ | tb
      ·
       rcases oo5 with _ | ⟨⟩
       ·
        refine CfgA.to (l' := (bF 13 7)) (fuel' := 4) (O' := ([(ob,.cells #[.string (tx ([] ++ x.id))] 85 (0,0)),(ib,.cells (bv x.id) 36 (0,0)),(eb,.cells ((enc x).toArray) 62 (0,0))] ++ (Own.o 9 ((prts (es.take i)).map Value.string) ow ++ []))) (Γ' := [(32,[],.agg #[.string (tx ([] ++ x.id))]),(35,[],.string x.t),(6,[],pT ob),(10,[],.int .i64 (i : Int)),(9,[],.int .i64 (es.length : Int)),(8,[],.slice (some ⟨sa,offa,none⟩) es.length ca),(3,[],.slice (Own.a ow) i (Own.c ow)),(0,[],.slice (some ⟨sa,offa,none⟩) es.length ca)]) ?_ kr kr (List.Perm.refl _) (Conv.mk kr)
        refine CfgA.many [1,4] kr (by decide) (fuel' := 3) kr ⟨?_,?_,trivial⟩
        ·
         refine Ie rfl  (Eff.callA (vs := [.agg #[.string (tx ([] ++ x.id))],.int .u8 0]) (.agg #[.string (tx (([] ++ x.id) ++ be 0 1))]) rfl Tryz.func41 rfl rfl kr (fun w1 _ => wByte (tx ([] ++ x.id)) 0 w1 (by decide) (by rw [tx_size]; (repeat rw [List.length_append]); (repeat rw [be_len]); (try rw [List.length_nil]); omega))) (fun _ _ => (.cons _ slr)) ?_
         rintro ⟨⟩ -
         exact CfgA.to (IH (some (),some (),none,none) ⟨(fun _ => rfl),nofun,nofun,nofun,trivial⟩ (lt4 kr)) kr kr (.refl _) (Conv.mk kr)
        ·
         refine Ie rfl  (Eff.buildSlice (e := 9) (cells := #[.string x.t]) (parts := #[(0,.string x.t)]) rfl kr (fun _ => kr)) (fun _ _ => (.cons _ (.cons _ slr))) ?_
         rintro tb ⟨htb,ntb⟩
         exact CfgA.to (IH (some (),none,some tb,none) ⟨nofun,nofun,nofun,nofun,trivial⟩ (lt4 kr)) kr kr (.refl _) (Conv.mk kr)
       ·
        exact absurd (dd5_1 rfl) (by decide)
      ·
       rcases oo5 with _ | ⟨⟩
       ·
        refine CfgA.to (l' := (bF 29 7)) (fuel' := 3) (O' := ([(tb,.cells #[.string x.t] 9 (0,0)),(ob,.cells #[.string (tx ([] ++ x.id))] 85 (0,0)),(ib,.cells (bv x.id) 36 (0,0)),(eb,.cells ((enc x).toArray) 62 (0,0))] ++ (Own.o 9 ((prts (es.take i)).map Value.string) ow ++ []))) (Γ' := [(32,[],.agg #[.string (tx ([] ++ x.id))]),(36,[],.slice (some ⟨tb,0,none⟩) 1 1),(35,[],.string x.t),(6,[],pT ob),(10,[],.int .i64 (i : Int)),(9,[],.int .i64 (es.length : Int)),(8,[],.slice (some ⟨sa,offa,none⟩) es.length ca),(3,[],.slice (Own.a ow) i (Own.c ow)),(0,[],.slice (some ⟨sa,offa,none⟩) es.length ca)]) ?_ kr kr (List.Perm.refl _) (Conv.mk kr)
        refine CfgA.many [1] kr (by decide) (fuel' := 2) kr ⟨?_,trivial⟩
        ·
         refine Ie rfl  (Eff.callA (vs := [.agg #[.string (tx ([] ++ x.id))],.int .u8 0]) (.agg #[.string (tx (([] ++ x.id) ++ be 0 1))]) rfl Tryz.func41 rfl rfl kr (fun w1 _ => wByte (tx ([] ++ x.id)) 0 w1 (by decide) (by rw [tx_size]; (repeat rw [List.length_append]); (repeat rw [be_len]); (try rw [List.length_nil]); omega))) (fun _ _ => (.cons _ (.cons _ slr))) ?_
         rintro ⟨⟩ -
         exact CfgA.to (IH (some (),some (),some tb,none) ⟨(fun _ => rfl),nofun,nofun,nofun,trivial⟩ (lt4 kr)) kr kr (.refl _) (Conv.mk kr)
       ·
        exact absurd (dd5_1 rfl) (by decide)
     ·
      rcases oo4 with _ | tb
      ·
       rcases oo5 with _ | ⟨⟩
       ·
        refine CfgA.to (l' := (tF 4 3)) (fuel' := 3) (O' := ([(ob,.cells #[.string (tx ([] ++ x.id))] 85 (0,0)),(ib,.cells (bv x.id) 36 (0,0)),(eb,.cells ((enc x).toArray) 62 (0,0))] ++ (Own.o 9 ((prts (es.take i)).map Value.string) ow ++ []))) (Γ' := [(32,[],.agg #[.string (tx ([] ++ x.id))]),(33,[],.agg #[.string (tx (([] ++ x.id) ++ be 0 1))]),(35,[],.string x.t),(6,[],pT ob),(10,[],.int .i64 (i : Int)),(9,[],.int .i64 (es.length : Int)),(8,[],.slice (some ⟨sa,offa,none⟩) es.length ca),(3,[],.slice (Own.a ow) i (Own.c ow)),(0,[],.slice (some ⟨sa,offa,none⟩) es.length ca)]) ?_ kr kr (List.Perm.refl _) (Conv.mk kr)
        refine CfgA.many [4] kr (by decide) (fuel' := 2) kr ⟨?_,trivial⟩
        ·
         refine Ie rfl  (Eff.buildSlice (e := 9) (cells := #[.string x.t]) (parts := #[(0,.string x.t)]) rfl kr (fun _ => kr)) (fun _ _ => (.cons _ (.cons _ slr))) ?_
         rintro tb ⟨htb,ntb⟩
         exact CfgA.to (IH (some (),some (),some tb,none) ⟨(fun _ => rfl),nofun,nofun,nofun,trivial⟩ (lt4 kr)) kr kr (.refl _) (Conv.mk kr)
       ·
        exact absurd (dd5_4 rfl) (by decide)
      ·
       rcases oo5 with _ | ⟨⟩
       ·
        refine CfgA.to (l' := tF 5 2) (fuel' := 2) (O' := ([(tb,.cells #[.string x.t] 9 (0,0)),(ob,.cells #[.string (tx ([] ++ x.id))] 85 (0,0)),(ib,.cells (bv x.id) 36 (0,0)),(eb,.cells ((enc x).toArray) 62 (0,0))] ++ (Own.o 9 ((prts (es.take i)).map Value.string) ow ++ []))) (Γ' := [(32,[],.agg #[.string (tx ([] ++ x.id))]),(33,[],.agg #[.string (tx (([] ++ x.id) ++ be 0 1))]),(36,[],.slice (some ⟨tb,0,none⟩) 1 1),(35,[],.string x.t),(6,[],pT ob),(10,[],.int .i64 (i : Int)),(9,[],.int .i64 (es.length : Int)),(8,[],.slice (some ⟨sa,offa,none⟩) es.length ca),(3,[],.slice (Own.a ow) i (Own.c ow)),(0,[],.slice (some ⟨sa,offa,none⟩) es.length ca)]) ?_ kr kr (List.Perm.refl _) (Conv.mk kr)
        refine CfgA.many [5] kr (by decide) (fuel' := 1) kr ⟨?_,trivial⟩
        ·
         refine Ie rfl  (Eff.callA (vs := [.agg #[.string (tx (([] ++ x.id) ++ be 0 1))],.slice (some ⟨tb,0,none⟩) 1 1]) (.agg #[.string (tx ((([] ++ x.id) ++ be 0 1) ++ text4 x.t))]) rfl Tryz.func42 rfl rfl kr (fun w1 h => wText1 (([] ++ x.id) ++ be 0 1) x.t tb 9 w1 (by (repeat rw [List.length_append]); (repeat rw [be_len]); (try rw [List.length_nil]); omega) (h.has (fun e he => by rw [List.mem_singleton.1 he]; exact (show _ ∈ (([(tb,Obj.cells #[.string x.t] 9 (0,0)),(ob,Obj.cells #[.string (tx ([] ++ x.id))] 85 (0,0)),(ib,Obj.cells (bv x.id) 36 (0,0)),(eb,Obj.cells ((enc x).toArray) 62 (0,0))] ++ (Own.o 9 ((prts (es.take i)).map Value.string) ow ++ [])) : LO) from (mL mH)))))) (fun _ _ => (.cons _ (.cons _ slr))) ?_
         rintro ⟨⟩ -
         exact CfgA.to (IH (some (),some (),some tb,some ()) ⟨(fun _ => rfl),(fun _ => rfl),(fun _ => rfl),(fun _ => rfl),trivial⟩ (lt4 kr)) kr kr (.refl _) (Conv.mk kr)
       ·
        refine CfgA.to (l' := tF 6 1) (fuel' := 1) (O' := ([(tb,.cells #[.string x.t] 9 (0,0)),(ob,.cells #[.string (tx ([] ++ x.id))] 85 (0,0)),(ib,.cells (bv x.id) 36 (0,0)),(eb,.cells ((enc x).toArray) 62 (0,0))] ++ (Own.o 9 ((prts (es.take i)).map Value.string) ow ++ []))) (Γ' := [(32,[],.agg #[.string (tx ([] ++ x.id))]),(33,[],.agg #[.string (tx (([] ++ x.id) ++ be 0 1))]),(36,[],.slice (some ⟨tb,0,none⟩) 1 1),(37,[],.agg #[.string (tx ((([] ++ x.id) ++ be 0 1) ++ text4 x.t))]),(35,[],.string x.t),(6,[],pT ob),(10,[],.int .i64 (i : Int)),(9,[],.int .i64 (es.length : Int)),(8,[],.slice (some ⟨sa,offa,none⟩) es.length ca),(3,[],.slice (Own.a ow) i (Own.c ow)),(0,[],.slice (some ⟨sa,offa,none⟩) es.length ca)]) ?_ kr kr (List.Perm.refl _) (Conv.mk kr)
        refine Ae 6 rfl 0  (Eff.storeN (b := ob) (off := 0) (vs := #[.string (tx ((([] ++ x.id) ++ be 0 1) ++ text4 x.t))]) (n := 1) rfl kr kr kr rfl (fun q hq => by rw [List.mem_singleton.1 hq]; rfl) 1 (cs := #[.string (tx ([] ++ x.id))]) (e := 85) kr (by simp)) (fun _ _ => (.cons _ (.cons _ slr))) ?_
        rintro ⟨⟩ -
        refine CfgA.setO (congrArg (fun (xq : Array Value) => (([(tb,.cells #[.string x.t] 9 (0,0)),(ob,.cells xq 85 (0,0)),(ib,.cells (bv x.id) 36 (0,0)),(eb,.cells ((enc x).toArray) 62 (0,0))] ++ (Own.o 9 ((prts (es.take i)).map Value.string) ow ++ [])) : LO)) (show _ = #[.string (tx ((([] ++ x.id) ++ be 0 1) ++ text4 x.t))] from rfl)) ?_
        refine CfgA.done kr ?_
        refine Cg (Γ' := [(6,[],pT ob),(10,[],.int .i64 (i : Int)),(9,[],.int .i64 (es.length : Int)),(8,[],.slice (some ⟨sa,offa,none⟩) es.length ca),(3,[],.slice (Own.a ow) i (Own.c ow)),(0,[],.slice (some ⟨sa,offa,none⟩) es.length ca)]) ?_
        have hpt := part_w (e := x) om
        refine Cfg.setO (congrArg (fun (xq : Array Value) => (([(tb,.cells #[.string x.t] 9 (0,0)),(ob,.cells xq 85 (0,0)),(ib,.cells (bv x.id) 36 (0,0)),(eb,.cells ((enc x).toArray) 62 (0,0))] ++ (Own.o 9 ((prts (es.take i)).map Value.string) ow ++ [])) : LO)) (show _ = #[.string (tx (partE x))] from by rw [← hpt])) ?_
        refine Cfg.begL rfl ?_
        refine Lp 2 [dZ,(dS (.agg #[.string (tx (partE x))]))] (some [0,3,8,9,10,38,39]) (fun S => [(∀ w1,S w1 → (loadVar 85 ⟨ob,0,none⟩).run Tryz.prog w1 = .ok (.agg #[.string (tx (partE x))]) w1)]) ⟨(fun w1 h => h.oload 1 rfl Tryz.underlying85 rfl (n := 1) kr rfl),trivial⟩ ?_
        refine Le (Eff.callA (vs := [.agg #[.string (tx (partE x))]]) (.string (tx (partE x))) rfl Tryz.func43 rfl rfl kr (fun w1 _ => wString (tx (partE x)) w1)) ?_
        rintro ⟨⟩ -
        refine Le (Eff.buildSlice (e := 9) (cells := #[.string (tx (partE x))]) (parts := #[(0,.string (tx (partE x)))]) rfl kr (fun _ => kr)) ?_
        rintro sb2 ⟨hsb2,nsb2⟩
        refine Le (Eff.appendF rfl 1 16 Tryz.underlying22 kr (z := (.string ByteArray.empty)) kr kr ow (xs := ((prts (es.take i)).map Value.string)) hok kr (b2 := sb2) (off2 := 0) (m := 1) (c2 := 1) kr ([Value.string (tx (partE x))]) rfl (fun q hq => by rw [List.mem_singleton.1 hq]; rfl) [(sb2,.cells #[.string (tx (partE x))] 9 (0,0)),(tb,.cells #[.string x.t] 9 (0,0)),(ob,.cells #[.string (tx (partE x))] 85 (0,0)),(ib,.cells (bv x.id) 36 (0,0)),(eb,.cells ((enc x).toArray) 62 (0,0))] [] (by rfl) (fun w1 h j v hj => by rw [Nat.zero_add]; exact h.ocell 0 rfl (by rw [← Array.getElem?_toList]; exact hj)) om om) ?_
        rintro o7 ko7
        refine Lp 1 [] (some [0,3,8,9,10]) n0 trivial ?_
        refine CfgL.done rfl ?_
        refine Rg [0,3,8,9,10] [] (fun _ => [(i6 ((i : Int) + 1))]) ⟨om,trivial⟩ ?_
        have hpp : prts (es.take (i + 1)) = (prts (es.take i)) ++ [tx (partE x)] := by rw [prts_take om,← hx]
        refine Cfg.setO (congrArg (fun (xq : List Value) => (([(sb2,.cells #[.string (tx (partE x))] 9 (0,0)),(tb,.cells #[.string x.t] 9 (0,0)),(ob,.cells #[.string (tx (partE x))] 85 (0,0)),(ib,.cells (bv x.id) 36 (0,0)),(eb,.cells ((enc x).toArray) 62 (0,0))] ++ (Own.o 9 xq o7 ++ [])) : LO)) (show _ = ((prts (es.take (i + 1))).map Value.string) from by rw [hpp,List.map_append]; rfl)) ?_
        refine Cfg.again rfl (i + 1,o7) ⟨by omega,by rw [hpp,List.map_append]; exact ko7⟩ (by show es.length - (i + 1) < es.length - i; omega) (Conv.mk kr) (.cons _ (.cons _ (.cons _ (.cons _ (.cons _ slr)))))
  ·have c1 := (dF c1r)
   have hie : i = es.length := by omega
   have hpe : prts (es.take i) = prts es := by rw [hie,List.take_length]
   have hok : OwnOk ow 1 es.length ((prts es).map Value.string) := by rw [hpe,hie] at hok; exact hok
   refine Cfg.setS 3 (congrArg (fun (xq : Nat) => (.slice (Own.a ow) xq (Own.c ow) : Value)) (show i = es.length from by rw [hie])) ?_
   refine Cfg.setO (congrArg (fun (xq : List Value) => (([] ++ (Own.o 9 xq ow ++ [])) : LO)) (show _ = ((prts es).map Value.string) from by rw [hpe])) ?_
   refine Cfg.begL rfl ?_
   refine Lp 1 [(dS (.agg #[.string (tx [])]))] (some [0,3,44]) (fun S => [(∀ w1,S w1 → (Instr.build 85 #[]).run Tryz.prog w1 = .ok (.agg #[.string (tx [])]) w1)]) ⟨(fun w1 _ => kr),trivial⟩ ?_
   refine Le (Eff.buildSlice (e := 9) (cells := #[.string ⟨#[80,65,67,75]⟩]) (parts := #[(0,.string ⟨#[80,65,67,75]⟩)]) rfl kr (fun _ => kr)) ?_
   rintro mb ⟨hmb,nmb⟩
   refine Le (Eff.callA (vs := [.agg #[.string (tx [])],.slice (some ⟨mb,0,none⟩) 1 1]) (.agg #[.string (tx ([] ++ cat [⟨#[80,65,67,75]⟩]))]) rfl Tryz.func44 rfl rfl kr (fun w1 h => wRaw (tx []) (some ⟨mb,0,none⟩) 1 [⟨#[80,65,67,75]⟩] [(mb,.cells #[.string ⟨#[80,65,67,75]⟩] 9 (0,0))] w1 (inS_text mb 9 (0,0) ⟨#[80,65,67,75]⟩) (h.has (fun e he => by rw [List.mem_singleton.1 he]; exact (show _ ∈ (([(mb,Obj.cells #[.string ⟨#[80,65,67,75]⟩] 9 (0,0))] ++ (Own.o 9 ((prts es).map Value.string) ow ++ [])) : LO) from (mL mH)))) (by unfold maxLen; decide) (by decide))) ?_
   rintro ⟨⟩ -
   refine Lp 3 [] (some [3,46,49]) n0 trivial ?_
   refine Le (Eff.buildSlice (e := 69) (cells := #[.int .u32 ((es.length : Int) % 4294967296)]) (parts := #[(0,.int .u32 ((es.length : Int) % 4294967296))]) rfl kr (fun _ => kr)) ?_
   rintro nb ⟨hnb,nnb⟩
   refine Le (Eff.callA (vs := [.agg #[.string (tx ([] ++ cat [⟨#[80,65,67,75]⟩]))],.slice (some ⟨nb,0,none⟩) 1 1]) (.agg #[.string (tx (([] ++ cat [⟨#[80,65,67,75]⟩]) ++ four es.length))]) rfl Tryz.func45 rfl rfl kr (fun w1 h => wFour1 ([] ++ cat [⟨#[80,65,67,75]⟩]) es.length nb 69 w1 om (by decide) (by have hq := h.own (nb,Obj.cells #[.int .u32 ((es.length : Int) % 4294967296)] 69 (0,0)) (show _ ∈ (([(nb,Obj.cells #[.int .u32 ((es.length : Int) % 4294967296)] 69 (0,0)),(mb,Obj.cells #[.string ⟨#[80,65,67,75]⟩] 9 (0,0))] ++ (Own.o 9 ((prts es).map Value.string) ow ++ [])) : LO) from (mL mH)); rw [hmod] at hq; intro e he; rw [List.mem_singleton.1 he]; exact hq))) ?_
   rintro ⟨⟩ -
   refine Lp 1 [] (some [51,52]) n0 trivial ?_
   refine Le (Eff.callA (vs := [.agg #[.string (tx (([] ++ cat [⟨#[80,65,67,75]⟩]) ++ four es.length))],.slice (Own.a ow) es.length (Own.c ow)]) (.agg #[.string (tx ((([] ++ cat [⟨#[80,65,67,75]⟩]) ++ four es.length) ++ cat (prts es)))]) rfl Tryz.func44 rfl rfl kr (fun w1 h => by have h9 := wRaw (tx (([] ++ cat [⟨#[80,65,67,75]⟩]) ++ four es.length)) (Own.a ow) (Own.c ow) (prts es) (Own.o 9 ((prts es).map Value.string) ow) w1 (own_ins (by rw [prts_len]; exact hok) (fun j hj => by simp [sat,List.getElem?_eq_getElem hj])) (h.has (fun e he => (show _ ∈ (([(nb,Obj.cells #[.int .u32 ((es.length : Int) % 4294967296)] 69 (0,0)),(mb,Obj.cells #[.string ⟨#[80,65,67,75]⟩] 9 (0,0))] ++ (Own.o 9 ((prts es).map Value.string) ow ++ [])) : LO) from (mR (mL he))))) (by rw [prts_len]; unfold maxLen; omega) (by have h8 := congrArg List.length (body_eq es); rw [List.length_append] at h8; rw [tx_size]; omega); rw [prts_len] at h9; exact h9)) ?_
   rintro ⟨⟩ -
   refine Le (Eff.alloc (z := (.agg #[.string ByteArray.empty])) rfl kr) ?_
   rintro o2 ⟨ho2,no2⟩
   refine Le (Eff.storeN (b := o2) (off := 0) (vs := #[.string (tx ((([] ++ cat [⟨#[80,65,67,75]⟩]) ++ four es.length) ++ cat (prts es)))]) (n := 1) rfl kr kr kr rfl (fun q hq => by rw [List.mem_singleton.1 hq]; rfl) 0 (cs := #[.string ByteArray.empty]) (e := 85) kr (by simp)) ?_
   rintro ⟨⟩ -
   refine CfgL.setO (congrArg (fun (xq : Array Value) => (([(o2,.cells xq 85 (0,0)),(nb,.cells #[.int .u32 ((es.length : Int) % 4294967296)] 69 (0,0)),(mb,.cells #[.string ⟨#[80,65,67,75]⟩] 9 (0,0))] ++ (Own.o 9 ((prts es).map Value.string) ow ++ [])) : LO)) (show _ = #[.string (tx ((([] ++ cat [⟨#[80,65,67,75]⟩]) ++ four es.length) ++ cat (prts es)))] from rfl)) ?_
   refine CfgL.done rfl ?_
   refine Cg (Γ' := [(7,[],pT o2)]) ?_
   refine Cfg.setO (congrArg (fun (xq : Array Value) => (([(o2,.cells xq 85 (0,0)),(nb,.cells #[.int .u32 ((es.length : Int) % 4294967296)] 69 (0,0)),(mb,.cells #[.string ⟨#[80,65,67,75]⟩] 9 (0,0))] ++ (Own.o 9 ((prts es).map Value.string) ow ++ [])) : LO)) (show _ = #[.string (tx (bodyF es))] from by rw [← body_eq])) ?_
   refine Cfg.begA rfl kr ([(o2,.cells #[.string (tx (bodyF es))] 85 (0,0)),(nb,.cells #[.int .u32 ((es.length : Int) % 4294967296)] 69 (0,0)),(mb,.cells #[.string ⟨#[80,65,67,75]⟩] 9 (0,0))] ++ (Own.o 9 ((prts es).map Value.string) ow ++ [])) ?_
   refine Ap [0,1] [(dS (.agg #[.string (tx (bodyF es))])),(dS (.agg #[.string (tx (bodyF es))]))] (some [54,55]) (tF 2 7) slr 7 (fun S => [(∀ w1,S w1 → (loadVar 85 ⟨o2,0,none⟩).run Tryz.prog w1 = .ok (.agg #[.string (tx (bodyF es))]) w1),(∀ w1,S w1 → (loadVar 85 ⟨o2,0,none⟩).run Tryz.prog w1 = .ok (.agg #[.string (tx (bodyF es))]) w1)]) ⟨(fun w1 h => h.oload 0 rfl Tryz.underlying85 rfl (n := 1) kr rfl),(fun w1 h => h.oload 0 rfl Tryz.underlying85 rfl (n := 1) kr rfl),trivial⟩ ?_
   refine Ae 2 rfl 6  (Eff.callA (vs := [.agg #[.string (tx (bodyF es))]]) (.string (tx (bodyF es))) rfl Tryz.func43 rfl rfl kr (fun w1 _ => wString (tx (bodyF es)) w1)) (fun _ _ => slr) ?_
   rintro ⟨⟩ -
   refine Ae 3 rfl 5  (Eff.buildSlice (e := 9) (cells := #[.string (tx (bodyF es))]) (parts := #[(0,.string (tx (bodyF es)))]) rfl kr (fun _ => kr)) (fun _ _ => (.cons _ slr)) ?_
   rintro sb3 ⟨hsb3,nsb3⟩
   refine Ae 4 rfl 4  (Eff.callA (vs := [.slice (some ⟨sb3,0,none⟩) 1 1]) (.agg (bv (sdg (tx (bodyF es))))) rfl Tryz.func23 rfl rfl kr (fun w1 h => sum1 hK (tx (bodyF es)) sb3 1 w1 (h.ro (0,_) mH) (h.own (sb3,_) (show _ ∈ (([(sb3,Obj.cells #[.string (tx (bodyF es))] 9 (0,0)),(o2,Obj.cells #[.string (tx (bodyF es))] 85 (0,0)),(nb,Obj.cells #[.int .u32 ((es.length : Int) % 4294967296)] 69 (0,0)),(mb,Obj.cells #[.string ⟨#[80,65,67,75]⟩] 9 (0,0))] ++ (Own.o 9 ((prts es).map Value.string) ow ++ [])) : LO) from (mL mH))))) (fun _ _ => (.cons _ slr)) ?_
   rintro ⟨⟩ -
   refine Ae 5 rfl 3  (Eff.buildAgg (vs := (bv (sdg (tx (bodyF es))))) (n := 32) rfl kr Tryz.underlying57 kr (z := (.agg (bv (List.replicate 32 0)))) kr ((bv_size _).trans (sdg_len (tx (bodyF es)))) (by decide) (by decide)) (fun _ _ => (.cons _ (.cons _ slr))) ?_
   rintro ib2 ⟨hib2,nib2⟩
   refine Ae 6 rfl 2  (Eff.callA (vs := [.agg #[.string (tx (bodyF es))],.slice (some ⟨ib2,0,none⟩) 1 1]) (.agg #[.string (tx (fileF es))]) rfl Tryz.func40 rfl rfl kr (fun w1 h => wDigest1 (bodyF es) (sdg (tx (bodyF es))) ib2 36 w1 (sdg_len _) om (h.has (fun e he => by rw [List.mem_singleton.1 he]; exact (show _ ∈ (([(ib2,Obj.cells (bv (sdg (tx (bodyF es)))) 36 (0,0)),(sb3,Obj.cells #[.string (tx (bodyF es))] 9 (0,0)),(o2,Obj.cells #[.string (tx (bodyF es))] 85 (0,0)),(nb,Obj.cells #[.int .u32 ((es.length : Int) % 4294967296)] 69 (0,0)),(mb,Obj.cells #[.string ⟨#[80,65,67,75]⟩] 9 (0,0))] ++ (Own.o 9 ((prts es).map Value.string) ow ++ [])) : LO) from (mL mH)))))) (fun _ _ => (.cons _ (.cons _ slr))) ?_
   rintro ⟨⟩ -
   refine Ae 7 rfl 1  (Eff.callA (vs := [.agg #[.string (tx (fileF es))]]) (.string (tx (fileF es))) rfl Tryz.func43 rfl rfl kr (fun w1 _ => wString (tx (fileF es)) w1)) (fun _ _ => (.cons _ (.cons _ slr))) ?_
   rintro ⟨⟩ -
   refine Ap [8] [] (some [2]) (tF 9 0) (.cons _ (.cons _ slr)) 0 n0 trivial ?_
   refine CfgA.done kr ?_
   refine Cfg.ret rfl (rs := [.tmp 2]) rfl [.string (tx (fileF es))] ⟨kr,trivial⟩ (fun w1 hp => ?_)
   exact ⟨rfl,hp.ext⟩
set_option maxRecDepth 100000 in
set_option maxHeartbeats 8000000 in
theorem pkBuild (la : Option Addr) (ca : Nat) (ls : List ByteArray) (Rl : List (Nat × Obj)) {kt : Array Value} {tt0 : TypeId} {fr0 : Nat × Nat} (w : World) (hK : KT kt) (hI : InS Rl la ls.length (fun j => .string (ls.getD j ByteArray.empty))) (hR : Has w ((0,Obj.cells kt tt0 fr0) :: Rl)) (hn : ls.length ≤ 1000000) (hsz : ∀ s ∈ ls,s.size ≤ 32768) :
  Calls Tryz.prog 7 #[.slice la ls.length ca] w fun e w' => e = .returned (.string (tx (fileF (planF ls)))) ∧ Ext [] w w' := by
 refine enter (vs := [.slice la ls.length ca]) [] ((0,Obj.cells kt tt0 fr0) :: Rl) [] Tryz.func7 rfl kr (HP.ofHas hR) ?_
 refine Rg [0] [] n0 trivial ?_
 refine Cfg.begL rfl ?_
 refine Lp 1 [] (some [3]) n0 trivial ?_
 refine Le (Eff.callH (vs := [.slice la ls.length ca]) (fun ow : K.Own => .slice (Own.a ow) (planF ls).length (Own.c ow)) [] (fun ow => Own.o 62 ((planF ls).flatMap enc) ow) (fun ow => OwnOk ow 67 (planF ls).length ((planF ls).flatMap enc)) [] [] rfl rfl Tryz.func18 rfl rfl kr (fun w1 h _ _ => (pkPlan la ca ls Rl w1 hK hI (h.hasR (fun e he => he)) hn (fun s hs => Nat.le_trans (hsz s hs) (by decide))).mono fun _ _ ⟨ow,a1,a2,a3⟩ => ⟨ow,a1,a2,a3⟩)) ?_
 rintro ow hok
 have hok : OwnOk ow 67 (planF ls).length ((planF ls).flatMap enc) := hok
 have hpn := planF_len ls
 refine Le (Eff.callA (vs := [.slice (Own.a ow) ((planF ls).length) (Own.c ow)]) (.string (tx (fileF (planF ls)))) rfl Tryz.func17 rfl rfl kr (fun w1 h => pkLay (Own.a ow) (Own.c ow) (planF ls) ([] ++ (Own.o 62 ((planF ls).flatMap enc) ow ++ [])) w1 hK ((own_inf hok).mono (fun e he => (show _ ∈ (([] ++ (Own.o 62 ((planF ls).flatMap enc) ow ++ [])) : LO) from (mR (mL he))))) (planF_ok hsz) (has_cons (h.ro _ mH) (fun e he => h.own e he)) om)) ?_
 rintro ⟨⟩ -
 refine Lp 1 [] (some [2]) n0 trivial ?_
 refine CfgL.done rfl ?_
 refine Cfg.ret rfl (rs := [.tmp 2]) rfl [.string (tx (fileF (planF ls)))] ⟨kr,trivial⟩ (fun w1 hp => ?_)
 exact ⟨rfl,hp.ext⟩
end Go.Proofs.YtbeegepcdglcaaaGreatDoor
