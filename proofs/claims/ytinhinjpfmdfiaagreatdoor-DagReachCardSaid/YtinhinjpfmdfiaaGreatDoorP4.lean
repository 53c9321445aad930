/- Texts on which the proof of this claim stands: KD, Dg2, Bld, Wire1, Wire2, Wire3, Wire4, Sha6, ShaM. -/
import Derived.Test.YtinhinjpfmdfiaaGreatDoorP1
import Derived.Below
import Derived.Deep.LoopGhost
import Derived.Sort.LoopGhostIn
import Derived.RangeFuncIn
import Derived.OrdersIn
import Derived.TacticsIn
import Derived.RangeFuncLeaves
import Derived.Test.YtinhinjpfmdfiaaGreatDoorP2
import Derived.Test.YtinhinjpfmdfiaaGreatDoorRows
namespace Go.Proofs.YtinhinjpfmdfiaaGreatDoor
namespace KD
open K
structure Ext (M : List Nat) (w w' : World) : Prop where
 os : w'.os = w.os
 tape : w'.tape = w.tape
 output : w'.output = w.output
 size : w.heap.size ≤ w'.heap.size
 block : ∀ k,k < w.heap.size → k ∉ M → w'.heap[k]? = w.heap[k]?
 drw : w.drawn ≤ w'.drawn
theorem Ext.refl (M : List Nat) (w : World) : Ext M w w := ⟨rfl,rfl,rfl,Nat.le_refl _,fun _ _ _ => rfl,Nat.le_refl _⟩
theorem Ext.trans {M M' : List Nat} {w w1 w2 : World} (h : Ext M w w1) (h' : Ext M' w1 w2) (hM : ∀ k ∈ M',k < w.heap.size → k ∈ M) : Ext M w w2 :=
 ⟨h'.os.trans h.os,h'.tape.trans h.tape,h'.output.trans h.output,Nat.le_trans h.size h'.size,fun k hk hn =>
  (h'.block k (Nat.lt_of_lt_of_le hk h.size) (fun hm => hn (hM k hm hk))).trans (h.block k hk hn),Nat.le_trans h.drw h'.drw⟩
theorem Ext.mono {M M' : List Nat} {w w' : World} (h : Ext M w w') (hM : ∀ k ∈ M,k ∈ M') : Ext M' w w' :=
 ⟨h.os,h.tape,h.output,h.size,fun k hk hn => h.block k hk (fun hm => hn (hM k hm)),h.drw⟩
theorem Ext.nil {M : List Nat} {w w' : World} (h : Ext [] w w') : Ext M w w' := h.mono (fun _ hk => by cases hk)
theorem Ext.below {w w' : World} (h : Ext [] w w') : RowKit.Below w.heap.size w w' := ⟨h.os,h.tape,h.output,h.size,fun k hk => h.block k hk (by simp)⟩
structure HP (w0 : World) (M : List Nat) (R O : List (Nat × Obj)) (w : World) : Prop where
 ext : Ext M w0 w
 ro : ∀ e ∈ R,w.heap[e.1]? = some e.2
 rod : ∀ e ∈ R,e.1 < w0.heap.size ∧ e.1 ∉ M
 own : ∀ e ∈ O,w.heap[e.1]? = some e.2
 dist : (O.map (·.1)).Nodup
 mine : ∀ e ∈ O,w0.heap.size ≤ e.1 ∨ e.1 ∈ M
section
variable {w0 w w' : World} {M : List Nat} {R O : List (Nat × Obj)}
theorem lt_of_get {b : Nat} {o : Obj} (h : w.heap[b]? = some o) : b < w.heap.size := by
 rcases Nat.lt_or_ge b w.heap.size with hh | hh
 ·exact hh
 ·rw [Array.getElem?_eq_none hh] at h; cases h
theorem HP.call (h : HP w0 M R O w) {M' : List Nat} (hx : Ext M' w w') (O' : List (Nat × Obj)) (hO : O'.Sublist O) (hM : ∀ k ∈ M',k ∈ O.map (·.1)) (hd : ∀ e ∈ O',e.1 ∉ M') : HP w0 M R O' w' := by
 have hM0 : ∀ k ∈ M',k < w0.heap.size → k ∈ M := by
  intro k hk hlt
  obtain ⟨e,he,rfl⟩ := List.mem_map.1 (hM k hk)
  rcases h.mine e he with h1 | h1
  ·omega
  ·exact h1
 refine ⟨h.ext.trans hx hM0,fun e he => ?_,h.rod,fun e he => ?_,?_,fun e he => h.mine e (hO.subset he)⟩
 ·have hr := h.ro e he
  rw [hx.block e.1 (lt_of_get hr) (fun hm => (h.rod e he).2 (hM0 _ hm (h.rod e he).1))]; exact hr
 ·have ho := h.own e (hO.subset he)
  rw [hx.block e.1 (lt_of_get ho) (hd e he)]; exact ho
 ·exact h.dist.sublist (hO.map _)
theorem HP.calm (h : HP w0 M R O w) (hx : Ext [] w w') : HP w0 M R O w' := h.call hx O (List.Sublist.refl _) (fun _ hk => by cases hk) (fun _ _ => by simp)
theorem HP.add (h : HP w0 M R O w) {b : Nat} {o : Obj} (hb : w.heap[b]? = some o) (hn : b ∉ O.map (·.1)) (hm : w0.heap.size ≤ b ∨ b ∈ M) : HP w0 M R ((b,o) :: O) w :=
 ⟨h.ext,h.ro,h.rod,fun e he => by
  rcases List.mem_cons.1 he with rfl | he
  ·exact hb
  ·exact h.own e he,by simp only [List.map_cons]; exact List.nodup_cons.2 ⟨hn,h.dist⟩,fun e he => by
  rcases List.mem_cons.1 he with rfl | he
  ·exact hm
  ·exact h.mine e he⟩
theorem HP.fresh (h : HP w0 M R O w) {b : Nat} (hb : w.heap.size ≤ b) : b ∉ O.map (·.1) := by
 intro hm
 obtain ⟨e,he,rfl⟩ := List.mem_map.1 hm
 have := lt_of_get (h.own e he)
 omega
theorem HP.sub (h : HP w0 M R O w) {O' : List (Nat × Obj)} (hO : O'.Sublist O) : HP w0 M R O' w :=
 ⟨h.ext,h.ro,h.rod,fun e he => h.own e (hO.subset he),h.dist.sublist (hO.map _),fun e he => h.mine e (hO.subset he)⟩
theorem ext_drew (w : World) : Ext [] w { w with drawn := w.drawn + 1 } := ⟨rfl,rfl,rfl,Nat.le_refl _,fun _ _ _ => rfl,Nat.le_succ _⟩
theorem ext_alloc (w : World) (o : Obj) : Ext [] w (w.alloc o) :=
 ⟨rfl,rfl,rfl,by show w.heap.size ≤ (w.heap.push o).size; simp,fun k hk _ => by
  show (w.heap.push o)[k]? = w.heap[k]?
  rw [Array.getElem?_push,if_neg om],Nat.le_refl _⟩
theorem get_alloc (w : World) (o : Obj) : (w.alloc o).heap[w.heap.size]? = some o := by
 show (w.heap.push o)[w.heap.size]? = some o
 simp
theorem HP.drew (h : HP w0 M R O w) : HP w0 M R O { w with drawn := w.drawn + 1 } := h.calm (ext_drew w)
theorem HP.alloc (h : HP w0 M R O w) (o : Obj) : HP w0 M R ((w.heap.size,o) :: O) (w.alloc o) :=
 (h.calm (ext_alloc w o)).add (get_alloc w o) (h.fresh (Nat.le_refl _)) (.inl h.ext.size)
theorem nodup_inj {l : List Nat} (h : l.Nodup) {i j x : Nat} (hi : l[i]? = some x) (hj : l[j]? = some x) : i = j := by
 induction l generalizing i j with
 | nil => simp at hi
 | cons y l ih =>
  obtain ⟨h1,h2⟩ := List.nodup_cons.1 h
  cases i with
  | zero =>
   cases j with
   | zero => rfl
   | succ j => simp at hi hj; subst hi; exact absurd (List.mem_of_getElem? hj) h1
  | succ i =>
   cases j with
   | zero => simp at hi hj; subst hj; exact absurd (List.mem_of_getElem? hi) h1
   | succ j => simp at hi hj; rw [ih h2 hi hj]
theorem HP.set (h : HP w0 M R O w) (i : Nat) {b : Nat} {o : Obj} (o' : Obj) (hi : O[i]? = some (b,o)) (hw : w'.heap = w.heap.setIfInBounds b o') (h1 : w'.os = w.os) (h2 : w'.tape = w.tape) (h3 : w'.output = w.output) (h4 : w.drawn ≤ w'.drawn := by exact Nat.le_refl _) :
  HP w0 M R (O.set i (b,o')) w' := by
 have hmem : (b,o) ∈ O := List.mem_of_getElem? hi
 have hlt : i < O.length := (List.getElem?_eq_some_iff.1 hi).1
 have hbl := lt_of_get (h.own _ hmem)
 have hother : ∀ e ∈ O.set i (b,o'),e = (b,o') ∨ (e ∈ O ∧ e.1 ≠ b) := by
  intro e he
  obtain ⟨j,hj⟩ := List.mem_iff_getElem?.1 he
  rw [List.getElem?_set] at hj
  by_cases hij : i = j
  ·subst hij
   simp [hlt] at hj
   exact .inl hj.symm
  ·rw [if_neg hij] at hj
   refine .inr ⟨List.mem_of_getElem? hj,fun hb => hij ?_⟩
   have e1 : (O.map (·.1))[i]? = some b := by simp [hi]
   have e2 : (O.map (·.1))[j]? = some b := by simp [hj,hb]
   exact nodup_inj h.dist e1 e2
 have hmap : (O.set i (b,o')).map (·.1) = O.map (·.1) := by
  rw [List.map_set]
  apply List.ext_getElem?
  intro j
  rw [List.getElem?_set]
  by_cases hij : i = j
  ·subst hij; simp [hlt]; have := (List.getElem?_eq_some_iff.1 hi).2; rw [this]
  ·rw [if_neg hij]
 have hget : ∀ k,k ≠ b → w'.heap[k]? = w.heap[k]? := fun k hk => by rw [hw]; simp [Ne.symm hk]
 refine ⟨⟨h1.trans h.ext.os,h2.trans h.ext.tape,h3.trans h.ext.output,by rw [hw]; simpa using h.ext.size,fun k hk hn => ?_,Nat.le_trans h.ext.drw h4⟩,fun e he => ?_,h.rod,fun e he => ?_,by rw [hmap]; exact h.dist,fun e he => ?_⟩
 ·have hkb : k ≠ b := by
   rintro rfl
   rcases h.mine _ hmem with hh | hh
   ·simp only at hh; omega
   ·exact hn hh
  rw [hget k hkb]; exact h.ext.block k hk hn
 ·have hkb : e.1 ≠ b := by
   intro hb
   rcases h.mine _ hmem with hh | hh
   ·have := (h.rod e he).1; simp only at hh; omega
   ·exact (h.rod e he).2 (hb ▸ hh)
  rw [hget _ hkb]; exact h.ro e he
 ·rcases hother e he with rfl | ⟨he',hne⟩
  ·simp [hw,hbl]
  ·rw [hget _ hne]; exact h.own e he'
 ·rcases hother e he with rfl | ⟨he',_⟩
  ·exact h.mine (b,o) hmem
  ·exact h.mine e he'
theorem cell_cells {b off : Nat} {cs : Array Value} {t : TypeId} {fr : Nat × Nat} (h : w.heap[b]? = some (.cells cs t fr)) : w.cell? ⟨b,off,none⟩ = cs[off]? := by
 simp [World.cell?,h]
theorem HP.rcell (h : HP w0 M R O w) (i : Nat) {b off : Nat} {cs : Array Value} {t : TypeId} {fr : Nat × Nat} {v : Value} (hi : R[i]? = some (b,.cells cs t fr)) (hv : cs[off]? = some v) : w.cell? ⟨b,off,none⟩ = some v := by
 rw [cell_cells (h.ro _ (List.mem_of_getElem? hi))]; exact hv
theorem HP.ocell (h : HP w0 M R O w) (i : Nat) {b off : Nat} {cs : Array Value} {t : TypeId} {fr : Nat × Nat} {v : Value} (hi : O[i]? = some (b,.cells cs t fr)) (hv : cs[off]? = some v) : w.cell? ⟨b,off,none⟩ = some v := by
 rw [cell_cells (h.own _ (List.mem_of_getElem? hi))]; exact hv
theorem setCell_heap {b off : Nat} {cs : Array Value} {t : TypeId} {fr : Nat × Nat} {v : Value} (h : w.heap[b]? = some (.cells cs t fr)) :
  (w.setCell ⟨b,off,none⟩ v).heap = w.heap.setIfInBounds b (.cells (cs.setIfInBounds off v) t fr) := by
 apply Array.ext_getElem?
 intro k
 have hb := lt_of_get h
 simp only [World.setCell,Array.getElem?_modify,Array.getElem?_setIfInBounds]
 by_cases hk : b = k
 ·subst hk
  have h' : w.heap[b] = .cells cs t fr := by simpa [Array.getElem?_eq_getElem hb] using h
  simp [hb,h']
 ·simp [hk]
theorem HP.setCell (h : HP w0 M R O w) (i : Nat) {b off : Nat} {cs : Array Value} {t : TypeId} {fr : Nat × Nat} (v : Value) (hi : O[i]? = some (b,.cells cs t fr)) :
  HP w0 M R (O.set i (b,.cells (cs.setIfInBounds off v) t fr)) (w.setCell ⟨b,off,none⟩ v) :=
 h.set i _ hi (setCell_heap (h.own _ (List.mem_of_getElem? hi))) rfl rfl rfl
end
abbrev KI := Code ⊕ Nat ⊕ (Act → World → Prop)
def aft (P : Program) (ro : Option Nat) (Q : Exit → Act → World → Prop) : List KI → Exit → Act → World → Prop
 | [],e,a,w => Q e a w
 | .inl c :: ks,e,a,w => match e with
  | .normal => c.wpIn (fen ro) 0 P (aft P ro Q ks) a w
  | e => aft P ro Q ks e a w
 | .inr (.inl id) :: ks,e,a,w => match e with
  | .exit j => if j = id then aft P ro Q ks .normal a w else aft P ro Q ks (.exit j) a w
  | e => aft P ro Q ks e a w
 | .inr (.inr I) :: ks,e,a,w => match e with
  | .normal => I a w
  | e => aft P ro Q ks e a w
def popTo (id : Nat) : List KI → Option (List KI)
 | [] => none
 | .inr (.inl j) :: ks => bif Nat.beq j id then some ks else popTo id ks
 | .inl _ :: ks => popTo id ks
 | .inr (.inr _) :: ks => popTo id ks
def nrm : Nat → List KI → List KI
 | 0,ks => ks
 | f + 1,ks => match ks with
  | .inl (.seq x y) :: ks => nrm f (.inl x :: .inl y :: ks)
  | .inl (.block id c) :: ks => nrm f (.inl c :: .inr (.inl id) :: ks)
  | .inl .skip :: ks => nrm f ks
  | .inl (.label _) :: ks => nrm f ks
  | .inr (.inl _) :: ks => nrm f ks
  | .inl (.exit id) :: ks => match popTo id ks with
   | some ks' => nrm f ks'
   | none => .inl (.exit id) :: ks
  | ks => ks
section
variable {P : Program} {ro : Option Nat} {Q : Exit → Act → World → Prop} {a : Act} {w : World}
theorem aft_code (y : Code) (ks : List KI) : aft P ro Q (.inl y :: ks) = Exit.then (y.wpIn (fen ro) 0 P (aft P ro Q ks)) (aft P ro Q ks) := by
 funext e a w
 cases e <;> rfl
theorem aft_block (id : Nat) (ks : List KI) : aft P ro Q (.inr (.inl id) :: ks) = Exit.inBlock id (aft P ro Q ks) := by
 funext e a w
 cases e <;> rfl
theorem aft_inv (I : Act → World → Prop) (ks : List KI) : aft P ro Q (.inr (.inr I) :: ks) = Exit.then I (aft P ro Q ks) := by
 funext e a w
 cases e <;> rfl
theorem popTo_ok {id : Nat} : ∀ {ks ks' : List KI},popTo id ks = some ks' → aft P ro Q ks' .normal a w → aft P ro Q ks (.exit id) a w
 | [],_,h,_ => by cases h
 | .inr (.inl j) :: ks,ks',h,h' => by
  simp only [popTo] at h
  cases hb : Nat.beq j id with
  | true =>
   simp only [hb,cond_true,Option.some.injEq] at h
   subst h
   rw [beq_iff.1 hb]
   show (if id = id then _ else _)
   rw [if_pos rfl]; exact h'
  | false =>
   simp only [hb,cond_false] at h
   have hne : ¬ id = j := fun e => by
    have := beq_iff.2 e.symm
    rw [hb] at this; cases this
   show (if id = j then _ else _)
   rw [if_neg hne]; exact popTo_ok h h'
 | .inl _ :: ks,ks',h,h' => popTo_ok (ks := ks) h h'
 | .inr (.inr _) :: ks,ks',h,h' => popTo_ok (ks := ks) h h'
theorem nrm_ok : ∀ (f : Nat) {ks : List KI},aft P ro Q (nrm f ks) .normal a w → aft P ro Q ks .normal a w
 | 0,_,h => h
 | f + 1,ks,h => by
  unfold nrm at h
  split at h
  ·rename_i x y ks
   have := nrm_ok f h
   show Code.wpIn (fen ro) 0 P (Code.seq x y) (aft P ro Q ks) a w
   refine wpIn_seq ?_
   rw [← aft_code]; exact this
  ·rename_i id c ks
   have := nrm_ok f h
   show Code.wpIn (fen ro) 0 P (Code.block id c) (aft P ro Q ks) a w
   refine wpIn_block ?_
   rw [← aft_block]; exact this
  ·exact wpIn_skip (nrm_ok f h)
  ·exact wpIn_label (nrm_ok f h)
  ·rename_i ks
   exact nrm_ok (ks := ks) f h
  ·rename_i id ks
   split at h
   ·rename_i ks' hp
    exact wpIn_exit (popTo_ok hp (nrm_ok f h))
   ·exact h
  ·exact h
theorem aft_ret : ∀ (ks : List KI),Q .ret a w → aft P ro Q ks .ret a w
 | [],h => h
 | .inl _ :: ks,h => aft_ret ks h
 | .inr (.inl _) :: ks,h => aft_ret ks h
 | .inr (.inr _) :: ks,h => aft_ret ks h
theorem aft_panic {c : List PanicEntry} : ∀ (ks : List KI),aft P ro Q ks (.panic c) a w = Q (.panic c) a w
 | [] => rfl
 | .inl _ :: ks => aft_panic ks
 | .inr (.inl _) :: ks => aft_panic ks
 | .inr (.inr _) :: ks => aft_panic ks
theorem aft_out : ∀ (ks : List KI),aft P ro Q ks .outgrown a w = Q .outgrown a w
 | [] => rfl
 | .inl _ :: ks => aft_out ks
 | .inr (.inl _) :: ks => aft_out ks
 | .inr (.inr _) :: ks => aft_out ks
theorem rowsIn_fen {row : String} {args : Array Value} {R : Value → World → Prop} (h : Rows P row args w R) : RowsIn (fen ro) 0 P row args w R :=
 fun c cs _ => by
  obtain ⟨v,w',r,s⟩ := h c cs
  have h1 : StepsIn (Machine.fenced P Fence.wide) P (lone (Frame.ofRow P row args .normal) (c :: cs) w) (lone (c.finish v) cs w') := stepsIn_wide.2 s
  exact ⟨v,w',r,h1⟩
theorem callsIn_fen {f : FuncId} {args : Array Value} {R : Ending → World → Prop} (h : Calls P f args w R) : CallsIn (fen ro) 0 P f args w R := by
 have h1 : CallsIn Fence.wide 0 P f args w R := callsIn_wide.2 h
 exact h1
def ndf (o : Oper) : Bool := match o.op with | .defer .. => false | _ => true
theorem ndf_spec {o : Oper} (h : ndf o = true) : ∀ c,o.op ≠ .defer c := by
 intro c hc
 simp [ndf,hc] at h
theorem wpIn_of_wp {o : Oper} {next : Act → World → Prop} (hn : ndf o = true) (h : o.wp P a w next Q) : o.wpIn (fen ro) 0 P a w next Q := by
 refine ⟨fun _ _ => trivial,?_⟩
 rw [Oper.semAt_eq _ _ _ (ndf_spec hn)]
 unfold Oper.wp at h
 generalize (execOp a.eval o).run P w = r at h ⊢
 match r,h with
 | .ok (.value v) w',h => exact h
 | .ok .skip w',h => exact h
 | .ok (.defer d) w',h => exact h
 | .ok (.enter f args) w',h => exact ⟨fun h => (by cases h),callsIn_fen h⟩
 | .ok (.row row args) w',h => exact ⟨fun h => (by cases h),rowsIn_fen h⟩
 | .ok (.round ..) w',h => exact h.elim
 | .halt (.panic v) w',h => exact h
theorem wpAnyIn_of_held {S : World → Prop} {md : Region.Mode} {ops : Array Oper} (hl : ¬ LetsOut Q) (hn : ops.all ndf = true) : ∀ (fuel : Nat) (listed : Array Bool) (a : Act) (w : World),wpAnyH P md ops Q S fuel listed a w → wpAnyIn (fen ro) 0 P md ops Q fuel listed a w
 | 0,_,_,_,h => h
 | fuel + 1,_,a,w,h => ⟨h.1,fun i hi => by
  have h2 := wpOp_mono (fun a' w' h' => wpAnyIn_of_held hl hn fuel _ a' w' h'.2) (h.2 i hi)
  unfold wpOp at h2
  unfold wpOpIn
  split at h2
  ·rename_i he
   rw [he]; exact h2
  ·rename_i o he
   rw [he]
   have ho : ndf o = true := by
    obtain ⟨hlt,hx⟩ := Array.getElem?_eq_some_iff.1 he
    exact Array.all_eq_true.1 hn i hlt |> fun h => hx ▸ h
   dsimp only
   split at h2
   ·rename_i hw
    rw [if_pos hw]
    rcases h2 with h2 | h2
    ·exact wpIn_of_wp ho h2
    ·exact absurd h2.2 hl
   ·rename_i hw
    rw [if_neg hw]
    exact ⟨fun _ _ => trivial,h2⟩⟩
end
structure Cx where
 P : Program
 fn : Func
 post : Ending → World → Prop
 w0 : World
 M : List Nat
 ro : Option Nat
 D : List Deferred
 Q0 : Exit → Act → World → Prop
 po : PanicOk Q0
 lo : ¬ LetsOut Q0
 rt : D = [] → ∀ a w v,a.defers = D → (Go.results fn a.tmps).run P w = .ok v w → post (.returned v) w → Q0 .ret a w ∧ Q0 .normal a w
def noOut (post : Ending → World → Prop) (e : Ending) (w : World) : Prop := e ≠ .outgrown ∧ post e w
def Cx.plain (P : Program) (fn : Func) (post : Ending → World → Prop) (w0 : World) (M : List Nat) : Cx where
 P := P
 fn := fn
 post := post
 w0 := w0
 M := M
 ro := none
 D := []
 Q0 := bodyPost P fn (noOut post)
 po := fun c a w d v h => by cases d <;> exact h
 lo := fun ⟨a,w,h⟩ => h.1 rfl
 rt := fun _ a w v hd hr hp => ⟨⟨hd,v,hr,by simp,hp⟩,⟨hd,v,hr,by simp,hp⟩⟩
abbrev Cx.Q (C : Cx) (ks : List KI) : Exit → Act → World → Prop := aft C.P C.ro C.Q0 ks
def Cfg (C : Cx) (R O : List (Nat × Obj)) (Γ : Env) (ks : List KI) : Prop :=
 ∀ a w,St C.fn.ntmps C.D Γ a → HP C.w0 C.M R O w → C.Q ks .normal a w
def CfgL (C : Cx) (R O : List (Nat × Obj)) (Γ : Env) (ops : Array Oper) (rest : List Oper) (ks : List KI) : Prop :=
 ∀ a w,St C.fn.ntmps C.D Γ a → HP C.w0 C.M R O w → wpListIn (fen C.ro) 0 C.P ops (C.Q ks) rest a w
def CfgA (C : Cx) (R Os O : List (Nat × Obj)) (Γ : Env) (ops : Array Oper) (fuel : Nat) (l : Array Bool) (ks : List KI) : Prop :=
 ∀ a w,St C.fn.ntmps C.D Γ a → HP C.w0 C.M R O w → wpAnyH C.P .any ops (C.Q ks) (HP C.w0 C.M R Os) fuel l a w
theorem panicOk (C : Cx) (ks : List KI) : PanicOk (C.Q ks) := by
 intro c a w d v h
 rw [Cx.Q,aft_panic] at *
 exact C.po c a w d v h
theorem notOut (C : Cx) (ks : List KI) : ¬ LetsOut (C.Q ks) := fun ⟨a,w,h⟩ => C.lo ⟨a,w,by rw [Cx.Q,aft_out] at h; exact h⟩
def evR (C : Cx) (S : World → Prop) (Γ : Env) (ops : Array Oper) (l : List Oper) (ds : List Dir) (kp : Option (List Nat)) : Option (Env × List Prop) :=
 bif Region.noSelect ops then
  match evOps C.P S C.fn.ntmps ops l ds Γ with
  | some r => some (match kp with | some ks => keep ks r.1 | none => r.1,r.2)
  | none => none
 else none
section
variable {C : Cx} {R O : List (Nat × Obj)} {Γ Γ' : Env} {ks ks' : List KI} {nd : (World → Prop) → List Prop} {ops : Array Oper}
theorem evR_some {S : World → Prop} {l : List Oper} {ds : List Dir} {kp : Option (List Nat)} {nd : List Prop} (h : evR C S Γ ops l ds kp = some (Γ',nd)) :
  Region.noSelect ops = true ∧ ∃ Γ2,evOps C.P S C.fn.ntmps ops l ds Γ = some (Γ2,nd) ∧ ∀ n D a,St n D Γ2 a → St n D Γ' a := by
 unfold evR at h
 cases hb : Region.noSelect ops with
 | false => simp [hb] at h
 | true =>
  simp only [hb,cond_true] at h
  split at h
  ·rename_i r hr
   simp only [Option.some.injEq,Prod.mk.injEq] at h
   obtain ⟨h1,h2⟩ := h
   refine ⟨rfl,r.1,by rw [hr,← h2],fun n D a hs => ?_⟩
   rw [← h1]
   cases kp with
   | none => exact hs
   | some kp => exact keep_ok kp hs
  ·cases h
theorem Cfg.nrm (h : Cfg C R O Γ (KD.nrm 99 ks)) : Cfg C R O Γ ks := fun a w hs hp => nrm_ok 99 (h a w hs hp)
theorem sel_all (h : Region.noSelect ops = true) {l : List Oper} (hl : ∀ o ∈ l,o ∈ ops.toList) : ∀ o ∈ l,∀ cs b,o.op ≠ .select cs b := by
 intro o ho cs b
 obtain ⟨j,hj⟩ := List.mem_iff_getElem?.1 (hl o ho)
 exact Region.noSelect_spec h j o cs b (by simpa using hj)
theorem Cfg.reg {id : Nat} (hk : KD.nrm 99 ks = .inl (.region id ops false) :: ks') (kp : List Nat) (ds : List Dir) (he : ∀ S,evR C S Γ ops ops.toList ds (some kp) = some (Γ',nd S)) (hn : All (nd (HP C.w0 C.M R O)))
  (h : Cfg C R O Γ' ks') : Cfg C R O Γ ks := by
 refine Cfg.nrm ?_
 rw [hk]
 intro a w hs hp
 obtain ⟨hsel,Γ2,he2,hw⟩ := evR_some (he _)
 refine wpIn_region_list ?_
 have := wplIn_pure (ro := C.ro) (Q := C.Q ks') (l2 := []) (w := w) ops.toList ds Γ a (sel_all hsel (fun _ h => h)) hs he2 hn.mem hp (fun a' hs' => h a' w (hw _ _ _ hs') hp)
 simpa using this
theorem Cfg.regD {id : Nat} (hk : KD.nrm 99 ks = .inl (.region id ops true) :: ks') (hm : C.P.follows .mixedOrders = true) (kp : List Nat) (ds : List Dir)
  (ht0 : ((takes .any ops (Array.replicate ops.size false) (List.range ops.size)).map fun l => (Region.ready .any ops l).isEmpty) = some true) (ho0 : (opsAt ops (List.range ops.size)).isSome = true)
  (he : ∀ S,evR C S Γ ops ((opsAt ops (List.range ops.size)).getD []) ds (some kp) = some (Γ',nd S)) (hn : All (nd (HP C.w0 C.M R O))) (h : Cfg C R O Γ' ks') (hnd : ops.all ndf = true := by kernel_rfl) : Cfg C R O Γ ks := by
 refine Cfg.nrm ?_
 rw [hk]
 intro a w hs hp
 obtain ⟨hsel,Γ2,he2,hw⟩ := evR_some (he _)
 obtain ⟨l',ht,hr0⟩ := Option.map_eq_some_iff.1 ht0
 have hr : Region.ready .any ops l' = [] := List.isEmpty_iff.1 hr0
 obtain ⟨os,ho⟩ := Option.isSome_iff_exists.1 ho0
 rw [ho,Option.getD_some] at he2
 refine wpIn_region_any hm (wpAnyIn_of_held (S := HP C.w0 C.M R O) (notOut C ks') hnd _ _ _ _ ?_)
 have := any_pure (Q := C.Q ks') (w := { w with drawn := w.drawn + 1 }) (fuel := 0) hsel (panicOk C ks') (List.range ops.size) os ds _ Γ a ht ho hs he2 hn.mem hp.drew
  (fun a' hs' => wpAnyH_done hr (h a' _ (hw _ _ _ hs') hp.drew) 0)
 simpa using this
theorem Cfg.cond {c : Operand} {x y : Code} (hk : KD.nrm 99 ks = .inl (.cond c x y) :: ks') {b : Bool} (hc : opd Γ [] c = some (.bool b)) (ht : b = true → Cfg C R O Γ (.inl x :: ks')) (hf : b = false → Cfg C R O Γ (.inl y :: ks')) :
  Cfg C R O Γ ks := by
 refine Cfg.nrm ?_
 rw [hk]
 intro a w hs hp
 have he := opd_ok hs (holds_nil _) hc
 exact wpIn_cond_split he (fun hb => ht hb a w hs hp) (fun hb => hf hb a w hs hp)
theorem Cfg.conv (h : Cfg C R O Γ' ks) (hΓ : ∀ n D a,St n D Γ a → St n D Γ' a) : Cfg C R O Γ ks := fun a w hs hp => h a w (hΓ _ _ a hs) hp
theorem Cfg.sub {O' : List (Nat × Obj)} (h : Cfg C R O' Γ ks) (hO : O'.Sublist O) : Cfg C R O Γ ks := fun a w hs hp => h a w hs (hp.sub hO)
def Conv (Γ : Env) : Env → Prop
 | [] => True
 | e :: Γ' => find Γ e.1 = some e.2 ∧ Conv Γ Γ'
theorem Conv.st (h : Conv Γ Γ') {n : Nat} {D : List Deferred} {a : Act} (hs : St n D Γ a) : St n D Γ' a := by
 refine hs.mono fun e he => ?_
 induction Γ' with
 | nil => cases he
 | cons x Γ' ih =>
  rcases List.mem_cons.1 he with rfl | he
  ·exact find_mem h.1
  ·exact ih h.2 he
def Again (C : Cx) (R : List (Nat × Obj)) {ι : Type} (Γi : ι → Env) (Oi : ι → List (Nat × Obj)) (I : ι → Prop) (μ : ι → Nat) (x : ι) (a : Act) (w : World) : Prop :=
 ∃ y,I y ∧ μ y < μ x ∧ St C.fn.ntmps C.D (Γi y) a ∧ HP C.w0 C.M R (Oi y) w
theorem Cfg.loop {c : Code} (hk : KD.nrm 99 ks = .inl (.loop c) :: ks') {ι : Type} (Γi : ι → Env) (Oi : ι → List (Nat × Obj)) (I : ι → Prop) (μ : ι → Nat) (x0 : ι) (h0 : I x0) (hΓ : Conv Γ (Γi x0)) (hO : (Oi x0).Sublist O)
  (round : ∀ x,I x → Cfg C R (Oi x) (Γi x) (.inl c :: .inr (.inr (Again C R Γi Oi I μ x)) :: ks')) : Cfg C R O Γ ks := by
 refine Cfg.nrm ?_
 rw [hk]
 intro a w hs hp
 refine wpIn_loop_ghost (fun m a w => ∃ x,μ x = m ∧ I x ∧ St C.fn.ntmps C.D (Γi x) a ∧ HP C.w0 C.M R (Oi x) w) (μ x0) ⟨x0,rfl,h0,hΓ.st hs,hp.sub hO⟩ ?_
 rintro m a w ⟨x,rfl,hI,hs,hp⟩
 refine wpIn_mono (round x hI a w hs hp) ?_
 intro e a' w' hq
 have hq' := congrFun (congrFun (congrFun (aft_inv (P := C.P) (ro := C.ro) (Q := C.Q0) (Again C R Γi Oi I μ x) ks') e) a') w' ▸ hq
 clear hq
 cases e with
 | normal =>
  obtain ⟨y,h1,h2,h3,h4⟩ := hq'
  exact ⟨μ y,h2,y,rfl,h1,h3,h4⟩
 | _ => exact hq'
theorem Cfg.again {ι : Type} {Γi : ι → Env} {Oi : ι → List (Nat × Obj)} {I : ι → Prop} {μ : ι → Nat} {x : ι} (hk : KD.nrm 99 ks = .inr (.inr (Again C R Γi Oi I μ x)) :: ks') (y : ι) (hI : I y) (hμ : μ y < μ x)
  (hΓ : Conv Γ (Γi y)) (hO : (Oi y).Sublist O) : Cfg C R O Γ ks := by
 refine Cfg.nrm ?_
 rw [hk]
 intro a w hs hp
 exact ⟨y,hI,hμ,hΓ.st hs,hp.sub hO⟩
def putO (Γ : Env) : Option Nat → Value → Env
 | some d,v => put Γ d [] v
 | none,_ => Γ
theorem putO_ok {n : Nat} {D : List Deferred} {a : Act} {d : Option Nat} {v : Value} (hs : St n D Γ a) (hd : ∀ t,d = some t → t < n) : St n D (putO Γ d v) (a.put d v) := by
 cases d with
 | none => exact hs
 | some t => exact put_ok hs (hd t rfl) rfl (fun _ => rfl) (fun h => absurd (holds_nil _) h)
def Eff (C : Cx) (R O : List (Nat × Obj)) (Γ : Env) (o : Oper) (ι : Type) (V : ι → Value) (O' : ι → List (Nat × Obj)) (F : ι → Prop) : Prop :=
 ∀ a w,St C.fn.ntmps C.D Γ a → HP C.w0 C.M R O w → ∀ (Kt : Act → World → Prop) (Q : Exit → Act → World → Prop),
  (∀ x w',F x → HP C.w0 C.M R (O' x) w' → Kt (a.put o.dst (V x)) w') → o.wp C.P a w Kt Q
def guardV (Γ : Env) (ops : Array Oper) (o : Oper) : Option Value :=
 match o.guard with
 | none => some (.bool true)
 | some (j,_) => match (ops[j]?).bind (·.dst) with
  | some tj => K.look Γ [] tj
  | none => none
def guardW (o : Oper) : Option Value :=
 match o.guard with
 | none => some (.bool true)
 | some (_,want) => some (.bool want)
theorem goes_wanted {n : Nat} {D : List Deferred} {a : Act} {o : Oper} (hs : St n D Γ a) (h : guardV Γ ops o = guardW o) : Region.wanted o (yielded ops a.tmps) = true := by
 unfold guardV guardW at h
 split at h
 ·rename_i hg; simp [Region.wanted,hg]
 ·rename_i j want hg
  split at h
  ·rename_i tj hj
   exact (wanted_iff hg hj).2 (look_ok hs (holds_nil _) h)
  ·cases h
def DstOk (n : Nat) (o : Oper) : Bool := match o.dst with | some t => Nat.blt t n | none => true
theorem DstOk.lt {n : Nat} {o : Oper} (h : DstOk n o = true) : ∀ t,o.dst = some t → t < n := by
 intro t ht
 simp only [DstOk,ht] at h
 exact Nat.lt_of_succ_le (Nat.le_of_ble_eq_true h)
theorem Cfg.begL {id : Nat} (hk : KD.nrm 99 ks = .inl (.region id ops false) :: ks') (h : CfgL C R O Γ ops ops.toList ks') : Cfg C R O Γ ks := by
 refine Cfg.nrm ?_
 rw [hk]
 intro a w hs hp
 exact wpIn_region_list (h a w hs hp)
theorem CfgL.pure {rest : List Oper} (k : Nat) (ds : List Dir) (kp : Option (List Nat)) (hm : (rest.all fun o => match o.op with | .select .. => false | _ => true) = true)
  (he : ∀ S,evR C S Γ ops (rest.take k) ds kp = some (Γ',nd S)) (hn : All (nd (HP C.w0 C.M R O))) (h : CfgL C R O Γ' ops (rest.drop k) ks) : CfgL C R O Γ ops rest ks := by
 intro a w hs hp
 obtain ⟨hsel,Γ2,he2,hw⟩ := evR_some (he _)
 have := wplIn_pure (ro := C.ro) (Q := C.Q ks) (l2 := rest.drop k) (w := w) (rest.take k) ds Γ a (fun o ho cs b hh => by
  have := List.all_eq_true.1 hm o (List.mem_of_mem_take ho)
  simp [hh] at this) hs he2 hn.mem hp (fun a' hs' => h a' w (hw _ _ _ hs') hp)
 rwa [List.take_append_drop] at this
theorem CfgL.eff {rest rest' : List Oper} {o : Oper} (hr : rest = o :: rest') (hd : DstOk C.fn.ntmps o = true) (hg : guardV Γ ops o = guardW o) {ι : Type} {V : ι → Value} {O' : ι → List (Nat × Obj)} {F : ι → Prop} (he : Eff C R O Γ o ι V O' F)
  (h : ∀ x,F x → CfgL C R (O' x) (putO Γ o.dst (V x)) ops rest' ks) (hnd : ndf o = true := by kernel_rfl) : CfgL C R O Γ ops rest ks := by
 subst hr
 intro a w hs hp
 unfold wpListIn
 rw [if_pos (goes_wanted hs hg)]
 exact wpIn_of_wp hnd (he a w hs hp _ _ (fun x w' hx hp' => h x hx _ w' (putO_ok hs (DstOk.lt hd)) hp'))
theorem CfgL.done {rest : List Oper} (hr : rest = []) (h : Cfg C R O Γ ks) : CfgL C R O Γ ops rest ks := by
 subst hr
 intro a w hs hp
 exact h a w hs hp
theorem Cfg.begA {id : Nat} (hk : KD.nrm 99 ks = .inl (.region id ops true) :: ks') (hm : C.P.follows .mixedOrders = true) (Os : List (Nat × Obj)) (h : CfgA C R Os O Γ ops ops.size (Array.replicate ops.size false) ks') (hnd : ops.all ndf = true := by kernel_rfl) : Cfg C R O Γ ks := by
 refine Cfg.nrm ?_
 rw [hk]
 intro a w hs hp
 exact wpIn_region_any hm (wpAnyIn_of_held (notOut C ks') hnd _ _ _ _ (h a _ hs hp.drew))
theorem CfgA.pure {Os : List (Nat × Obj)} {fuel : Nat} {l l' : Array Bool} (is : List Nat) (ds : List Dir) (kp : Option (List Nat)) (ht : takes .any ops l is = some l') (ho0 : (opsAt ops is).isSome = true)
  (hO : Os.Sublist O) (fuel' : Nat) (hf : fuel = fuel' + is.length)
  (he : ∀ S,evR C S Γ ops ((opsAt ops is).getD []) ds kp = some (Γ',nd S)) (hn : All (nd (HP C.w0 C.M R Os))) (h : CfgA C R Os O Γ' ops fuel' l' ks) : CfgA C R Os O Γ ops fuel l ks := by
 intro a w hs hp
 obtain ⟨hsel,Γ2,he2,hw⟩ := evR_some (he _)
 obtain ⟨os,ho⟩ := Option.isSome_iff_exists.1 ho0
 rw [ho,Option.getD_some] at he2
 subst hf
 exact any_pure (Q := C.Q ks) (w := w) hsel (panicOk C ks) is os ds l Γ a ht ho hs he2 hn.mem (hp.sub hO) (fun a' hs' => h a' w (hw _ _ _ hs') hp)
theorem CfgA.eff {Os : List (Nat × Obj)} {fuel fuel' : Nat} {l : Array Bool} (i : Nat) {o : Oper} (ho : ops[i]? = some o) (hr : Region.ready .any ops l = [i]) (hf : fuel = fuel' + 1) (hd : DstOk C.fn.ntmps o = true) (hg : guardV Γ ops o = guardW o)
  {ι : Type} {V : ι → Value} {O' : ι → List (Nat × Obj)} {F : ι → Prop} (he : Eff C R O Γ o ι V O' F) (hO : ∀ x,F x → Os.Sublist (O' x))
  (h : ∀ x,F x → CfgA C R Os (O' x) (putO Γ o.dst (V x)) ops fuel' (l.setIfInBounds i true) ks) : CfgA C R Os O Γ ops fuel l ks := by
 subst hf
 intro a w hs hp
 refine wpAnyH_all hr (by simp) ?_
 intro j hj
 simp only [List.mem_cons,List.not_mem_nil,or_false] at hj
 subst hj
 unfold wpOp
 simp only [ho,goes_wanted hs hg,if_true]
 exact .inl (he a w hs hp _ _ (fun x w' hx hp' => ⟨hp'.sub (hO x hx),h x hx _ w' (putO_ok hs (DstOk.lt hd)) hp'⟩))
theorem CfgA.done {Os : List (Nat × Obj)} {fuel : Nat} {l : Array Bool} (hr : Region.ready .any ops l = []) (h : Cfg C R O Γ ks) : CfgA C R Os O Γ ops fuel l ks := by
 intro a w hs hp
 exact wpAnyH_done hr (h a w hs hp) fuel
def Res (C : Cx) (R O : List (Nat × Obj)) (Γ : Env) : List ResultVar → List Value → Prop
 | [],[] => True
 | .tmp t :: rs,v :: vs => K.look Γ [] t = some v ∧ Res C R O Γ rs vs
 | .cell p ty :: rs,v :: vs => (∃ x,K.look Γ [] p = some (.pointer (some x)) ∧ ∀ w,HP C.w0 C.M R O w → (loadVar ty x).run C.P w = .ok v w) ∧ Res C R O Γ rs vs
 | _,_ => False
def resF (tm : Array Value) : ResultVar → Sem Value
 | .tmp t => pure (tm.getD t undef)
 | .cell x t => do loadVar t (← asAddr (tm.getD x undef))
theorem results_eq (fn : Func) (tm : Array Value) : Go.results fn tm = (do let vs ← fn.results.mapM (resF tm); pure (if h : vs.size = 1 then vs[0] else .tuple vs)) := by
 unfold Go.results
 congr 1
theorem Res.run {a : Act} {w : World} {n : Nat} {D : List Deferred} (hs : St n D Γ a) (hp : HP C.w0 C.M R O w) : ∀ {rs : List ResultVar} {vs : List Value},Res C R O Γ rs vs →
  (rs.mapM (resF a.tmps)).run C.P w = .ok vs w
 | [],[],_ => by simp
 | .tmp t :: rs,v :: vs,h => by
  have h1 := look_ok hs (holds_nil _) h.1
  have ih := Res.run hs hp h.2
  simp only [List.mapM_cons,resF,Sem.run_bind,Sem.run_pure,Result.andThen_ok,h1]
  rw [ih]; rfl
 | .cell p ty :: rs,v :: vs,h => by
  obtain ⟨⟨x,hx,hv⟩,h2⟩ := h
  have h1 := look_ok hs (holds_nil _) hx
  have ih := Res.run hs hp h2
  have hA : (asAddr (.pointer (some x))).run C.P w = .ok x w := rfl
  simp only [List.mapM_cons,resF,Sem.run_bind,Sem.run_pure,Result.andThen_ok,h1,hA,hv w hp]
  rw [ih]; rfl
 | [],_ :: _,h => h.elim
 | .tmp _ :: _,[],h => h.elim
 | .cell .. :: _,[],h => h.elim
def resOf : List Value → Value
 | [v] => v
 | vs => .tuple vs.toArray
theorem Res.out {a : Act} {w : World} {n : Nat} {D : List Deferred} (hs : St n D Γ a) (hp : HP C.w0 C.M R O w) {rs : List ResultVar} {vs : List Value} (hr : C.fn.results = rs.toArray) (h : Res C R O Γ rs vs) :
  (Go.results C.fn a.tmps).run C.P w = .ok (resOf vs) w := by
 have := Res.run hs hp h
 rw [results_eq,hr,List.mapM_toArray]
 simp only [Sem.run_bind,map_eq_pure_bind,this,Result.andThen_ok,Sem.run_pure]
 match vs with
 | [] => rfl
 | [v] => rfl
 | _ :: _ :: _ => simp [resOf]
theorem Cfg.ret (hk : KD.nrm 99 ks = .inl .ret :: ks') {rs : List ResultVar} (hr : C.fn.results = rs.toArray) (vs : List Value) (hv : Res C R O Γ rs vs) (hp : ∀ w,HP C.w0 C.M R O w → C.post (.returned (resOf vs)) w) (hD : C.D = [] := by rfl) : Cfg C R O Γ ks := by
 refine Cfg.nrm ?_
 rw [hk]
 intro a w hs h
 exact wpIn_ret (aft_ret ks' (C.rt hD a w _ hs.dfr (hv.out hs h hr) (hp w h)).1)
theorem Cfg.fin (hk : KD.nrm 99 ks = []) {rs : List ResultVar} (hr : C.fn.results = rs.toArray) (vs : List Value) (hv : Res C R O Γ rs vs) (hp : ∀ w,HP C.w0 C.M R O w → C.post (.returned (resOf vs)) w) (hD : C.D = [] := by rfl) : Cfg C R O Γ ks := by
 refine Cfg.nrm ?_
 rw [hk]
 intro a w hs h
 exact (C.rt hD a w _ hs.dfr (hv.out hs h hr) (hp w h)).2
def argsΓ : Nat → List Value → Env
 | _,[] => []
 | i,v :: vs => (i,[],v) :: argsΓ (i + 1) vs
theorem argsΓ_mem {e : Nat × Ch × Value} : ∀ {i : Nat} {vs : List Value},e ∈ argsΓ i vs → e.2.1 = [] ∧ i ≤ e.1 ∧ vs[e.1 - i]? = some e.2.2
 | _,[],h => by cases h
 | i,v :: vs,h => by
  rcases List.mem_cons.1 h with rfl | h
  ·simp
  ·obtain ⟨h1,h2,h3⟩ := argsΓ_mem h
   refine ⟨h1,by omega,?_⟩
   rw [show e.1 - i = (e.1 - (i + 1)) + 1 by omega,List.getElem?_cons_succ]; exact h3
theorem enter {P : Program} {f : FuncId} {fn : Func} {c : Code} {vs : List Value} {w : World} {post : Ending → World → Prop} (M : List Nat) (R O : List (Nat × Obj)) (hf : P.funcs[f]? = some fn) (hb : fn.body = some c)
  (hn0 : Nat.ble vs.length fn.ntmps = true) (hp : HP w M R O w) (h : Cfg (Cx.plain P fn post w M) R O (argsΓ 0 vs) [.inl c]) : Calls P f vs.toArray w post := by
 have hn : vs.length ≤ fn.ntmps := Nat.le_of_ble_eq_true hn0
 refine (calls_of_wp (R := noOut post) hf hb ?_).mono (fun e w' he => he.2)
 refine (wpIn_wide (n := 0)).1 ?_
 refine h _ w ⟨by show _ = fn.ntmps; simp; omega,rfl,?_⟩ hp
 intro e he
 obtain ⟨h1,_,h3⟩ := argsΓ_mem he
 rw [h1]
 refine ⟨fun _ => ?_,fun hh => absurd (holds_nil _) hh⟩
 have hlt : e.1 < vs.length := by
  rcases Nat.lt_or_ge e.1 vs.length with hh | hh
  ·exact hh
  ·rw [Nat.sub_zero,List.getElem?_eq_none hh] at h3; cases h3
 rw [Nat.sub_zero] at h3
 rw [Array.getD_eq_getD_getElem?,Array.getElem?_append_left (by simpa using hlt)]
 simp [h3]
theorem HP.start (w : World) : HP w [] [] [] w := ⟨Ext.refl _ _,(fun _ h => by cases h),(fun _ h => by cases h),(fun _ h => by cases h),by simp,(fun _ h => by cases h)⟩
end
section
variable {C : Cx} {R O : List (Nat × Obj)} {Γ : Env} {o : Oper}
theorem Eff.of_run {ι : Type} {V : ι → Value} {O' : ι → List (Nat × Obj)} {F : ι → Prop}
  (h : ∀ a w,St C.fn.ntmps C.D Γ a → HP C.w0 C.M R O w → ∃ x w',F x ∧ (execOp a.eval o).run C.P w = .ok (.value (V x)) w' ∧ HP C.w0 C.M R (O' x) w') : Eff C R O Γ o ι V O' F := by
 intro a w hs hp Kt Q hK
 obtain ⟨x,w',hx,hr,hp'⟩ := h a w hs hp
 unfold Oper.wp
 rw [hr]
 exact hK x w' hx hp'
theorem Eff.of_skip {ι : Type} {O' : ι → List (Nat × Obj)} {F : ι → Prop}
  (h : ∀ a w,St C.fn.ntmps C.D Γ a → HP C.w0 C.M R O w → ∃ x w',F x ∧ (execOp a.eval o).run C.P w = .ok .skip w' ∧ HP C.w0 C.M R (O' x) w') : Eff C R O Γ o ι (fun _ => undef) O' F := by
 intro a w hs hp Kt Q hK
 obtain ⟨x,w',hx,hr,hp'⟩ := h a w hs hp
 unfold Oper.wp
 rw [hr]
 exact hK x w' hx hp'
def opds (Γ : Env) : List Operand → Option (List Value)
 | [] => some []
 | x :: l => match opd Γ [] x,opds Γ l with
  | some v,some vs => some (v :: vs)
  | _,_ => none
theorem opds_ok {n : Nat} {D : List Deferred} {a : Act} (hs : St n D Γ a) : ∀ {l : List Operand} {vs : List Value},opds Γ l = some vs → l.map a.eval = vs
 | [],vs,h => by simp only [opds,Option.some.injEq] at h; rw [← h]; rfl
 | x :: l,vs,h => by
  unfold opds at h
  split at h
  ·rename_i v us h1 h2
   simp only [Option.some.injEq] at h
   rw [← h,List.map_cons,opd_ok hs (holds_nil _) h1,opds_ok hs h2]
  ·cases h
theorem run_callFunc {P : Program} {f : FuncId} {fn : Func} {c : Code} {args : Array Value} {w : World} (hf : P.funcs[f]? = some fn) (hnm : (fn.name == "runtime.NumGoroutine") = false) (hb : fn.body = some c) :
  (callFunc f args).run P w = .ok (.enter f args) w := by
 have h1 : ¬ fn.name = "runtime.NumGoroutine" := by simpa using hnm
 simp [callFunc,program,Sem.run,hf,h1,hb]
theorem Eff.call {f : FuncId} {fn : Func} {c : Code} {xs : List Operand} {tys : Array TypeId} (ho : o.op = .call ⟨.value (.func f),xs.toArray,tys⟩) (hf : C.P.funcs[f]? = some fn) (hnm : (fn.name == "runtime.NumGoroutine") = false) (hb : fn.body = some c)
  {vs : List Value} (hx : opds Γ xs = some vs) {ι : Type} {V : ι → Value} {O' : ι → List (Nat × Obj)} {F : ι → Prop}
  (h : ∀ w,HP C.w0 C.M R O w → Calls C.P f vs.toArray w fun e w' => ∃ x,F x ∧ e = .returned (V x) ∧ HP C.w0 C.M R (O' x) w') : Eff C R O Γ o ι V O' F := by
 intro a w hs hp Kt Q hK
 have hargs := opds_ok hs hx
 have hrun : (execOp a.eval o).run C.P w = .ok (.enter f vs.toArray) w := by
  simp [execOp,ho,resolve,Deferred.ofValue,Act.eval,invoke,hargs,run_callFunc hf hnm hb]
 unfold Oper.wp
 rw [hrun]
 refine (h w hp).mono ?_
 rintro e w' ⟨x,hx,rfl,hp'⟩
 exact hK x w' hx hp'
theorem Eff.alloc {t : TypeId} {z : Value} (ho : o.op = .alloc t) (hz0 : (C.P.info? t).bind (·.zero) = some z) :
  Eff C R O Γ o Nat (fun b => .pointer (some ⟨b,0,none⟩)) (fun b => (b,.cells z.cells t (0,0)) :: O) (fun b => C.w0.heap.size ≤ b ∧ b ∉ O.map (·.1)) := by
 refine Eff.of_run fun a w hs hp => ⟨w.heap.size,w.alloc (.cells z.cells t (0,0)),⟨hp.ext.size,hp.fresh (Nat.le_refl _)⟩,?_,hp.alloc _⟩
 obtain ⟨inf,hi,hz⟩ := Option.bind_eq_some_iff.1 hz0
 simp [execOp,ho,Instr.alloc,zeroValue,typeInfo,program,Sem.run,hi,hz,newVar,newRow,newObj]
theorem Eff.box {t : TypeId} {x : Operand} {v : Value} (ho : o.op = .box t x) (hx : opd Γ [] x = some v) :
  Eff C R O Γ o Nat (fun b => .pointer (some ⟨b,0,none⟩)) (fun b => (b,.cells v.cells t (0,0)) :: O) (fun b => C.w0.heap.size ≤ b ∧ b ∉ O.map (·.1)) := by
 refine Eff.of_run fun a w hs hp => ⟨w.heap.size,w.alloc (.cells v.cells t (0,0)),⟨hp.ext.size,hp.fresh (Nat.le_refl _)⟩,?_,hp.alloc _⟩
 simp [execOp,ho,Instr.box,opd_ok hs (holds_nil _) hx,newVar,newRow,newObj,Sem.run]
def one : Value → Bool
 | .agg _ | .tuple _ => false
 | _ => true
theorem Eff.store1 {t : TypeId} {x y : Operand} {b off : Nat} {v : Value} (ho : o.op = .store t x y) (hx : opd Γ [] x = some (.pointer (some ⟨b,off,none⟩))) (hy : opd Γ [] y = some v) (h1 : K.one v = true)
  (hsz0 : (C.P.info? t).map (·.size) = some 1) (i : Nat) {cs : Array Value} {e : TypeId} (hO : O[i]? = some (b,.cells cs e (0,0))) (hoff : off < cs.size) :
  Eff C R O Γ o Unit (fun _ => undef) (fun _ => O.set i (b,.cells (cs.setIfInBounds off v) e (0,0))) (fun _ => True) := by
 refine Eff.of_skip fun a w hs hp => ⟨(),w.setCell ⟨b,off,none⟩ v,trivial,?_,hp.setCell i v hO⟩
 obtain ⟨inf,hi,hsz⟩ := Option.map_eq_some_iff.1 hsz0
 have hb := hp.own _ (List.mem_of_getElem? hO)
 have hc : w.cell? ⟨b,off,none⟩ = some (cs[off]) := by rw [cell_cells hb]; exact Array.getElem?_eq_getElem hoff
 have hfz : w.frozen? ⟨b,off,none⟩ = false := by simp [World.frozen?,hb]
 have hst : (store ⟨b,off,none⟩ v).run C.P w = .ok () (w.setCell ⟨b,off,none⟩ v) := by
  unfold store
  cases v <;> simp [K.one] at h1 <;> simp [Sem.run,hc,hfz]
 have hv : v.cells = #[v] := by cases v <;> first | rfl | simp [K.one] at h1
 simp [execOp,ho,opd_ok hs (holds_nil _) hx,opd_ok hs (holds_nil _) hy,Instr.storeAt,Instr.sureAddr,storeVar,run_sizeOf' hi,hsz,hv,storeCells,add_none,hst]
theorem Eff.buildSlice {t e : TypeId} {len : Nat} {xs : List (Nat × Operand)} {parts : Array (Nat × Value)} {cells : Array Value} (ho : o.op = .buildSlice t len xs.toArray) (hx : (xs.map fun p => (opd Γ [] p.2).map fun v => (p.1,v)) = parts.toList.map some)
  (hrun : ∀ w,(Instr.buildSlice t len parts).run C.P w = .ok (.slice (some ⟨w.heap.size,0,none⟩) len len) (w.alloc (.cells cells e (0,0)))) :
  Eff C R O Γ o Nat (fun b => .slice (some ⟨b,0,none⟩) len len) (fun b => (b,.cells cells e (0,0)) :: O) (fun b => C.w0.heap.size ≤ b ∧ b ∉ O.map (·.1)) := by
 refine Eff.of_run fun a w hs hp => ⟨w.heap.size,w.alloc (.cells cells e (0,0)),⟨hp.ext.size,hp.fresh (Nat.le_refl _)⟩,?_,hp.alloc _⟩
 have hm : ∀ (xs : List (Nat × Operand)) (ps : List (Nat × Value)),(xs.map fun p => (opd Γ [] p.2).map fun v => (p.1,v)) = ps.map some → xs.map (fun p => (p.1,a.eval p.2)) = ps := by
  intro xs
  induction xs with
  | nil => intro ps h; cases ps with
   | nil => rfl
   | cons _ _ => simp at h
  | cons x xs ih =>
   intro ps h
   cases ps with
   | nil => simp at h
   | cons q ps =>
    simp only [List.map_cons,List.cons.injEq] at h
    obtain ⟨h1,h2⟩ := h
    obtain ⟨v,hv,hq⟩ := Option.map_eq_some_iff.1 h1
    rw [List.map_cons,ih ps h2,opd_ok hs (holds_nil _) hv,hq]
 have := hm xs parts.toList hx
 have h2 : (xs.toArray.map fun x => match x with | (i,x) => (i,a.eval x)) = parts := by
  apply Array.ext'
  rw [← this]; simp
 simp only [execOp,ho]
 rw [show (xs.toArray.map fun x => match x with | (i,x) => (i,a.eval x)) = parts from h2]
 exact run_v (hrun w)
theorem Eff.quiet {raw : Bool} {orc : Option Value} {v : Value} {nd : (World → Prop) → List Prop} (he : ∀ S,evOp C.P S Γ [] o raw orc = some (v,nd S)) (hn : All (nd (HP C.w0 C.M R O))) (hsel : (match o.op with | .select .. => false | _ => true) = true) :
  Eff C R O Γ o Unit (fun _ => v) (fun _ => O) (fun _ => True) := by
 refine Eff.of_run fun a w hs hp => ⟨(),w,trivial,?_,hp⟩
 exact evOp_ok hs (holds_nil _) (he _) hn.mem (fun cs b hh => by simp [hh] at hsel) w hp
end
theorem notT {b : Bool} (h : (!b) = true) : b = false := by cases b <;> simp_all
theorem notF {b : Bool} (h : (!b) = false) : b = true := by cases b <;> simp_all
theorem orT {a b : Bool} (h : (a || b) = true) : a = true ∨ b = true := by cases a <;> simp_all
theorem orF1 {a b : Bool} (h : (a || b) = false) : a = false := by cases a <;> simp_all
theorem orF2 {a b : Bool} (h : (a || b) = false) : b = false := by cases a <;> simp_all
theorem boolV {a b : Bool} (h : (Value.bool a) = .bool b) : a = b := Value.bool.inj h
section
variable {C : Cx} {R O : List (Nat × Obj)} {Γ Γ' : Env} {ks ks' : List KI} {ops : Array Oper}
theorem Conv.mk (h : (Γ'.map fun e => find Γ e.1) = Γ'.map fun e => some e.2) : Conv Γ Γ' := by
 induction Γ' with
 | nil => trivial
 | cons e Γ' ih =>
  simp only [List.map_cons,List.cons.injEq] at h
  exact ⟨h.1,ih h.2⟩
theorem Conv.cfg (h : Conv Γ Γ') (hc : Cfg C R O Γ' ks) : Cfg C R O Γ ks := fun a w hs hp => hc a w (h.st hs) hp
theorem St.known {n : Nat} {D : List Deferred} {a : Act} (hs : St n D Γ a) (t : Nat) {b : Bool} (hf : find Γ t = some ([],.bool b)) (c : Bool) (hb : b = c) : St n D (put Γ t [] (.bool c)) a := by
 refine ⟨hs.size,hs.dfr,fun e he => ?_⟩
 rcases List.mem_cons.1 he with rfl | he
 ·refine ⟨fun _ => ?_,fun h => absurd (holds_nil _) h⟩
  have := (hs.sl _ (find_mem hf)).1 (holds_nil _)
  rw [← hb]; exact this
 ·exact hs.sl e (List.mem_filter.1 he).1
theorem CfgL.known {rest : List Oper} (t : Nat) {b : Bool} (hf : find Γ t = some ([],.bool b)) (c : Bool) (hb : b = c) (h : CfgL C R O (put Γ t [] (.bool c)) ops rest ks) : CfgL C R O Γ ops rest ks := fun a w hs hp => h a w (hs.known t hf c hb) hp
theorem CfgA.known {Os : List (Nat × Obj)} {fuel : Nat} {l : Array Bool} (t : Nat) {b : Bool} (hf : find Γ t = some ([],.bool b)) (c : Bool) (hb : b = c) (h : CfgA C R Os O (put Γ t [] (.bool c)) ops fuel l ks) : CfgA C R Os O Γ ops fuel l ks := fun a w hs hp => h a w (hs.known t hf c hb) hp
theorem Cfg.setO {O' : List (Nat × Obj)} (h : O = O') (hc : Cfg C R O' Γ ks) : Cfg C R O Γ ks := by rw [h]; exact hc
theorem CfgL.setO {O' : List (Nat × Obj)} {rest : List Oper} (h : O = O') (hc : CfgL C R O' Γ ops rest ks) : CfgL C R O Γ ops rest ks := by rw [h]; exact hc
theorem CfgA.setO {O' Os : List (Nat × Obj)} {fuel : Nat} {l : Array Bool} (h : O = O') (hc : CfgA C R Os O' Γ ops fuel l ks) : CfgA C R Os O Γ ops fuel l ks := by rw [h]; exact hc
theorem Cfg.setG (h : Γ = Γ') (hc : Cfg C R O Γ' ks) : Cfg C R O Γ ks := by rw [h]; exact hc
def CfgI (C : Cx) (R Os O : List (Nat × Obj)) (Γ : Env) (ops : Array Oper) (fuel : Nat) (l : Array Bool) (i : Nat) (ks : List KI) : Prop :=
 ∀ a w,St C.fn.ntmps C.D Γ a → HP C.w0 C.M R O w → wpOp C.P ops (C.Q ks) i (fun a' w' => HP C.w0 C.M R Os w' ∧ wpAnyH C.P .any ops (C.Q ks) (HP C.w0 C.M R Os) fuel (l.setIfInBounds i true) a' w') a w
theorem CfgA.two {Os : List (Nat × Obj)} {fuel fuel' : Nat} {l : Array Bool} (i j : Nat) (hr : Region.ready .any ops l = [i,j]) (hf : fuel = fuel' + 1) (h1 : CfgI C R Os O Γ ops fuel' l i ks) (h2 : CfgI C R Os O Γ ops fuel' l j ks) : CfgA C R Os O Γ ops fuel l ks := by
 subst hf
 intro a w hs hp
 refine wpAnyH_all hr (by simp) ?_
 intro k hk
 simp only [List.mem_cons,List.not_mem_nil,or_false] at hk
 rcases hk with rfl | rfl
 ·exact h1 a w hs hp
 ·exact h2 a w hs hp
theorem CfgI.eff {Os : List (Nat × Obj)} {fuel : Nat} {l : Array Bool} {i : Nat} {o : Oper} (ho : ops[i]? = some o) (hd : DstOk C.fn.ntmps o = true) (hg : guardV Γ ops o = guardW o)
  {ι : Type} {V : ι → Value} {O' : ι → List (Nat × Obj)} {F : ι → Prop} (he : Eff C R O Γ o ι V O' F) (hO : ∀ x,F x → Os.Sublist (O' x))
  (h : ∀ x,F x → CfgA C R Os (O' x) (putO Γ o.dst (V x)) ops fuel (l.setIfInBounds i true) ks) : CfgI C R Os O Γ ops fuel l i ks := by
 intro a w hs hp
 unfold wpOp
 simp only [ho,goes_wanted hs hg,if_true]
 exact .inl (he a w hs hp _ _ (fun x w' hx hp' => ⟨hp'.sub (hO x hx),h x hx _ w' (putO_ok hs (DstOk.lt hd)) hp'⟩))
theorem Cfg.condT {c : Operand} {x y : Code} (hk : KD.nrm 99 ks = .inl (.cond c x y) :: ks') {b : Bool} (hc : opd Γ [] c = some (.bool b)) (hb : b = true) (h : Cfg C R O Γ (.inl x :: ks')) : Cfg C R O Γ ks :=
 Cfg.cond hk hc (fun _ => h) (fun hf => by rw [hb] at hf; cases hf)
theorem Cfg.condF {c : Operand} {x y : Code} (hk : KD.nrm 99 ks = .inl (.cond c x y) :: ks') {b : Bool} (hc : opd Γ [] c = some (.bool b)) (hb : b = false) (h : Cfg C R O Γ (.inl y :: ks')) : Cfg C R O Γ ks :=
 Cfg.cond hk hc (fun hf => by rw [hb] at hf; cases hf) (fun _ => h)
theorem HP.mut {w0 w w' : World} {M : List Nat} (h : HP w0 M R O w) (i : Nat) {b : Nat} {o o' : Obj} (hi : O[i]? = some (b,o)) (hx : Ext [b] w w') (hb : w'.heap[b]? = some o') : HP w0 M R (O.set i (b,o')) w' := by
 have h1 : HP w0 M R (O.eraseIdx i) w' := h.call hx _ (List.eraseIdx_sublist ..) (by
  intro k hk
  simp only [List.mem_cons,List.not_mem_nil,or_false] at hk
  subst hk
  exact List.mem_map.2 ⟨_,List.mem_of_getElem? hi,rfl⟩) (by
  intro e he hm
  simp only [List.mem_cons,List.not_mem_nil,or_false] at hm
  obtain ⟨j,hj⟩ := List.mem_iff_getElem?.1 he
  rw [List.getElem?_eraseIdx] at hj
  split at hj
  ·rename_i hlt
   have := nodup_inj h.dist (i := j) (j := i) (x := b) (by simp [hj,hm]) (by simp [hi])
   omega
  ·rename_i hlt
   have := nodup_inj h.dist (i := j + 1) (j := i) (x := b) (by simp [hj,hm]) (by simp [hi])
   omega)
 have hlt : i < O.length := (List.getElem?_eq_some_iff.1 hi).1
 have hmap : (O.set i (b,o')).map (·.1) = O.map (·.1) := by
  apply List.ext_getElem?
  intro j
  rw [List.map_set,List.getElem?_set]
  by_cases hij : i = j
  ·subst hij; simp [hlt]; have := (List.getElem?_eq_some_iff.1 hi).2; rw [this]
  ·rw [if_neg hij]
 have hmem : ∀ e ∈ O.set i (b,o'),e = (b,o') ∨ e ∈ O.eraseIdx i := by
  intro e he
  obtain ⟨j,hj⟩ := List.mem_iff_getElem?.1 he
  rw [List.getElem?_set] at hj
  by_cases hij : i = j
  ·subst hij; simp [hlt] at hj; exact .inl hj.symm
  ·rw [if_neg hij] at hj
   refine .inr (List.mem_iff_getElem?.2 ?_)
   by_cases hlt' : j < i
   ·exact ⟨j,by rw [List.getElem?_eraseIdx,if_pos hlt']; exact hj⟩
   ·exact ⟨j - 1,by rw [List.getElem?_eraseIdx,if_neg om,show j - 1 + 1 = j by omega]; exact hj⟩
 refine ⟨h1.ext,h1.ro,h1.rod,fun e he => ?_,by rw [hmap]; exact h.dist,fun e he => ?_⟩
 ·rcases hmem e he with rfl | he
  ·exact hb
  ·exact h1.own e he
 ·rcases hmem e he with rfl | he
  ·exact h.mine (b,o) (List.mem_of_getElem? hi)
  ·exact h1.mine e he
theorem Eff.callA {o : Oper} {f : FuncId} {fn : Func} {c : Code} {xs : List Operand} {tys : Array TypeId} {vs : List Value} (v : Value) (ho : o.op = .call ⟨.value (.func f),xs.toArray,tys⟩) (hf : C.P.funcs[f]? = some fn)
  (hnm : (fn.name == "runtime.NumGoroutine") = false) (hb : fn.body = some c) (hx : opds Γ xs = some vs)
  (h : ∀ w,HP C.w0 C.M R O w → Calls C.P f vs.toArray w fun e w' => e = .returned v ∧ Ext [] w w') : Eff C R O Γ o Unit (fun _ => v) (fun _ => O) (fun _ => True) :=
 Eff.call ho hf hnm hb hx fun w hp => (h w hp).mono fun _ _ hh => ⟨(),trivial,hh.1,hp.calm hh.2⟩
theorem Eff.callM {o : Oper} {f : FuncId} {fn : Func} {c : Code} {xs : List Operand} {tys : Array TypeId} {vs : List Value} (v : Value) (i : Nat) {b : Nat} {ob : Obj} (ob' : Obj) (ho : o.op = .call ⟨.value (.func f),xs.toArray,tys⟩) (hf : C.P.funcs[f]? = some fn)
  (hnm : (fn.name == "runtime.NumGoroutine") = false) (hb : fn.body = some c) (hx : opds Γ xs = some vs) (hi : O[i]? = some (b,ob))
  (h : ∀ w,HP C.w0 C.M R O w → Calls C.P f vs.toArray w fun e w' => e = .returned v ∧ Ext [b] w w' ∧ w'.heap[b]? = some ob') : Eff C R O Γ o Unit (fun _ => v) (fun _ => O.set i (b,ob')) (fun _ => True) :=
 Eff.call ho hf hnm hb hx fun w hp => (h w hp).mono fun _ _ hh => ⟨(),trivial,hh.1,hp.mut i hi hh.2.1 hh.2.2⟩
theorem Eff.callN {o : Oper} {f : FuncId} {fn : Func} {c : Code} {xs : List Operand} {tys : Array TypeId} {vs : List Value} {ι : Type} (V : ι → Value) (B : ι → Nat) (ob : ι → Obj) (F : ι → Prop) (ho : o.op = .call ⟨.value (.func f),xs.toArray,tys⟩) (hf : C.P.funcs[f]? = some fn)
  (hnm : (fn.name == "runtime.NumGoroutine") = false) (hb : fn.body = some c) (hx : opds Γ xs = some vs)
  (h : ∀ w,HP C.w0 C.M R O w → Calls C.P f vs.toArray w fun e w' => ∃ x,F x ∧ e = .returned (V x) ∧ w.heap.size ≤ B x ∧ w'.heap[B x]? = some (ob x) ∧ Ext [] w w') :
  Eff C R O Γ o ι V (fun x => (B x,ob x) :: O) (fun x => F x ∧ C.w0.heap.size ≤ B x ∧ B x ∉ O.map (·.1)) :=
 Eff.call ho hf hnm hb hx fun w hp => (h w hp).mono fun _ _ hh => by
  obtain ⟨x,hF,he,hs,hg,hE⟩ := hh
  exact ⟨x,⟨hF,Nat.le_trans hp.ext.size hs,hp.fresh hs⟩,he,(hp.calm hE).add hg (hp.fresh hs) (.inl (Nat.le_trans hp.ext.size hs))⟩
end
section
variable {w0 w w' : World} {M : List Nat} {R O : List (Nat × Obj)} {P : Program}
theorem HP.oload (h : HP w0 M R O w) (i : Nat) {b n : Nat} {ty t : TypeId} {cs : Array Value} {fr : Nat × Nat} {d : TypeDesc} (ho : O[i]? = some (b,.cells cs t fr)) (hu : P.underlying ty = some d) (hd : (match d with | .struct _ | .array _ _ => true | _ => false) = true)
  (hi : (P.info? ty).map (·.size) = some n) (hn : cs.size = n) : (loadVar ty ⟨b,0,none⟩).run P w = .ok (.agg cs) w :=
 load_row (h.own _ (List.mem_of_getElem? ho)) hu hd hi hn
theorem HP.ofHas {w : World} {L : List (Nat × Obj)} (h : Has w L) : HP w [] L [] w :=
 ⟨Ext.refl _ _,h,fun e he => ⟨lt_of_get (h e he),by simp⟩,(fun _ h => by cases h),by simp,(fun _ h => by cases h)⟩
theorem HP.has {w0 w : World} {M : List Nat} {L : List (Nat × Obj)} (h : HP w0 M R O w) (hL : ∀ e ∈ L,e ∈ O) : Has w L := fun e he => h.own e (hL e he)
theorem HP.hasR {w0 w : World} {M : List Nat} {L : List (Nat × Obj)} (h : HP w0 M R O w) (hL : ∀ e ∈ L,e ∈ R) : Has w L := fun e he => h.ro e (hL e he)
end
theorem Eff.callE {C : Cx} {R O : List (Nat × Obj)} {Γ : Env} {o : Oper} {f : FuncId} {fn : Func} {xs : List Operand} {tys : Array TypeId} {vs : List Value} (v : Value) {e : Array Value → Sem Value} (ho : o.op = .call ⟨.value (.func f),xs.toArray,tys⟩) (hf : C.P.funcs[f]? = some fn)
  (hnm : (fn.name == "runtime.NumGoroutine") = false) (hb : fn.body.isNone = true) (h1 : (Extern.findNext fn).isNone = true) (h2 : Extern.find fn = some e) (hx : opds Γ xs = some vs)
  (h : ∀ w,HP C.w0 C.M R O w → (e vs.toArray).run C.P w = .ok v w) : Eff C R O Γ o Unit (fun _ => v) (fun _ => O) (fun _ => True) :=
 Eff.of_run fun a w hs hp => ⟨(),w,trivial,by
  have hargs := opds_ok hs hx
  have hc := run_extern hf hnm hb h1 h2 (h w hp)
  simp [execOp,ho,resolve,Deferred.ofValue,Act.eval,invoke,hargs,hc],hp⟩
end KD
end Go.Proofs.YtinhinjpfmdfiaaGreatDoor
namespace Go.Proofs.YtinhinjpfmdfiaaGreatDoor
namespace KD
open K
set_option linter.unusedVariables false
theorem compare32 {P : Program} {w : World} {x y : Nat} {t t' : TypeId} {fr fr' : Nat × Nat} {a b : List UInt8} (ha : a.length = 32) (hb : b.length = 32) (hx : w.heap[x]? = some (.cells (bv a) t fr)) (hy : w.heap[y]? = some (.cells (bv b) t' fr')) :
  (Extern.BytealgCompare.compare #[.slice (some ⟨x,0,none⟩) 32 32,.slice (some ⟨y,0,none⟩) 32 32]).run P w = .ok (.int .i64 (cmpL a b)) w := by
 have := run_compare (P := P) (c := 32) (c' := 32) hx hy
 rw [ha,hb] at this; exact this
def cfL (a b : List UInt8) : Int := if cmpL a b < 0 then -1 else if cmpL b a < 0 then 1 else 0
set_option maxRecDepth 100000 in
theorem bytesCompare (x y : Nat) (a b : List UInt8) (w : World) (ha : a.length = 32) (hb : b.length = 32) (hR : Has w [(y,.cells (bv b) 35 (0,0)),(x,.cells (bv a) 35 (0,0))]) :
  Calls Tryz.prog 57 #[.slice (some ⟨x,0,none⟩) 32 32,.slice (some ⟨y,0,none⟩) 32 32] w fun e w' => e = .returned (.int .i64 (cmpL a b)) ∧ Ext [] w w' := by
 refine enter (vs := [.slice (some ⟨x,0,none⟩) 32 32,.slice (some ⟨y,0,none⟩) 32 32]) [] [(y,.cells (bv b) 35 (0,0)),(x,.cells (bv a) 35 (0,0))] [] Tryz.func57 rfl kr (HP.ofHas hR) ?_
 refine Cfg.reg rfl [0,1] [] (Γ' := [(0,[],.slice (some ⟨x,0,none⟩) 32 32),(1,[],.slice (some ⟨y,0,none⟩) 32 32)]) (nd := (fun _ => [])) (fun _ => kr) trivial ?_
 refine Cfg.begL rfl ?_
 refine CfgL.pure 2 [] (some [5,6]) (Γ' := [(6,[],.slice (some ⟨y,0,none⟩) 32 32),(5,[],.slice (some ⟨x,0,none⟩) 32 32)]) (nd := (fun _ => [])) kr (fun _ => kr) trivial ?_
 refine CfgL.eff (o := _) rfl kr kr (Eff.callE (vs := [.slice (some ⟨x,0,none⟩) 32 32,.slice (some ⟨y,0,none⟩) 32 32]) (.int .i64 (cmpL a b)) (e := Extern.BytealgCompare.compare) rfl Tryz.func100 rfl rfl kr kr kr (fun w1 h => compare32 ha hb (h.ro _ (List.mem_cons_of_mem _ (List.mem_cons_self ..))) (h.ro _ (List.mem_cons_self ..)))) ?_
 rintro ⟨⟩ -
 refine CfgL.pure 1 [] (some [4]) (Γ' := [(4,[],.int .i64 (cmpL a b))]) (nd := (fun _ => [])) kr (fun _ => kr) trivial ?_
 refine CfgL.done rfl ?_
 refine Cfg.ret rfl (rs := [.tmp 4]) rfl [.int .i64 (cmpL a b)] ⟨kr,trivial⟩ (fun w1 hp => ?_)
 exact ⟨rfl,hp.ext⟩
set_option maxRecDepth 100000 in
theorem shaLess (a b : List UInt8) (w : World) (ha : a.length = 32) (hb : b.length = 32) :
  Calls Tryz.prog 31 #[.agg (bv a),.agg (bv b)] w fun e w' => e = .returned (.bool (decide (cmpL a b < 0))) ∧ Ext [] w w' := by
 refine enter (vs := [.agg (bv a),.agg (bv b)]) [] [] [] Tryz.func31 rfl kr (HP.start w) ?_
 refine Cfg.begL rfl ?_
 refine CfgL.eff (o := _) rfl kr kr (Eff.box (v := .agg (bv a)) rfl kr) ?_
 rintro x ⟨hx,nx⟩
 refine CfgL.eff (o := _) rfl kr kr (Eff.box (v := .agg (bv b)) rfl kr) ?_
 rintro y ⟨hy,ny⟩
 refine CfgL.pure 1 [] (some [2,3]) (Γ' := [(3,[],.pointer (some ⟨y,0,none⟩)),(2,[],.pointer (some ⟨x,0,none⟩))]) (nd := (fun _ => [])) kr (fun _ => kr) trivial ?_
 refine CfgL.done rfl ?_
 refine Cfg.begA rfl kr [(y,.cells (bv b) 35 (0,0)),(x,.cells (bv a) 35 (0,0))] ?_
 refine CfgA.pure [0,1] [] (some [5,6]) (l' := #[true,true,false,false,false]) kr kr (.cons_cons _ (.cons_cons _ .slnil)) 3 rfl (Γ' := [(6,[],.slice (some ⟨y,0,none⟩) 32 32),(5,[],.slice (some ⟨x,0,none⟩) 32 32)]) (nd := (fun _ => [(32 ≤ 32),(32 ≤ 32)])) (fun _ => kr) ⟨om,om,trivial⟩ ?_
 refine CfgA.eff 2 (o := _) rfl kr (fuel' := 2) rfl kr kr (Eff.callA (vs := [.slice (some ⟨x,0,none⟩) 32 32,.slice (some ⟨y,0,none⟩) 32 32]) (.int .i64 (cmpL a b)) rfl Tryz.func57 rfl rfl kr (fun w1 h => bytesCompare x y a b w1 ha hb (h.has (fun e he => he)))) (fun _ _ => (.cons_cons _ (.cons_cons _ .slnil))) ?_
 rintro ⟨⟩ -
 refine CfgA.pure [3,4] [] (some [4]) (l' := #[true,true,true,true,true]) kr kr (.cons_cons _ (.cons_cons _ .slnil)) 0 rfl (Γ' := [(4,[],.bool (decide ((cmpL a b) < (0 : Int))))]) (nd := (fun _ => [])) (fun _ => kr) trivial ?_
 refine CfgA.done kr ?_
 refine Cfg.ret rfl (rs := [.tmp 4]) rfl [.bool (decide ((cmpL a b) < (0 : Int)))] ⟨kr,trivial⟩ (fun w1 hp => ?_)
 exact ⟨rfl,hp.ext⟩
set_option maxRecDepth 100000 in
theorem dCompare (a b : List UInt8) (w : World) (ha : a.length = 32) (hb : b.length = 32) :
  Calls Tryz.prog 18 #[.agg (bv a),.agg (bv b)] w fun e w' => e = .returned (.int .i64 (cfL a b)) ∧ Ext [] w w' := by
 refine enter (vs := [.agg (bv a),.agg (bv b)]) [] [] [] Tryz.func18 rfl kr (HP.start w) ?_
 refine Cfg.begL rfl ?_
 refine CfgL.eff (o := _) rfl kr kr (Eff.box (v := .agg (bv a)) rfl kr) ?_
 rintro x ⟨hx,nx⟩
 refine CfgL.eff (o := _) rfl kr kr (Eff.box (v := .agg (bv b)) rfl kr) ?_
 rintro y ⟨hy,ny⟩
 refine CfgL.pure 1 [] (some [2,3]) (Γ' := [(3,[],.pointer (some ⟨y,0,none⟩)),(2,[],.pointer (some ⟨x,0,none⟩))]) (nd := (fun _ => [])) kr (fun _ => kr) trivial ?_
 refine CfgL.done rfl ?_
 refine Cfg.begL rfl ?_
 refine CfgL.pure 2 [(0,false,some (.agg (bv a))),(0,false,some (.agg (bv b)))] none (Γ' := [(7,[],.agg (bv b)),(6,[],.agg (bv a)),(3,[],.pointer (some ⟨y,0,none⟩)),(2,[],.pointer (some ⟨x,0,none⟩))]) (nd := (fun S => [(∀ w1,S w1 → (loadVar 35 ⟨x,0,none⟩).run Tryz.prog w1 = .ok (.agg (bv a)) w1),(∀ w1,S w1 → (loadVar 35 ⟨y,0,none⟩).run Tryz.prog w1 = .ok (.agg (bv b)) w1)])) kr (fun _ => kr) ⟨(fun w1 h => h.oload 1 rfl Tryz.underlying35 rfl (n := 32) kr ((bv_size _).trans ha)),(fun w1 h => h.oload 0 rfl Tryz.underlying35 rfl (n := 32) kr ((bv_size _).trans hb)),trivial⟩ ?_
 refine CfgL.eff (o := _) rfl kr kr (Eff.callA (vs := [.agg (bv a),.agg (bv b)]) (.bool (decide (cmpL a b < 0))) rfl Tryz.func31 rfl rfl kr (fun w1 h => shaLess a b w1 ha hb)) ?_
 rintro ⟨⟩ -
 refine CfgL.pure 1 [] (some [2,3,5]) (Γ' := [(5,[],.bool (decide (cmpL a b < 0))),(3,[],.pointer (some ⟨y,0,none⟩)),(2,[],.pointer (some ⟨x,0,none⟩))]) (nd := (fun _ => [])) kr (fun _ => kr) trivial ?_
 refine CfgL.done rfl ?_
 refine Cfg.cond rfl (b := (decide (cmpL a b < 0))) kr (fun c1r => ?_) (fun c1r => ?_)
 ·have c1 : ((decide (cmpL a b < 0)) = true) := c1r
  refine Cfg.reg rfl [4] [] (Γ' := [(4,[],.int .i64 (-1))]) (nd := (fun _ => [])) (fun _ => kr) trivial ?_
  refine Cfg.ret rfl (rs := [.tmp 4]) rfl [.int .i64 (-1)] ⟨kr,trivial⟩ (fun w1 hp => ?_)
  have q1 := of_decide_eq_true c1
  exact ⟨by rw [cfL,if_pos q1]; rfl,hp.ext⟩
 ·have c1 : ((decide (cmpL a b < 0)) = false) := c1r
  refine Cfg.begL rfl ?_
  refine CfgL.pure 2 [(0,false,some (.agg (bv b))),(0,false,some (.agg (bv a)))] (some [10,11]) (Γ' := [(11,[],.agg (bv a)),(10,[],.agg (bv b))]) (nd := (fun S => [(∀ w1,S w1 → (loadVar 35 ⟨y,0,none⟩).run Tryz.prog w1 = .ok (.agg (bv b)) w1),(∀ w1,S w1 → (loadVar 35 ⟨x,0,none⟩).run Tryz.prog w1 = .ok (.agg (bv a)) w1)])) kr (fun _ => kr) ⟨(fun w1 h => h.oload 0 rfl Tryz.underlying35 rfl (n := 32) kr ((bv_size _).trans hb)),(fun w1 h => h.oload 1 rfl Tryz.underlying35 rfl (n := 32) kr ((bv_size _).trans ha)),trivial⟩ ?_
  refine CfgL.eff (o := _) rfl kr kr (Eff.callA (vs := [.agg (bv b),.agg (bv a)]) (.bool (decide (cmpL b a < 0))) rfl Tryz.func31 rfl rfl kr (fun w1 h => shaLess b a w1 hb ha)) ?_
  rintro ⟨⟩ -
  refine CfgL.pure 1 [] (some [9]) (Γ' := [(9,[],.bool (decide (cmpL b a < 0)))]) (nd := (fun _ => [])) kr (fun _ => kr) trivial ?_
  refine CfgL.done rfl ?_
  refine Cfg.cond rfl (b := (decide (cmpL b a < 0))) kr (fun c2r => ?_) (fun c2r => ?_)
  ·have c2 : ((decide (cmpL b a < 0)) = true) := c2r
   refine Cfg.reg rfl [4] [] (Γ' := [(4,[],.int .i64 1)]) (nd := (fun _ => [])) (fun _ => kr) trivial ?_
   refine Cfg.ret rfl (rs := [.tmp 4]) rfl [.int .i64 1] ⟨kr,trivial⟩ (fun w1 hp => ?_)
   have q1 := of_decide_eq_false c1
   have q2 := of_decide_eq_true c2
   exact ⟨by rw [cfL,if_neg q1,if_pos q2]; rfl,hp.ext⟩
  ·have c2 : ((decide (cmpL b a < 0)) = false) := c2r
   refine Cfg.reg rfl [4] [] (Γ' := [(4,[],.int .i64 0)]) (nd := (fun _ => [])) (fun _ => kr) trivial ?_
   refine Cfg.ret rfl (rs := [.tmp 4]) rfl [.int .i64 0] ⟨kr,trivial⟩ (fun w1 hp => ?_)
   have q1 := of_decide_eq_false c1
   have q2 := of_decide_eq_false c2
   exact ⟨by rw [cfL,if_neg q1,if_neg q2]; rfl,hp.ext⟩
end KD
end Go.Proofs.YtinhinjpfmdfiaaGreatDoor
namespace Go.Proofs.YtinhinjpfmdfiaaGreatDoor
open K
set_option linter.unusedVariables false
def be (n : Nat) : Nat → List UInt8
 | 0 => []
 | k + 1 => UInt8.ofNat (n / 256 ^ k) :: be n k
theorem be_len (n : Nat) : ∀ k,(be n k).length = k
 | 0 => rfl
 | k + 1 => by rw [be,List.length_cons,be_len n k]
theorem u8_mod (m : Nat) : UInt8.ofNat (m % 256) = UInt8.ofNat m := by
 apply UInt8.toNat_inj.1
 simp
def beS (n k : Nat) : ByteArray := ⟨(be n k).toArray⟩
theorem beS_size (n k : Nat) : (beS n k).size = k := by simp [beS,ByteArray.size,be_len]
def tx (l : List UInt8) : ByteArray := ⟨l.toArray⟩
theorem tx_size (l : List UInt8) : (tx l).size = l.length := by simp [tx,ByteArray.size]
theorem tx_back (s : ByteArray) : tx s.data.toList = s := by cases s; rfl
end Go.Proofs.YtinhinjpfmdfiaaGreatDoor
namespace Go.Proofs.YtinhinjpfmdfiaaGreatDoor
open K
set_option linter.unusedVariables false
def text4 (s : ByteArray) : List UInt8 := be s.size 4 ++ s.data.toList
end Go.Proofs.YtinhinjpfmdfiaaGreatDoor
namespace Go.Proofs.YtinhinjpfmdfiaaGreatDoor
open K
set_option linter.unusedVariables false
theorem byteLt (b : UInt8) : b.toNat < 256 := UInt8.toNat_lt b
structure IN where
 er : Int
 rest : List UInt8
def failF (z : IN) (e : Int) : IN := if z.er = 0 then ⟨e,z.rest⟩ else z
def gb (l : List UInt8) (i : Nat) : UInt8 := l.getD i 0
end Go.Proofs.YtinhinjpfmdfiaaGreatDoor
namespace Go.Proofs.YtinhinjpfmdfiaaGreatDoor
open K
set_option linter.unusedVariables false
def nd (n i : Nat) : Nat := n / 256 ^ i
theorem nd_zero (n : Nat) : nd n 0 = n := by simp [nd]
theorem nd_succ (n i : Nat) : nd n i / 256 = nd n (i + 1) := by unfold nd; rw [Nat.pow_succ,Nat.div_div_eq_div_mul]
theorem str1 {P : Program} {w0 w : World} {M : List Nat} {R O : List (Nat × Obj)} (h : HP w0 M R O w) (i : Nat) {b : Nat} {t : TypeId} {x : Int} (ho : O[i]? = some (b,.cells #[.int .u8 x] t (0,0))) (h0 : 0 ≤ x ∧ x ≤ 255) :
  (Conv.bytesToString (.slice (some ⟨b,0,none⟩) 1 1)).run P w = .ok (.string (tx [UInt8.ofNat x.toNat])) w := by
 have e1 : (#[.int .u8 x] : Array Value) = bv [UInt8.ofNat x.toNat] := by
  simp only [bv,List.map_cons,List.map_nil]
  rw [show ((UInt8.ofNat x.toNat).toNat : Int) = x by simp; omega]
 rw [e1] at ho
 exact h.ostr i ho rfl
theorem be_step (n i : Nat) : tx [UInt8.ofNat (((nd n i : Int) % 256) % 256).toNat] ++ beS n i = beS n (i + 1) := by
 apply ByteArray.ext
 rw [ByteArray.data_append]
 apply Array.ext'
 rw [show (((nd n i : Int) % 256) % 256).toNat = nd n i % 256 by omega,u8_mod]
 simp [tx,beS,be,nd]
theorem tx_app (a b : List UInt8) : tx a ++ tx b = tx (a ++ b) := by
 apply ByteArray.ext
 rw [ByteArray.data_append]
 apply Array.ext'
 simp [tx]
theorem take_one {l : List UInt8} {i : Nat} (h : i < l.length) : l.take i ++ [l.getD i 0] = l.take (i + 1) := by
 rw [List.take_succ_eq_append_getElem h]; simp [List.getElem?_eq_getElem h]
theorem u8_same (b : UInt8) : UInt8.ofNat ((b.toNat : Int)).toNat = b := by simp
theorem ba_tx (s : ByteArray) : s = tx s.data.toList := (tx_back s).symm
theorem text4_len (s : ByteArray) : (text4 s).length = 4 + s.size := by unfold text4; rw [List.length_append,be_len,ba_len]
set_option maxRecDepth 100000 in
theorem rNum (n k : Nat) (w : World) (hn : n < 18446744073709551616) (hk : k ≤ 8) :
  Calls Tryz.prog 40 #[.int .u64 (n : Int),.int .i64 (k : Int)] w fun e w' => e = .returned (.string (beS n k)) ∧ Ext [] w w' := by
 refine enter (vs := [.int .u64 (n : Int),.int .i64 (k : Int)]) [] [] [] Tryz.func40 rfl kr (HP.start w) ?_
 refine Rg [0,1] [] n0 trivial ?_
 refine Rg [0,1,5] [] n0 trivial ?_
 refine Rg [0,1,5,6] [] n0 trivial ?_
 refine Cg (Γ' := [(6,[],.int .i64 0),(5,[],.string ⟨#[]⟩),(0,[],.int .u64 (n : Int)),(1,[],.int .i64 (k : Int))]) ?_
 refine Cfg.setG (congrArg (fun (xq : Int) => ([(6,[],.int .i64 0),(5,[],.string ⟨#[]⟩),(0,[],.int .u64 xq),(1,[],.int .i64 (k : Int))] : Env)) (show _ = ((nd n 0) : Int) from by rw [nd_zero])) ?_
 refine Cfg.loop rfl (ι := Nat) (fun (i : Nat) => [(6,[],.int .i64 (i : Int)),(5,[],.string (beS n i)),(0,[],.int .u64 ((nd n i) : Int)),(1,[],.int .i64 (k : Int))]) (fun (i : Nat) => []) (fun (i : Nat) => (i ≤ k)) (fun (i : Nat) => k - i) 0 ?_ (Conv.mk kr) .slnil ?_
 ·exact Nat.zero_le _
 ·rintro i hi
  refine Rg [0,1,5,6,9] [] n0 trivial ?_
  refine Cfg.cond rfl (b := (decide ((i : Int) < (k : Int)))) kr (fun c1r => ?_) (fun c1r => ?_)
  ·have c1 := (of_decide_eq_true c1r)
   refine Cfg.begL rfl ?_
   refine Lp 3 [] (some [0,1,5,6,14]) (fun _ => [(0 ≤ ((nd n i) : Int) ∧ 0 < (256 : Int))]) ⟨(by have : nd n i ≤ n := Nat.div_le_self _ _; omega),trivial⟩ ?_
   refine Le (Eff.buildSlice (e := 5) (cells := #[.int .u8 ((((nd n i) : Int) % 256) % 256)]) (parts := #[(0,.int .u8 ((((nd n i) : Int) % 256) % 256))]) rfl kr (fun _ => kr)) ?_
   rintro x1 ⟨hx1,nx1⟩
   refine Lp 4 [(0,false,some (.string (tx [UInt8.ofNat (((((nd n i) : Int) % 256) % 256)).toNat])))] (some [0,1,5,6]) (fun S => [(∀ w1,S w1 → (Conv.bytesToString (.slice (some ⟨x1,0,none⟩) 1 1)).run Tryz.prog w1 = .ok (.string (tx [UInt8.ofNat (((((nd n i) : Int) % 256) % 256)).toNat])) w1),((tx [UInt8.ofNat (((((nd n i) : Int) % 256) % 256)).toNat]).size + (beS n i).size ≤ 9223372036854775807)]) ⟨(fun w1 h => str1 h 0 rfl om),(by rw [beS_size,tx_size]; simp only [List.length_cons,List.length_nil]; omega),trivial⟩ ?_
   refine CfgL.done rfl ?_
   refine Rg [0,1,5,6] [] (fun _ => [(0 ≤ ((nd n i) : Int) ∧ ((nd n i) : Int) ≤ 18446744073709551615 ∧ 0 < (256 : Int))]) ⟨(by have : nd n i ≤ n := Nat.div_le_self _ _; omega),trivial⟩ ?_
   refine Rg [0,1,5,6] [] (fun _ => [((-9223372036854775808 : Int) ≤ ((i : Int) + 1) ∧ ((i : Int) + 1) ≤ 9223372036854775807)]) ⟨om,trivial⟩ ?_
   refine Cg (Γ' := [(6,[],.int .i64 ((i : Int) + 1)),(0,[],.int .u64 (((nd n i) : Int) / 256)),(5,[],.string ((tx [UInt8.ofNat (((((nd n i) : Int) % 256) % 256)).toNat]) ++ (beS n i))),(1,[],.int .i64 (k : Int))]) ?_
   refine Cfg.setG (congrArg (fun (xq : ByteArray) => ([(6,[],.int .i64 ((i : Int) + 1)),(0,[],.int .u64 (((nd n i) : Int) / 256)),(5,[],.string xq),(1,[],.int .i64 (k : Int))] : Env)) (show _ = (beS n (i + 1)) from be_step n i)) ?_
   refine Cg (Γ' := [(6,[],.int .i64 ((i : Int) + 1)),(0,[],.int .u64 (((nd n i) : Int) / 256)),(5,[],.string (beS n (i + 1))),(1,[],.int .i64 (k : Int))]) ?_
   refine Cfg.setG (congrArg (fun (xq : Int) => ([(6,[],.int .i64 ((i : Int) + 1)),(0,[],.int .u64 xq),(5,[],.string (beS n (i + 1))),(1,[],.int .i64 (k : Int))] : Env)) (show _ = ((nd n (i + 1)) : Int) from by rw [← nd_succ]; rfl)) ?_
   refine Cfg.again rfl (i + 1) (show i + 1 ≤ k by omega) om (Conv.mk kr) (.cons _ .slnil)
  ·have c1 := (of_decide_eq_false c1r)
   refine Rg [4] [] n0 trivial ?_
   refine Cfg.ret rfl (rs := [.tmp 4]) rfl [.string (beS n i)] ⟨kr,trivial⟩ (fun w1 hp => ?_)
   obtain rfl : i = k := by omega
   exact ⟨rfl,hp.ext⟩
set_option maxRecDepth 100000 in
theorem rText (s : ByteArray) (w : World) (hs : s.size ≤ 9223372036854775000) :
  Calls Tryz.prog 42 #[.string s] w fun e w' => e = .returned (.string (tx (text4 s))) ∧ Ext [] w w' := by
 refine enter (vs := [.string s]) [] [] [] Tryz.func42 rfl kr (HP.start w) ?_
 refine Rg [0] [] n0 trivial ?_
 refine Cfg.begL rfl ?_
 refine Lp 3 [] (some [0,5]) n0 trivial ?_
 refine Le (Eff.callA (vs := [.int .u64 ((s.size : Int) % 18446744073709551616),.int .i64 4]) (.string (beS s.size 4)) rfl Tryz.func40 rfl rfl kr (fun w1 _ => by rw [show ((s.size : Int) % 18446744073709551616) = (s.size : Int) by omega]; exact rNum s.size 4 w1 om (by decide))) ?_
 rintro ⟨⟩ -
 refine Lp 3 [] (some [2]) (fun _ => [((beS s.size 4).size + s.size ≤ 9223372036854775807)]) ⟨(by rw [beS_size]; omega),trivial⟩ ?_
 refine CfgL.done rfl ?_
 refine Cfg.ret rfl (rs := [.tmp 2]) rfl [.string ((beS s.size 4) ++ s)] ⟨kr,trivial⟩ (fun w1 hp => ?_)
 exact ⟨congrArg (fun x => Ending.returned (.string x)) (show beS s.size 4 ++ s = tx (text4 s) by rw [ba_tx s]; exact (tx_app (be s.size 4) s.data.toList).trans (by rw [tx_back]; rfl)),hp.ext⟩
set_option maxRecDepth 100000 in
theorem rDigest (l : List UInt8) (w : World) (hl : l.length = 32) :
  Calls Tryz.prog 41 #[.agg (bv l)] w fun e w' => e = .returned (.string (tx l)) ∧ Ext [] w w' := by
 refine enter (vs := [.agg (bv l)]) [] [] [] Tryz.func41 rfl kr (HP.start w) ?_
 refine Cfg.begL rfl ?_
 refine Le (Eff.box (v := .agg (bv l)) rfl kr) ?_
 rintro d ⟨hd,nd⟩
 refine Lp 1 [] (some [1]) n0 trivial ?_
 refine CfgL.done rfl ?_
 refine Rg [1,3] [] n0 trivial ?_
 refine Rg [1,3,4] [] n0 trivial ?_
 refine Cfg.loop rfl (ι := Nat) (fun (i : Nat) => [(4,[],.int .i64 (i : Int)),(3,[],.string (tx (l.take i))),(1,[],.pointer (some ⟨d,0,none⟩))]) (fun (i : Nat) => [(d,.cells (bv l) 35 (0,0))]) (fun (i : Nat) => (i ≤ 32)) (fun (i : Nat) => 32 - i) 0 ?_ (Conv.mk kr) (.cons_cons _ .slnil) ?_
 ·exact Nat.zero_le _
 ·rintro i hi
  refine Rg [1,3,4,6] [] n0 trivial ?_
  refine Cfg.cond rfl (b := (decide ((i : Int) < (32 : Int)))) kr (fun c1r => ?_) (fun c1r => ?_)
  ·have c1 := (of_decide_eq_true c1r)
   refine Cfg.begL rfl ?_
   refine Lp 4 [dZ,dZ,dZ,(0,false,some (.int .u8 ((l.getD i 0).toNat : Int)))] (some [1,3,4,9,12]) (fun S => [(0 ≤ (i : Int) ∧ (i : Int) < (32 : Int)),(∀ w1,S w1 → w1.cell? ⟨d,i,none⟩ = some (.int .u8 ((l.getD i 0).toNat : Int)))]) ⟨(by have := byteLt (l.getD i 0); omega),(fun w1 h => h.ocell 0 rfl (bv_get hl om)),trivial⟩ ?_
   refine Le (Eff.buildSlice (e := 5) (cells := #[.int .u8 ((l.getD i 0).toNat : Int)]) (parts := #[(0,.int .u8 ((l.getD i 0).toNat : Int))]) rfl kr (fun _ => kr)) ?_
   rintro x ⟨hx,nx⟩
   refine Lp 3 [(0,false,some (.string (tx [UInt8.ofNat (((l.getD i 0).toNat : Int)).toNat])))] (some [1,3,4]) (fun S => [(∀ w1,S w1 → (Conv.bytesToString (.slice (some ⟨x,0,none⟩) 1 1)).run Tryz.prog w1 = .ok (.string (tx [UInt8.ofNat (((l.getD i 0).toNat : Int)).toNat])) w1),((tx (l.take i)).size + (tx [UInt8.ofNat (((l.getD i 0).toNat : Int)).toNat]).size ≤ 9223372036854775807)]) ⟨(fun w1 h => str1 h 0 rfl (by have := byteLt (l.getD i 0); omega)),(by rw [tx_size,tx_size]; simp only [List.length_cons,List.length_nil,List.length_take]; omega),trivial⟩ ?_
   refine CfgL.done rfl ?_
   refine Rg [1,3,4] [] (fun _ => [((-9223372036854775808 : Int) ≤ ((i : Int) + 1) ∧ ((i : Int) + 1) ≤ 9223372036854775807)]) ⟨(by have := byteLt (l.getD i 0); omega),trivial⟩ ?_
   refine Cg (Γ' := [(4,[],.int .i64 ((i : Int) + 1)),(3,[],.string ((tx (l.take i)) ++ (tx [UInt8.ofNat (((l.getD i 0).toNat : Int)).toNat]))),(1,[],.pointer (some ⟨d,0,none⟩))]) ?_
   refine Cfg.setG (congrArg (fun (xq : ByteArray) => ([(4,[],.int .i64 ((i : Int) + 1)),(3,[],.string xq),(1,[],.pointer (some ⟨d,0,none⟩))] : Env)) (show _ = (tx (l.take (i + 1))) from by rw [u8_same,tx_app,take_one om])) ?_
   refine Cfg.again rfl (i + 1) (show i + 1 ≤ 32 by omega) om (Conv.mk kr) (.cons _ (.cons_cons _ .slnil))
  ·have c1 := (of_decide_eq_false c1r)
   refine Rg [2] [] n0 trivial ?_
   refine Cfg.ret rfl (rs := [.tmp 2]) rfl [.string (tx (l.take i))] ⟨kr,trivial⟩ (fun w1 hp => ?_)
   exact ⟨by rw [show l.take i = l from List.take_of_length_le om]; rfl,hp.ext⟩
end Go.Proofs.YtinhinjpfmdfiaaGreatDoor
namespace Go.Proofs.YtinhinjpfmdfiaaGreatDoor
open K
set_option linter.unusedVariables false
theorem le_pow {b n : Nat} (h : n < 2 ^ b) : (n : Int) ≤ ((2 ^ b - 1 : Nat) : Int) := by omega
theorem tn_lt {x b : Nat} (h : x < 2 ^ b) : ((x : Int)).toNat < 2 ^ b := by rw [Int.toNat_natCast]; exact h
def rotl (x a b : Nat) : Nat := (x * a % 4294967296) ||| (x / b)
theorem rotl_lt {x a b : Nat} (h : x < 2 ^ 32) : rotl x a b < 2 ^ 32 :=
 Nat.or_lt_two_pow (Nat.mod_lt _ (by decide)) (Nat.lt_of_le_of_lt (Nat.div_le_self _ _) h)
set_option maxRecDepth 100000 in
theorem rot25 (x : Nat) (w : World) (hx : x < 2 ^ 32) :
  Calls Tryz.prog 176 #[.int .u32 (x : Int),.int .i64 (-7)] w fun e w' => e = .returned (.int .u32 (rotl x 33554432 128 : Int)) ∧ Ext [] w w' := by
 refine enter (vs := [.int .u32 (x : Int),.int .i64 (-7)]) [] [] [] Tryz.func176 rfl kr (HP.start w) ?_
 refine Rg [0,1] [] n0 trivial ?_
 refine Rg [0,5] [] (fun _ => [((0 ≤ (18446744073709551609 : Int) ∧ (18446744073709551609 : Int) ≤ 18446744073709551615) ∧ 0 ≤ (31 : Int) ∧ (31 : Int) ≤ 18446744073709551615)]) ⟨om,trivial⟩ ?_
 refine Rg [4] [] (fun _ => [(0 ≤ (25 : Int) ∧ 25 ≤ 32),(0 ≤ (7 : Int) ∧ 7 ≤ 32),((0 ≤ (((x : Int) * 33554432) % 4294967296) ∧ (((x : Int) * 33554432) % 4294967296) ≤ 4294967295) ∧ 0 ≤ ((x : Int) / 128) ∧ ((x : Int) / 128) ≤ 4294967295)]) ⟨om,om,om,trivial⟩ ?_
 refine Cfg.ret rfl (rs := [.tmp 4]) rfl [.int .u32 ((((((x : Int) * 33554432) % 4294967296)).toNat ||| (((x : Int) / 128)).toNat : Nat) : Int)] ⟨kr,trivial⟩ (fun w1 hp => ?_)
 refine ⟨?_,hp.ext⟩
 unfold rotl
 rw [show x * 33554432 % 4294967296 = ((x : Int) * 33554432 % 4294967296).toNat by omega,show x / 128 = ((x : Int) / 128).toNat by omega]
 rfl
set_option maxRecDepth 100000 in
theorem rot14 (x : Nat) (w : World) (hx : x < 2 ^ 32) :
  Calls Tryz.prog 176 #[.int .u32 (x : Int),.int .i64 (-18)] w fun e w' => e = .returned (.int .u32 (rotl x 16384 262144 : Int)) ∧ Ext [] w w' := by
 refine enter (vs := [.int .u32 (x : Int),.int .i64 (-18)]) [] [] [] Tryz.func176 rfl kr (HP.start w) ?_
 refine Rg [0,1] [] n0 trivial ?_
 refine Rg [0,5] [] (fun _ => [((0 ≤ (18446744073709551598 : Int) ∧ (18446744073709551598 : Int) ≤ 18446744073709551615) ∧ 0 ≤ (31 : Int) ∧ (31 : Int) ≤ 18446744073709551615)]) ⟨om,trivial⟩ ?_
 refine Rg [4] [] (fun _ => [(0 ≤ (14 : Int) ∧ 14 ≤ 32),(0 ≤ (18 : Int) ∧ 18 ≤ 32),((0 ≤ (((x : Int) * 16384) % 4294967296) ∧ (((x : Int) * 16384) % 4294967296) ≤ 4294967295) ∧ 0 ≤ ((x : Int) / 262144) ∧ ((x : Int) / 262144) ≤ 4294967295)]) ⟨om,om,om,trivial⟩ ?_
 refine Cfg.ret rfl (rs := [.tmp 4]) rfl [.int .u32 ((((((x : Int) * 16384) % 4294967296)).toNat ||| (((x : Int) / 262144)).toNat : Nat) : Int)] ⟨kr,trivial⟩ (fun w1 hp => ?_)
 refine ⟨?_,hp.ext⟩
 unfold rotl
 rw [show x * 16384 % 4294967296 = ((x : Int) * 16384 % 4294967296).toNat by omega,show x / 262144 = ((x : Int) / 262144).toNat by omega]
 rfl
set_option maxRecDepth 100000 in
theorem rot15 (x : Nat) (w : World) (hx : x < 2 ^ 32) :
  Calls Tryz.prog 176 #[.int .u32 (x : Int),.int .i64 (-17)] w fun e w' => e = .returned (.int .u32 (rotl x 32768 131072 : Int)) ∧ Ext [] w w' := by
 refine enter (vs := [.int .u32 (x : Int),.int .i64 (-17)]) [] [] [] Tryz.func176 rfl kr (HP.start w) ?_
 refine Rg [0,1] [] n0 trivial ?_
 refine Rg [0,5] [] (fun _ => [((0 ≤ (18446744073709551599 : Int) ∧ (18446744073709551599 : Int) ≤ 18446744073709551615) ∧ 0 ≤ (31 : Int) ∧ (31 : Int) ≤ 18446744073709551615)]) ⟨om,trivial⟩ ?_
 refine Rg [4] [] (fun _ => [(0 ≤ (15 : Int) ∧ 15 ≤ 32),(0 ≤ (17 : Int) ∧ 17 ≤ 32),((0 ≤ (((x : Int) * 32768) % 4294967296) ∧ (((x : Int) * 32768) % 4294967296) ≤ 4294967295) ∧ 0 ≤ ((x : Int) / 131072) ∧ ((x : Int) / 131072) ≤ 4294967295)]) ⟨om,om,om,trivial⟩ ?_
 refine Cfg.ret rfl (rs := [.tmp 4]) rfl [.int .u32 ((((((x : Int) * 32768) % 4294967296)).toNat ||| (((x : Int) / 131072)).toNat : Nat) : Int)] ⟨kr,trivial⟩ (fun w1 hp => ?_)
 refine ⟨?_,hp.ext⟩
 unfold rotl
 rw [show x * 32768 % 4294967296 = ((x : Int) * 32768 % 4294967296).toNat by omega,show x / 131072 = ((x : Int) / 131072).toNat by omega]
 rfl
set_option maxRecDepth 100000 in
theorem rot13 (x : Nat) (w : World) (hx : x < 2 ^ 32) :
  Calls Tryz.prog 176 #[.int .u32 (x : Int),.int .i64 (-19)] w fun e w' => e = .returned (.int .u32 (rotl x 8192 524288 : Int)) ∧ Ext [] w w' := by
 refine enter (vs := [.int .u32 (x : Int),.int .i64 (-19)]) [] [] [] Tryz.func176 rfl kr (HP.start w) ?_
 refine Rg [0,1] [] n0 trivial ?_
 refine Rg [0,5] [] (fun _ => [((0 ≤ (18446744073709551597 : Int) ∧ (18446744073709551597 : Int) ≤ 18446744073709551615) ∧ 0 ≤ (31 : Int) ∧ (31 : Int) ≤ 18446744073709551615)]) ⟨om,trivial⟩ ?_
 refine Rg [4] [] (fun _ => [(0 ≤ (13 : Int) ∧ 13 ≤ 32),(0 ≤ (19 : Int) ∧ 19 ≤ 32),((0 ≤ (((x : Int) * 8192) % 4294967296) ∧ (((x : Int) * 8192) % 4294967296) ≤ 4294967295) ∧ 0 ≤ ((x : Int) / 524288) ∧ ((x : Int) / 524288) ≤ 4294967295)]) ⟨om,om,om,trivial⟩ ?_
 refine Cfg.ret rfl (rs := [.tmp 4]) rfl [.int .u32 ((((((x : Int) * 8192) % 4294967296)).toNat ||| (((x : Int) / 524288)).toNat : Nat) : Int)] ⟨kr,trivial⟩ (fun w1 hp => ?_)
 refine ⟨?_,hp.ext⟩
 unfold rotl
 rw [show x * 8192 % 4294967296 = ((x : Int) * 8192 % 4294967296).toNat by omega,show x / 524288 = ((x : Int) / 524288).toNat by omega]
 rfl
set_option maxRecDepth 100000 in
theorem rot26 (x : Nat) (w : World) (hx : x < 2 ^ 32) :
  Calls Tryz.prog 176 #[.int .u32 (x : Int),.int .i64 (-6)] w fun e w' => e = .returned (.int .u32 (rotl x 67108864 64 : Int)) ∧ Ext [] w w' := by
 refine enter (vs := [.int .u32 (x : Int),.int .i64 (-6)]) [] [] [] Tryz.func176 rfl kr (HP.start w) ?_
 refine Rg [0,1] [] n0 trivial ?_
 refine Rg [0,5] [] (fun _ => [((0 ≤ (18446744073709551610 : Int) ∧ (18446744073709551610 : Int) ≤ 18446744073709551615) ∧ 0 ≤ (31 : Int) ∧ (31 : Int) ≤ 18446744073709551615)]) ⟨om,trivial⟩ ?_
 refine Rg [4] [] (fun _ => [(0 ≤ (26 : Int) ∧ 26 ≤ 32),(0 ≤ (6 : Int) ∧ 6 ≤ 32),((0 ≤ (((x : Int) * 67108864) % 4294967296) ∧ (((x : Int) * 67108864) % 4294967296) ≤ 4294967295) ∧ 0 ≤ ((x : Int) / 64) ∧ ((x : Int) / 64) ≤ 4294967295)]) ⟨om,om,om,trivial⟩ ?_
 refine Cfg.ret rfl (rs := [.tmp 4]) rfl [.int .u32 ((((((x : Int) * 67108864) % 4294967296)).toNat ||| (((x : Int) / 64)).toNat : Nat) : Int)] ⟨kr,trivial⟩ (fun w1 hp => ?_)
 refine ⟨?_,hp.ext⟩
 unfold rotl
 rw [show x * 67108864 % 4294967296 = ((x : Int) * 67108864 % 4294967296).toNat by omega,show x / 64 = ((x : Int) / 64).toNat by omega]
 rfl
set_option maxRecDepth 100000 in
theorem rot21 (x : Nat) (w : World) (hx : x < 2 ^ 32) :
  Calls Tryz.prog 176 #[.int .u32 (x : Int),.int .i64 (-11)] w fun e w' => e = .returned (.int .u32 (rotl x 2097152 2048 : Int)) ∧ Ext [] w w' := by
 refine enter (vs := [.int .u32 (x : Int),.int .i64 (-11)]) [] [] [] Tryz.func176 rfl kr (HP.start w) ?_
 refine Rg [0,1] [] n0 trivial ?_
 refine Rg [0,5] [] (fun _ => [((0 ≤ (18446744073709551605 : Int) ∧ (18446744073709551605 : Int) ≤ 18446744073709551615) ∧ 0 ≤ (31 : Int) ∧ (31 : Int) ≤ 18446744073709551615)]) ⟨om,trivial⟩ ?_
 refine Rg [4] [] (fun _ => [(0 ≤ (21 : Int) ∧ 21 ≤ 32),(0 ≤ (11 : Int) ∧ 11 ≤ 32),((0 ≤ (((x : Int) * 2097152) % 4294967296) ∧ (((x : Int) * 2097152) % 4294967296) ≤ 4294967295) ∧ 0 ≤ ((x : Int) / 2048) ∧ ((x : Int) / 2048) ≤ 4294967295)]) ⟨om,om,om,trivial⟩ ?_
 refine Cfg.ret rfl (rs := [.tmp 4]) rfl [.int .u32 ((((((x : Int) * 2097152) % 4294967296)).toNat ||| (((x : Int) / 2048)).toNat : Nat) : Int)] ⟨kr,trivial⟩ (fun w1 hp => ?_)
 refine ⟨?_,hp.ext⟩
 unfold rotl
 rw [show x * 2097152 % 4294967296 = ((x : Int) * 2097152 % 4294967296).toNat by omega,show x / 2048 = ((x : Int) / 2048).toNat by omega]
 rfl
set_option maxRecDepth 100000 in
theorem rot7 (x : Nat) (w : World) (hx : x < 2 ^ 32) :
  Calls Tryz.prog 176 #[.int .u32 (x : Int),.int .i64 (-25)] w fun e w' => e = .returned (.int .u32 (rotl x 128 33554432 : Int)) ∧ Ext [] w w' := by
 refine enter (vs := [.int .u32 (x : Int),.int .i64 (-25)]) [] [] [] Tryz.func176 rfl kr (HP.start w) ?_
 refine Rg [0,1] [] n0 trivial ?_
 refine Rg [0,5] [] (fun _ => [((0 ≤ (18446744073709551591 : Int) ∧ (18446744073709551591 : Int) ≤ 18446744073709551615) ∧ 0 ≤ (31 : Int) ∧ (31 : Int) ≤ 18446744073709551615)]) ⟨om,trivial⟩ ?_
 refine Rg [4] [] (fun _ => [(0 ≤ (7 : Int) ∧ 7 ≤ 32),(0 ≤ (25 : Int) ∧ 25 ≤ 32),((0 ≤ (((x : Int) * 128) % 4294967296) ∧ (((x : Int) * 128) % 4294967296) ≤ 4294967295) ∧ 0 ≤ ((x : Int) / 33554432) ∧ ((x : Int) / 33554432) ≤ 4294967295)]) ⟨om,om,om,trivial⟩ ?_
 refine Cfg.ret rfl (rs := [.tmp 4]) rfl [.int .u32 ((((((x : Int) * 128) % 4294967296)).toNat ||| (((x : Int) / 33554432)).toNat : Nat) : Int)] ⟨kr,trivial⟩ (fun w1 hp => ?_)
 refine ⟨?_,hp.ext⟩
 unfold rotl
 rw [show x * 128 % 4294967296 = ((x : Int) * 128 % 4294967296).toNat by omega,show x / 33554432 = ((x : Int) / 33554432).toNat by omega]
 rfl
set_option maxRecDepth 100000 in
theorem rot30 (x : Nat) (w : World) (hx : x < 2 ^ 32) :
  Calls Tryz.prog 176 #[.int .u32 (x : Int),.int .i64 (-2)] w fun e w' => e = .returned (.int .u32 (rotl x 1073741824 4 : Int)) ∧ Ext [] w w' := by
 refine enter (vs := [.int .u32 (x : Int),.int .i64 (-2)]) [] [] [] Tryz.func176 rfl kr (HP.start w) ?_
 refine Rg [0,1] [] n0 trivial ?_
 refine Rg [0,5] [] (fun _ => [((0 ≤ (18446744073709551614 : Int) ∧ (18446744073709551614 : Int) ≤ 18446744073709551615) ∧ 0 ≤ (31 : Int) ∧ (31 : Int) ≤ 18446744073709551615)]) ⟨om,trivial⟩ ?_
 refine Rg [4] [] (fun _ => [(0 ≤ (30 : Int) ∧ 30 ≤ 32),(0 ≤ (2 : Int) ∧ 2 ≤ 32),((0 ≤ (((x : Int) * 1073741824) % 4294967296) ∧ (((x : Int) * 1073741824) % 4294967296) ≤ 4294967295) ∧ 0 ≤ ((x : Int) / 4) ∧ ((x : Int) / 4) ≤ 4294967295)]) ⟨om,om,om,trivial⟩ ?_
 refine Cfg.ret rfl (rs := [.tmp 4]) rfl [.int .u32 ((((((x : Int) * 1073741824) % 4294967296)).toNat ||| (((x : Int) / 4)).toNat : Nat) : Int)] ⟨kr,trivial⟩ (fun w1 hp => ?_)
 refine ⟨?_,hp.ext⟩
 unfold rotl
 rw [show x * 1073741824 % 4294967296 = ((x : Int) * 1073741824 % 4294967296).toNat by omega,show x / 4 = ((x : Int) / 4).toNat by omega]
 rfl
set_option maxRecDepth 100000 in
theorem rot19 (x : Nat) (w : World) (hx : x < 2 ^ 32) :
  Calls Tryz.prog 176 #[.int .u32 (x : Int),.int .i64 (-13)] w fun e w' => e = .returned (.int .u32 (rotl x 524288 8192 : Int)) ∧ Ext [] w w' := by
 refine enter (vs := [.int .u32 (x : Int),.int .i64 (-13)]) [] [] [] Tryz.func176 rfl kr (HP.start w) ?_
 refine Rg [0,1] [] n0 trivial ?_
 refine Rg [0,5] [] (fun _ => [((0 ≤ (18446744073709551603 : Int) ∧ (18446744073709551603 : Int) ≤ 18446744073709551615) ∧ 0 ≤ (31 : Int) ∧ (31 : Int) ≤ 18446744073709551615)]) ⟨om,trivial⟩ ?_
 refine Rg [4] [] (fun _ => [(0 ≤ (19 : Int) ∧ 19 ≤ 32),(0 ≤ (13 : Int) ∧ 13 ≤ 32),((0 ≤ (((x : Int) * 524288) % 4294967296) ∧ (((x : Int) * 524288) % 4294967296) ≤ 4294967295) ∧ 0 ≤ ((x : Int) / 8192) ∧ ((x : Int) / 8192) ≤ 4294967295)]) ⟨om,om,om,trivial⟩ ?_
 refine Cfg.ret rfl (rs := [.tmp 4]) rfl [.int .u32 ((((((x : Int) * 524288) % 4294967296)).toNat ||| (((x : Int) / 8192)).toNat : Nat) : Int)] ⟨kr,trivial⟩ (fun w1 hp => ?_)
 refine ⟨?_,hp.ext⟩
 unfold rotl
 rw [show x * 524288 % 4294967296 = ((x : Int) * 524288 % 4294967296).toNat by omega,show x / 8192 = ((x : Int) / 8192).toNat by omega]
 rfl
set_option maxRecDepth 100000 in
theorem rot10 (x : Nat) (w : World) (hx : x < 2 ^ 32) :
  Calls Tryz.prog 176 #[.int .u32 (x : Int),.int .i64 (-22)] w fun e w' => e = .returned (.int .u32 (rotl x 1024 4194304 : Int)) ∧ Ext [] w w' := by
 refine enter (vs := [.int .u32 (x : Int),.int .i64 (-22)]) [] [] [] Tryz.func176 rfl kr (HP.start w) ?_
 refine Rg [0,1] [] n0 trivial ?_
 refine Rg [0,5] [] (fun _ => [((0 ≤ (18446744073709551594 : Int) ∧ (18446744073709551594 : Int) ≤ 18446744073709551615) ∧ 0 ≤ (31 : Int) ∧ (31 : Int) ≤ 18446744073709551615)]) ⟨om,trivial⟩ ?_
 refine Rg [4] [] (fun _ => [(0 ≤ (10 : Int) ∧ 10 ≤ 32),(0 ≤ (22 : Int) ∧ 22 ≤ 32),((0 ≤ (((x : Int) * 1024) % 4294967296) ∧ (((x : Int) * 1024) % 4294967296) ≤ 4294967295) ∧ 0 ≤ ((x : Int) / 4194304) ∧ ((x : Int) / 4194304) ≤ 4294967295)]) ⟨om,om,om,trivial⟩ ?_
 refine Cfg.ret rfl (rs := [.tmp 4]) rfl [.int .u32 ((((((x : Int) * 1024) % 4294967296)).toNat ||| (((x : Int) / 4194304)).toNat : Nat) : Int)] ⟨kr,trivial⟩ (fun w1 hp => ?_)
 refine ⟨?_,hp.ext⟩
 unfold rotl
 rw [show x * 1024 % 4294967296 = ((x : Int) * 1024 % 4294967296).toNat by omega,show x / 4194304 = ((x : Int) / 4194304).toNat by omega]
 rfl
end Go.Proofs.YtinhinjpfmdfiaaGreatDoor
namespace Go.Proofs.YtinhinjpfmdfiaaGreatDoor
open K
set_option linter.unusedVariables false
def stC (hs : List Nat) (bl : List UInt8) (held total : Nat) : Array Value := ((wv hs).toList ++ ((bv bl).toList ++ [Value.int .i64 (held : Int),Value.int .u64 (total : Int)])).toArray
theorem wlen {hs : List Nat} {n : Nat} (h : hs.length = n) : (wv hs).toList.length = n := by rw [Array.length_toList,wv_size,h]
theorem blen {hs : List UInt8} {n : Nat} (h : hs.length = n) : (bv hs).toList.length = n := by rw [Array.length_toList,bv_size,h]
section
variable {hs : List Nat} {bl : List UInt8} {held total : Nat}
theorem st_size (hh : hs.length = 8) (hb : bl.length = 64) : (stC hs bl held total).size = 74 := by
 have h1 := wlen hh; have h2 := blen hb
 simp only [stC,List.size_toArray,List.length_append,h1,h2]; rfl
theorem st_sum (hh : hs.length = 8) {k : Nat} (hk : k < 8) : (stC hs bl held total)[k]? = some (.int .u32 ((hs.getD k 0 : Nat) : Int)) := by
 have h1 := wv_get hh hk
 have h2 := wlen hh
 rw [← Array.getElem?_toList] at h1
 simp only [stC,List.getElem?_toArray]
 rw [List.getElem?_append_left om,h1]
theorem st_byte (hh : hs.length = 8) (hb : bl.length = 64) {j : Nat} (hj : j < 64) : (stC hs bl held total)[8 + j]? = some (.int .u8 ((bl.getD j 0).toNat : Int)) := by
 have h1 := bv_get hb hj
 have h2 := wlen hh; have h3 := blen hb
 rw [← Array.getElem?_toList] at h1
 simp only [stC,List.getElem?_toArray]
 rw [List.getElem?_append_right om,h2,show 8 + j - 8 = j by omega,List.getElem?_append_left om,h1]
theorem st_held (hh : hs.length = 8) (hb : bl.length = 64) : (stC hs bl held total)[72]? = some (.int .i64 (held : Int)) := by
 have h2 := wlen hh; have h3 := blen hb
 simp only [stC,List.getElem?_toArray]
 rw [List.getElem?_append_right om,h2,List.getElem?_append_right om,h3]; rfl
theorem st_total (hh : hs.length = 8) (hb : bl.length = 64) : (stC hs bl held total)[73]? = some (.int .u64 (total : Int)) := by
 have h2 := wlen hh; have h3 := blen hb
 simp only [stC,List.getElem?_toArray]
 rw [List.getElem?_append_right om,h2,List.getElem?_append_right om,h3]; rfl
theorem st_setSum (hh : hs.length = 8) {k : Nat} (hk : k < 8) {x : Int} (hx : 0 ≤ x) : (stC hs bl held total).setIfInBounds k (.int .u32 x) = stC (hs.set k x.toNat) bl held total := by
 have h1 := wv_set (l := hs) (i := k) hx
 have h2 := wlen hh
 apply Array.ext'
 simp only [stC,List.setIfInBounds_toArray]
 rw [List.set_append_left _ _ om,← h1,Array.toList_setIfInBounds]
theorem st_setHeld (hh : hs.length = 8) (hb : bl.length = 64) {n : Nat} {x : Int} (hx : x = (n : Int)) : (stC hs bl held total).setIfInBounds 72 (.int .i64 x) = stC hs bl n total := by
 subst hx
 have h2 := wlen hh; have h3 := blen hb
 apply Array.ext'
 simp only [stC,List.setIfInBounds_toArray]
 rw [List.set_append_right _ _ om,h2,List.set_append_right _ _ om,h3]; rfl
theorem st_setTotal (hh : hs.length = 8) (hb : bl.length = 64) {n : Nat} {x : Int} (hx : x = (n : Int)) : (stC hs bl held total).setIfInBounds 73 (.int .u64 x) = stC hs bl held n := by
 subst hx
 have h2 := wlen hh; have h3 := blen hb
 apply Array.ext'
 simp only [stC,List.setIfInBounds_toArray]
 rw [List.set_append_right _ _ om,h2,List.set_append_right _ _ om,h3]; rfl
end
def be4 (a b c d : Nat) : Nat := (((a * 16777216 % 4294967296) ||| (b * 65536 % 4294967296)) ||| (c * 256 % 4294967296)) ||| d
theorem m24 (n : Nat) : ((n : Int) * 16777216 % 4294967296).toNat = n * 16777216 % 4294967296 := by omega
theorem m16 (n : Nat) : ((n : Int) * 65536 % 4294967296).toNat = n * 65536 % 4294967296 := by omega
theorem m8 (n : Nat) : ((n : Int) * 256 % 4294967296).toNat = n * 256 % 4294967296 := by omega
theorem d10 (n : Nat) : ((n : Int) / 1024).toNat = n / 1024 := by omega
theorem d3 (n : Nat) : ((n : Int) / 8).toNat = n / 8 := by omega
theorem be4_eq (a b c d : Nat) : (((((((((((((a : Nat) : Int) * 16777216) % 4294967296)).toNat ||| (((((b : Nat) : Int) * 65536) % 4294967296)).toNat : Nat) : Int)).toNat ||| (((((c : Nat) : Int) * 256) % 4294967296)).toNat : Nat) : Int)).toNat ||| ((((d : Nat) : Int))).toNat : Nat) : Int) = ((be4 a b c d : Nat) : Int) := by
 unfold be4
 rw [m24,m16,m8,Int.toNat_natCast,Int.toNat_natCast,Int.toNat_natCast]
def bt4 (bl : List UInt8) (i : Nat) : Nat := (bl.getD i 0).toNat
def shBe (bl : List UInt8) (t : Nat) : Nat := be4 (bt4 bl (4 * t)) (bt4 bl (4 * t + 1)) (bt4 bl (4 * t + 2)) (bt4 bl (4 * t + 3))
def wlow (x : Nat) : Nat := (rotl x 33554432 128 ^^^ rotl x 16384 262144) ^^^ (x / 8)
def whigh (x : Nat) : Nat := (rotl x 32768 131072 ^^^ rotl x 8192 524288) ^^^ (x / 1024)
theorem x3 (p q r : Nat) (c : Int) (h : c.toNat = r) : ((((((p : Nat) : Int)).toNat ^^^ (((q : Nat) : Int)).toNat : Nat) : Int)).toNat ^^^ c.toNat = (p ^^^ q) ^^^ r := by rw [h]; rfl
theorem wsum (a b c d : Nat) : ((((((a : Int) + (b : Int)) % 4294967296) + (c : Int)) % 4294967296) + (d : Int)) % 4294967296 = (((((a + b) % 4294967296 + c) % 4294967296 + d) % 4294967296 : Nat) : Int) := by omega
def wn4 (y x7 x x16 : Nat) : Nat := (((whigh y + x7) % 4294967296 + wlow x) % 4294967296 + x16) % 4294967296
theorem wn_eq (y x7 x x16 : Nat) : (((((((((((rotl y 32768 131072 : Int)).toNat ^^^ ((rotl y 8192 524288 : Int)).toNat : Nat) : Int)).toNat ^^^ (((y : Int) / 1024)).toNat : Nat) : Int) + (x7 : Int)) % 4294967296) + (((((((rotl x 33554432 128 : Int)).toNat ^^^ ((rotl x 16384 262144 : Int)).toNat : Nat) : Int)).toNat ^^^ (((x : Int) / 8)).toNat : Nat) : Int)) % 4294967296 + (x16 : Int)) % 4294967296 = ((wn4 y x7 x x16 : Nat) : Int) := by
 rw [x3 _ _ _ _ (d10 y),x3 _ _ _ _ (d3 x)]
 exact wsum (whigh y) x7 (wlow x) x16
def rg (r : List Nat) (i : Nat) : Nat := r.getD i 0
def wnext (bl : List UInt8) (r : List Nat) (t : Nat) : Nat := if t < 16 then shBe bl t else wn4 (rg r (t - 2)) (rg r (t - 7)) (rg r (t - 15)) (rg r (t - 16))
def row (bl : List UInt8) : Nat → List Nat
 | 0 => List.replicate 64 0
 | t + 1 => (row bl t).set t (wnext bl (row bl t) t)
theorem row_len (bl : List UInt8) : ∀ t,(row bl t).length = 64
 | 0 => by simp [row]
 | t + 1 => by rw [row,List.length_set]; exact row_len bl t
theorem b8 (b : UInt8) : b.toNat < 2 ^ 32 := by have := UInt8.toNat_lt b; omega
theorem bt4_lt (bl : List UInt8) (i : Nat) : bt4 bl i < 256 := UInt8.toNat_lt _
theorem b84 (bl : List UInt8) (i : Nat) : bt4 bl i < 2 ^ 32 := b8 _
theorem be_lt (bl : List UInt8) (t : Nat) : shBe bl t < 2 ^ 32 :=
 Nat.or_lt_two_pow (Nat.or_lt_two_pow (Nat.or_lt_two_pow (Nat.mod_lt _ (by decide)) (Nat.mod_lt _ (by decide))) (Nat.mod_lt _ (by decide))) (b84 _ _)
theorem wnext_lt (bl : List UInt8) (r : List Nat) (t : Nat) : wnext bl r t < 2 ^ 32 := by
 unfold wnext
 split
 ·exact be_lt ..
 ·exact Nat.mod_lt _ (by decide)
theorem row_lt (bl : List UInt8) : ∀ t j,rg (row bl t) j < 2 ^ 32
 | 0,j => by
  simp only [rg,row,List.getD_eq_getElem?_getD,List.getElem?_replicate]
  split <;> simp
 | t + 1,j => by
  have ih := row_lt bl t j
  simp only [rg,row,List.getD_eq_getElem?_getD,List.getElem?_set] at *
  split
  ·split
   ·exact wnext_lt ..
   ·simp
  ·exact ih
theorem row_step (bl : List UInt8) (t : Nat) {x : Int} (hx : x = (wnext bl (row bl t) t : Int)) : (wv (row bl t)).setIfInBounds t (.int .u32 x) = wv (row bl (t + 1)) := by
 subst hx
 rw [wv_set om]
 rfl
theorem wnext_lo {bl : List UInt8} {t : Nat} (h : t < 16) {x : Int} (hx : x = ((shBe bl t : Nat) : Int)) : x = (wnext bl (row bl t) t : Int) := by rw [hx]; unfold wnext; rw [if_pos h]
theorem wnext_hi {bl : List UInt8} {t : Nat} (h : 16 ≤ t) {x : Int} (hx : x = ((wn4 (rg (row bl t) (t - 2)) (rg (row bl t) (t - 7)) (rg (row bl t) (t - 15)) (rg (row bl t) (t - 16)) : Nat) : Int)) : x = (wnext bl (row bl t) t : Int) := by rw [hx]; unfold wnext; rw [if_neg (by omega)]
theorem wsize (bl : List UInt8) (t : Nat) : (wv (row bl t)).size = 64 := by rw [wv_size,row_len]
end Go.Proofs.YtinhinjpfmdfiaaGreatDoor
namespace Go.Proofs.YtinhinjpfmdfiaaGreatDoor
open K
set_option linter.unusedVariables false
def Kc : List Nat := [1116352408,1899447441,3049323471,3921009573,961987163,1508970993,2453635748,2870763221,3624381080,310598401,607225278,1426881987,1925078388,2162078206,2614888103,3248222580,3835390401,4022224774,264347078,604807628,770255983,1249150122,1555081692,1996064986,2554220882,2821834349,2952996808,3210313671,3336571891,3584528711,113926993,338241895,666307205,773529912,1294757372,1396182291,1695183700,1986661051,2177026350,2456956037,2730485921,2820302411,3259730800,3345764771,3516065817,3600352804,4094571909,275423344,430227734,506948616,659060556,883997877,958139571,1322822218,1537002063,1747873779,1955562222,2024104815,2227730452,2361852424,2428436474,2756734187,3204031479,3329325298]
structure W8 where
 a : Nat
 b : Nat
 c : Nat
 d : Nat
 e : Nat
 f : Nat
 g : Nat
 h : Nat
structure W8.Ok (s : W8) : Prop where
 a : s.a < 2 ^ 32
 b : s.b < 2 ^ 32
 c : s.c < 2 ^ 32
 d : s.d < 2 ^ 32
 e : s.e < 2 ^ 32
 f : s.f < 2 ^ 32
 g : s.g < 2 ^ 32
 h : s.h < 2 ^ 32
def bigE (x : Nat) : Nat := (rotl x 67108864 64 ^^^ rotl x 2097152 2048) ^^^ rotl x 128 33554432
def bigA (x : Nat) : Nat := (rotl x 1073741824 4 ^^^ rotl x 524288 8192) ^^^ rotl x 1024 4194304
def choi (e f g : Nat) : Nat := (e &&& f) ^^^ ((4294967295 ^^^ e) &&& g)
def most (a b c : Nat) : Nat := ((a &&& b) ^^^ (a &&& c)) ^^^ (b &&& c)
def fst5 (h x c k w : Nat) : Nat := ((((h + x) % 4294967296 + c) % 4294967296 + k) % 4294967296 + w) % 4294967296
def frst (k w : Nat) (s : W8) : Nat := fst5 s.h (bigE s.e) (choi s.e s.f s.g) k w
def scnd (s : W8) : Nat := (bigA s.a + most s.a s.b s.c) % 4294967296
def rnd (k w : Nat) (s : W8) : W8 := ⟨(frst k w s + scnd s) % 4294967296,s.a,s.b,s.c,(s.d + frst k w s) % 4294967296,s.e,s.f,s.g⟩
def w8 (l : List Nat) : W8 := ⟨rg l 0,rg l 1,rg l 2,rg l 3,rg l 4,rg l 5,rg l 6,rg l 7⟩
def w8l (s : W8) : List Nat := [s.a,s.b,s.c,s.d,s.e,s.f,s.g,s.h]
def rv (hs : List Nat) (bl : List UInt8) : Nat → W8
 | 0 => w8 hs
 | t + 1 => rnd (rg Kc t) (rg (row bl 64) t) (rv hs bl t)
theorem rv_ok {hs : List Nat} (hlt : ∀ i,rg hs i < 2 ^ 32) (bl : List UInt8) : ∀ t,(rv hs bl t).Ok
 | 0 => ⟨hlt 0,hlt 1,hlt 2,hlt 3,hlt 4,hlt 5,hlt 6,hlt 7⟩
 | t + 1 => by
  have ih := rv_ok hlt bl t
  exact ⟨Nat.mod_lt _ (by decide),ih.a,ih.b,ih.c,Nat.mod_lt _ (by decide),ih.e,ih.f,ih.g⟩
theorem add32 (x y : Nat) : ((x : Int) + (y : Int)) % 4294967296 = (((x + y) % 4294967296 : Nat) : Int) := by omega
theorem fst5_eq (h x c k w : Nat) : ((((((((h : Int) + (x : Int)) % 4294967296) + (c : Int)) % 4294967296) + (k : Int)) % 4294967296) + (w : Int)) % 4294967296 = ((fst5 h x c k w : Nat) : Int) := by unfold fst5; omega
def sm (hs vs : List Nat) : Nat → List Nat
 | 0 => hs
 | k + 1 => (sm hs vs k).set k ((rg (sm hs vs k) k + rg vs k) % 4294967296)
theorem sm_len {hs : List Nat} (vs : List Nat) (hh : hs.length = 8) : ∀ k,(sm hs vs k).length = 8
 | 0 => hh
 | k + 1 => by rw [sm,List.length_set]; exact sm_len vs hh k
theorem sm_lt {hs : List Nat} (vs : List Nat) (hlt : ∀ i,rg hs i < 2 ^ 32) : ∀ k i,rg (sm hs vs k) i < 2 ^ 32
 | 0,i => hlt i
 | k + 1,i => by
  have ih := sm_lt vs hlt k i
  simp only [rg,sm,List.getD_eq_getElem?_getD,List.getElem?_set] at *
  split
  ·split
   ·exact Nat.mod_lt _ (by decide)
   ·simp
  ·exact ih
def mixF (hs : List Nat) (bl : List UInt8) : List Nat := sm hs (w8l (rv hs bl 64)) 8
theorem sm_step {hs vs : List Nat} {bl : List UInt8} {held total k : Nat} (hh : hs.length = 8) (hk : k < 8) :
  (stC (sm hs vs k) bl held total).setIfInBounds k (.int .u32 (((rg (sm hs vs k) k : Int) + (rg vs k : Int)) % 4294967296)) = stC (sm hs vs (k + 1)) bl held total := by
 rw [add32,st_setSum (sm_len vs hh k) hk om,Int.toNat_natCast]
 rfl
theorem xx3 (p q r : Nat) : ((((((((p : Nat) : Int)).toNat ^^^ (((q : Nat) : Int)).toNat : Nat) : Int)).toNat ^^^ (((r : Nat) : Int)).toNat : Nat) : Int) = (((p ^^^ q) ^^^ r : Nat) : Int) := rfl
theorem cc4 (m e f g : Nat) : (((((((e : Nat) : Int)).toNat &&& (((f : Nat) : Int)).toNat : Nat) : Int)).toNat ^^^ ((((((m ^^^ (((e : Nat) : Int)).toNat : Nat) : Int)).toNat &&& (((g : Nat) : Int)).toNat : Nat) : Int)).toNat : Nat) = (((e &&& f) ^^^ ((m ^^^ e) &&& g) : Nat) : Int) := rfl
theorem bigE_eq (x : Nat) : ((((((rotl x 67108864 64 : Int)).toNat ^^^ ((rotl x 2097152 2048 : Int)).toNat : Nat) : Int)).toNat ^^^ ((rotl x 128 33554432 : Int)).toNat : Nat) = ((bigE x : Nat) : Int) := by unfold bigE; exact xx3 _ _ _
theorem bigA_eq (x : Nat) : ((((((rotl x 1073741824 4 : Int)).toNat ^^^ ((rotl x 524288 8192 : Int)).toNat : Nat) : Int)).toNat ^^^ ((rotl x 1024 4194304 : Int)).toNat : Nat) = ((bigA x : Nat) : Int) := by unfold bigA; exact xx3 _ _ _
theorem choi_eq (e f g : Nat) : (((((((e : Nat) : Int)).toNat &&& (((f : Nat) : Int)).toNat : Nat) : Int)).toNat ^^^ ((((((4294967295 ^^^ (((e : Nat) : Int)).toNat : Nat) : Int)).toNat &&& (((g : Nat) : Int)).toNat : Nat) : Int)).toNat : Nat) = ((choi e f g : Nat) : Int) := by unfold choi; exact cc4 _ _ _ _
theorem most_eq (a b c : Nat) : ((((((((((a : Int)).toNat &&& ((b : Int)).toNat : Nat) : Int)).toNat ^^^ (((((a : Int)).toNat &&& ((c : Int)).toNat : Nat) : Int)).toNat : Nat) : Int)).toNat ^^^ (((((b : Int)).toNat &&& ((c : Int)).toNat : Nat) : Int)).toNat : Nat) : Int) = ((most a b c : Nat) : Int) := rfl
theorem frst_eq (k w : Nat) (s : W8) : ((((((((s.h : Int) + (bigE s.e : Int)) % 4294967296) + (choi s.e s.f s.g : Int)) % 4294967296) + (k : Int)) % 4294967296) + (w : Int)) % 4294967296 = ((frst k w s : Nat) : Int) := by unfold frst; exact fst5_eq _ _ _ _ _
theorem scnd_eq (s : W8) : ((bigA s.a : Int) + (most s.a s.b s.c : Int)) % 4294967296 = ((scnd s : Nat) : Int) := by unfold scnd; exact add32 _ _
theorem rv_succ (hs : List Nat) (bl : List UInt8) (t : Nat) : rv hs bl (t + 1) = rnd (rg Kc t) (rg (row bl 64) t) (rv hs bl t) := rfl
theorem rnd_def (k w : Nat) (s : W8) : rnd k w s = ⟨(frst k w s + scnd s) % 4294967296,s.a,s.b,s.c,(s.d + frst k w s) % 4294967296,s.e,s.f,s.g⟩ := rfl
section
variable (a b c d e f g h : Nat)
theorem pa : (W8.mk a b c d e f g h).a = a := rfl
theorem pb : (W8.mk a b c d e f g h).b = b := rfl
theorem pc : (W8.mk a b c d e f g h).c = c := rfl
theorem pd : (W8.mk a b c d e f g h).d = d := rfl
theorem pe : (W8.mk a b c d e f g h).e = e := rfl
theorem pf : (W8.mk a b c d e f g h).f = f := rfl
theorem pg : (W8.mk a b c d e f g h).g = g := rfl
theorem ph : (W8.mk a b c d e f g h).h = h := rfl
end
section
variable (hs : List Nat) (bl : List UInt8) (t : Nat)
theorem rv_a : ((frst (rg Kc t) (rg (row bl 64) t) (rv hs bl t) : Int) + (scnd (rv hs bl t) : Int)) % 4294967296 = ((rv hs bl (t + 1)).a : Int) := by rw [rv_succ,rnd_def,pa,add32]
theorem rv_b : ((rv hs bl t).a : Int) = ((rv hs bl (t + 1)).b : Int) := by rw [rv_succ,rnd_def,pb]
theorem rv_c : ((rv hs bl t).b : Int) = ((rv hs bl (t + 1)).c : Int) := by rw [rv_succ,rnd_def,pc]
theorem rv_d : ((rv hs bl t).c : Int) = ((rv hs bl (t + 1)).d : Int) := by rw [rv_succ,rnd_def,pd]
theorem rv_e : (((rv hs bl t).d : Int) + (frst (rg Kc t) (rg (row bl 64) t) (rv hs bl t) : Int)) % 4294967296 = ((rv hs bl (t + 1)).e : Int) := by rw [rv_succ,rnd_def,pe,add32]
theorem rv_f : ((rv hs bl t).e : Int) = ((rv hs bl (t + 1)).f : Int) := by rw [rv_succ,rnd_def,pf]
theorem rv_g : ((rv hs bl t).f : Int) = ((rv hs bl (t + 1)).g : Int) := by rw [rv_succ,rnd_def,pg]
theorem rv_h : ((rv hs bl t).g : Int) = ((rv hs bl (t + 1)).h : Int) := by rw [rv_succ,rnd_def,ph]
end
theorem w8l_len (s : W8) : (w8l s).length = 8 := rfl
def KT (kt : Array Value) : Prop := ∀ t,t < 64 → kt[t]? = some (.int .u32 (rg Kc t : Int))
theorem kget {t : Nat} (h : t < 64) : (wv Kc)[t]? = some (.int .u32 (rg Kc t : Int)) := wv_get (n := 64) rfl h
end Go.Proofs.YtinhinjpfmdfiaaGreatDoor
namespace Go.Proofs.YtinhinjpfmdfiaaGreatDoor
open K
set_option linter.unusedVariables false
structure Sh where
 hs : List Nat
 bl : List UInt8
 held : Nat
structure Sh.Ok (s : Sh) : Prop where
 hh : s.hs.length = 8
 hb : s.bl.length = 64
 hlt : ∀ i,rg s.hs i < 2 ^ 32
 held : s.held < 64
theorem mixF_len {hs : List Nat} (bl : List UInt8) (hh : hs.length = 8) : (mixF hs bl).length = 8 := sm_len _ hh 8
theorem mixF_lt {hs : List Nat} (bl : List UInt8) (hlt : ∀ i,rg hs i < 2 ^ 32) : ∀ i,rg (mixF hs bl) i < 2 ^ 32 := sm_lt _ hlt 8
def feedB (s : Sh) (c : UInt8) : Sh := if s.held + 1 = 64 then ⟨mixF s.hs (s.bl.set s.held c),s.bl.set s.held c,0⟩ else ⟨s.hs,s.bl.set s.held c,s.held + 1⟩
def feed (s : Sh) (l : List UInt8) : Sh := l.foldl feedB s
theorem feed_nil (s : Sh) : feed s [] = s := rfl
theorem feed_app (s : Sh) (a b : List UInt8) : feed s (a ++ b) = feed (feed s a) b := List.foldl_append ..
theorem feedB_ok {s : Sh} (h : s.Ok) (c : UInt8) : (feedB s c).Ok := by
 unfold feedB
 split
 ·exact ⟨mixF_len _ h.hh,by simp [h.hb],mixF_lt _ h.hlt,Nat.zero_lt_succ 63⟩
 ·have := h.held
  exact ⟨h.hh,by simp [h.hb],h.hlt,by show s.held + 1 < 64; omega⟩
theorem feed_ok : ∀ (l : List UInt8) {s : Sh},s.Ok → (feed s l).Ok
 | [],s,h => h
 | c :: l,s,h => feed_ok l (feedB_ok h c)
theorem feedB_held {s : Sh} (h : s.Ok) (c : UInt8) : (feedB s c).held = (s.held + 1) % 64 := by
 have := h.held
 unfold feedB
 split <;> simp only <;> omega
theorem feed_held : ∀ (l : List UInt8) {s : Sh},s.Ok → (feed s l).held = (s.held + l.length) % 64
 | [],s,h => by have := h.held; show s.held = (s.held + 0) % 64; omega
 | c :: l,s,h => by
  have e := feed_held l (feedB_ok h c)
  rw [feedB_held h c] at e
  show (feed (feedB s c) l).held = _
  rw [e,List.length_cons]; omega
def lay (bl : List UInt8) (off : Nat) : List UInt8 → List UInt8
 | [] => bl
 | c :: l => lay (bl.set off c) (off + 1) l
theorem lay_len : ∀ (l bl : List UInt8) (off : Nat),(lay bl off l).length = bl.length
 | [],bl,off => rfl
 | c :: l,bl,off => by rw [lay,lay_len l,List.length_set]
theorem feed_part : ∀ (l : List UInt8) (hs : List Nat) (bl : List UInt8) (held : Nat),held + l.length < 64 → feed ⟨hs,bl,held⟩ l = ⟨hs,lay bl held l,held + l.length⟩
 | [],hs,bl,held,_ => rfl
 | c :: l,hs,bl,held,h => by
  rw [List.length_cons] at h
  have e : feedB ⟨hs,bl,held⟩ c = ⟨hs,bl.set held c,held + 1⟩ := by unfold feedB; rw [if_neg (by show ¬ held + 1 = 64; omega)]
  show feed (feedB ⟨hs,bl,held⟩ c) l = _
  rw [e,feed_part l hs (bl.set held c) (held + 1) om,lay,List.length_cons,show held + 1 + l.length = held + (l.length + 1) by omega]
theorem feed_full : ∀ (l : List UInt8) (hs : List Nat) (bl : List UInt8) (held : Nat),held < 64 → held + l.length = 64 → feed ⟨hs,bl,held⟩ l = ⟨mixF hs (lay bl held l),lay bl held l,0⟩
 | [],hs,bl,held,h0,h => by simp at h; omega
 | c :: l,hs,bl,held,h0,h => by
  rw [List.length_cons] at h
  show feed (feedB ⟨hs,bl,held⟩ c) l = _
  by_cases hl : held + 1 = 64
  ·obtain rfl : l = [] := List.eq_nil_of_length_eq_zero om
   unfold feedB; rw [if_pos hl]; rfl
  ·have e : feedB ⟨hs,bl,held⟩ c = ⟨hs,bl.set held c,held + 1⟩ := by unfold feedB; rw [if_neg hl]
   rw [e,feed_full l hs (bl.set held c) (held + 1) om om,lay]
theorem st_setByte {hs : List Nat} {bl : List UInt8} {held total j : Nat} (hh : hs.length = 8) (hb : bl.length = 64) (hj : j < 64) (c : UInt8) :
  (stC hs bl held total).setIfInBounds (8 + j) (.int .u8 (c.toNat : Int)) = stC hs (bl.set j c) held total := by
 have h1 := bv_set (l := bl) (i := j) (x := (c.toNat : Int)) om (by have := UInt8.toNat_lt c; omega)
 have h2 := wlen hh; have h3 := blen hb
 apply Array.ext'
 simp only [stC,List.setIfInBounds_toArray]
 rw [List.set_append_right _ _ om,h2,show 8 + j - 8 = j by omega,List.set_append_left _ _ om]
 rw [show UInt8.ofNat ((c.toNat : Int)).toNat = c by simp] at h1
 rw [← h1,Array.toList_setIfInBounds]
theorem spl_lay : ∀ (l : List UInt8) {hs : List Nat} {bl : List UInt8} {held total j : Nat},hs.length = 8 → bl.length = 64 → j + l.length ≤ 64 → spl (stC hs bl held total) (8 + j) (bv l).toList = stC hs (lay bl j l) held total
 | [],hs,bl,held,total,j,hh,hb,hj => rfl
 | c :: l,hs,bl,held,total,j,hh,hb,hj => by
  rw [List.length_cons] at hj
  show spl ((stC hs bl held total).setIfInBounds (8 + j) (.int .u8 (c.toNat : Int))) (8 + j + 1) (bv l).toList = _
  rw [st_setByte hh hb om,show 8 + j + 1 = 8 + (j + 1) by omega,spl_lay l hh (by simp [hb]) om,lay]
theorem off_eq {held : Nat} (h : held < 64) : (if 64 = held then 8 else (addO 8 held)) = 8 + held := by rw [if_neg (by omega),addO_eq]
theorem ext_list (p : ByteArray) (n : Nat) : (p.extract n p.size).data.toList = p.data.toList.drop n := by
 rw [ByteArray.data_extract,Array.toList_extract]
 have : p.size = p.data.toList.length := by simp
 rw [this,List.extract_eq_take_drop,List.take_of_length_le (by simp)]
theorem part_len {p : ByteArray} {n : Nat} (h : n ≤ p.size) : (p.data.toList.take n).length = n := by
 have : p.size = p.data.toList.length := by simp
 rw [List.length_take]; omega
theorem feed_ext (s : Sh) (p : ByteArray) (n : Nat) : feed (feed s (p.data.toList.take n)) (p.extract n p.size).data.toList = feed s p.data.toList := by
 rw [ext_list,← feed_app,List.take_append_drop]
def cn (p : ByteArray) (held : Nat) : Nat := min p.size (64 - held)
theorem ext_size (p : ByteArray) (n : Nat) (h : n ≤ p.size) : (p.extract n p.size).size = p.size - n := by
 rw [ByteArray.size_extract]; omega
end Go.Proofs.YtinhinjpfmdfiaaGreatDoor
namespace Go.Proofs.YtinhinjpfmdfiaaGreatDoor
open K
set_option linter.unusedVariables false
def lb (total : Nat) : Nat := total * 8 % 18446744073709551616
theorem lb_eq (total : Nat) : ((total : Int) * 8) % 18446744073709551616 = ((lb total : Nat) : Int) := by unfold lb; omega
def pz (z : Sh) (j : Nat) : Sh := feed z (128 :: List.replicate j 0)
def tj (total j : Nat) : Nat := (total + 1 + j) % 18446744073709551616
def padN (z : Sh) : Nat := (119 - z.held) % 64
theorem pz_zero (z : Sh) : feedB z 128 = pz z 0 := rfl
theorem pz_succ (z : Sh) (j : Nat) : feedB (pz z j) 0 = pz z (j + 1) := by
 unfold pz
 rw [List.replicate_succ',← List.cons_append,feed_app]; rfl
theorem tj_zero (total : Nat) : (total + 1) % 18446744073709551616 = tj total 0 := rfl
theorem tj_succ (total j : Nat) : (tj total j + 1) % 18446744073709551616 = tj total (j + 1) := by unfold tj; omega
theorem pz_ok {z : Sh} (h : z.Ok) (j : Nat) : (pz z j).Ok := feed_ok _ h
theorem pz_held {z : Sh} (h : z.Ok) (j : Nat) : (pz z j).held = (z.held + 1 + j) % 64 := by
 unfold pz
 rw [feed_held _ h,List.length_cons,List.length_replicate,show z.held + (j + 1) = z.held + 1 + j by omega]
theorem pad_end {z : Sh} (h : z.Ok) {j : Nat} (hj : j ≤ padN z) : ((pz z j).held : Int) = 56 ↔ j = padN z := by
 have h1 := h.held
 rw [pz_held h]
 unfold padN at *
 omega
def tb (n i : Nat) : UInt8 := UInt8.ofNat (n / 2 ^ (56 - 8 * i))
def tlr (n k : Nat) : List UInt8 := (List.range k).map (tb n) ++ List.replicate (8 - k) 0
theorem tlr_len {n k : Nat} (h : k ≤ 8) : (tlr n k).length = 8 := by simp [tlr]; omega
theorem u8mod (m : Nat) : UInt8.ofNat (m % 256) = UInt8.ofNat m := by apply UInt8.toNat_inj.1; simp
theorem set_one (A : List UInt8) (m : Nat) (x : UInt8) (hm : 1 ≤ m) : (A ++ List.replicate m 0).set A.length x = A ++ [x] ++ List.replicate (m - 1) 0 := by
 obtain ⟨q,rfl⟩ : ∃ q,m = q + 1 := ⟨m - 1,by omega⟩
 simp [List.replicate_succ]
theorem tlr_step {n k : Nat} (hk : k < 8) {x : Int} (hx : x = (n : Int) / ((2 ^ ((56 - 8 * (k : Int))).toNat : Nat) : Int) % 256) : (bv (tlr n k)).setIfInBounds k (.int .u8 x) = bv (tlr n (k + 1)) := by
 have e : x = ((n / 2 ^ (56 - 8 * k) % 256 : Nat) : Int) := by
  rw [hx,show (56 - 8 * (k : Int)).toNat = 56 - 8 * k by omega]; rfl
 subst e
 have hb : n / 2 ^ (56 - 8 * k) % 256 < 256 := Nat.mod_lt _ (by decide)
 rw [bv_set (Int.natCast_nonneg _) om,Int.toNat_natCast,u8mod]
 congr 1
 have h1 := set_one ((List.range k).map (tb n)) (8 - k) (tb n k) om
 rw [List.length_map,List.length_range] at h1
 unfold tlr
 rw [List.range_succ,List.map_append]
 exact h1
def tls (n : Nat) : ByteArray := ⟨(tlr n 8).toArray⟩
def dg4 (x : Nat) : List UInt8 := [UInt8.ofNat (x / 16777216),UInt8.ofNat (x / 65536),UInt8.ofNat (x / 256),UInt8.ofNat x]
def dgr (hs : List Nat) (k : Nat) : List UInt8 := (List.range k).flatMap (fun i => dg4 (rg hs i)) ++ List.replicate (32 - 4 * k) 0
theorem dgf_len (hs : List Nat) : ∀ k,((List.range k).flatMap (fun i => dg4 (rg hs i))).length = 4 * k
 | 0 => rfl
 | k + 1 => by rw [List.range_succ,List.flatMap_append,List.length_append,dgf_len hs k]; simp [dg4]; omega
theorem dgr_len {hs : List Nat} {k : Nat} (h : k ≤ 8) : (dgr hs k).length = 32 := by simp only [dgr,List.length_append,dgf_len,List.length_replicate]; omega
theorem set_four (A : List UInt8) (m : Nat) (a b c d : UInt8) (hm : 4 ≤ m) : ((((A ++ List.replicate m 0).set A.length a).set (A.length + 1) b).set (A.length + 2) c).set (A.length + 3) d = A ++ [a,b,c,d] ++ List.replicate (m - 4) 0 := by
 obtain ⟨q,rfl⟩ : ∃ q,m = q + 4 := ⟨m - 4,by omega⟩
 simp [List.replicate_succ]
theorem bset (l : List UInt8) (i m : Nat) : (bv l).setIfInBounds i (.int .u8 ((m % 256 : Nat) : Int)) = bv (l.set i (UInt8.ofNat m)) := by
 have hb : m % 256 < 256 := Nat.mod_lt _ (by decide)
 rw [bv_set (Int.natCast_nonneg _) om,Int.toNat_natCast,u8mod]
theorem dgr_step (hs : List Nat) {k : Nat} (hk : k < 8) {a b c d : Int} (ha : a = ((rg hs k / 16777216 % 256 : Nat) : Int)) (hb : b = ((rg hs k / 65536 % 256 : Nat) : Int)) (hc : c = ((rg hs k / 256 % 256 : Nat) : Int)) (hd : d = ((rg hs k % 256 : Nat) : Int)) :
  ((((bv (dgr hs k)).setIfInBounds (4 * k) (.int .u8 a)).setIfInBounds ((4 * k) + 1) (.int .u8 b)).setIfInBounds ((4 * k) + 2) (.int .u8 c)).setIfInBounds ((4 * k) + 3) (.int .u8 d) = bv (dgr hs (k + 1)) := by
 subst ha hb hc hd
 rw [bset,bset,bset,bset]
 congr 1
 have h1 := set_four ((List.range k).flatMap (fun i => dg4 (rg hs i))) (32 - 4 * k) (UInt8.ofNat (rg hs k / 16777216)) (UInt8.ofNat (rg hs k / 65536)) (UInt8.ofNat (rg hs k / 256)) (UInt8.ofNat (rg hs k)) om
 rw [dgf_len] at h1
 unfold dgr
 rw [h1,List.range_succ,List.flatMap_append,show 32 - 4 * (k + 1) = 32 - 4 * k - 4 by omega]
 simp [dg4]
def z3 (z : Sh) (total : Nat) : Sh := feed (pz z (padN z)) (tlr (lb total) 8)
def shaEnd (z : Sh) (total : Nat) : List UInt8 := dgr (z3 z total).hs 8
theorem shaEnd_len (z : Sh) (total : Nat) : (shaEnd z total).length = 32 := dgr_len (Nat.le_refl 8)
theorem z3_ok {z : Sh} (h : z.Ok) (total : Nat) : (z3 z total).Ok := feed_ok _ (pz_ok h _)
theorem zsz : (bv (List.replicate 32 0)).size = 32 := rfl
theorem dsz (hs : List Nat) {k : Nat} (h : k ≤ 8) : (bv (dgr hs k)).size = 32 := (bv_size _).trans (dgr_len h)
end Go.Proofs.YtinhinjpfmdfiaaGreatDoor
namespace Go.Proofs.YtinhinjpfmdfiaaGreatDoor
open K
set_option linter.unusedVariables false
namespace K
theorem HP.dropM {w0 w w' : World} {M : List Nat} {R O : List (Nat × Obj)} (h : HP w0 M R O w) (i : Nat) {b : Nat} {o : Obj} (hi : O[i]? = some (b,o)) (hx : Ext [b] w w') : HP w0 M R (O.eraseIdx i) w' :=
 h.call hx _ (List.eraseIdx_sublist ..) (by
  intro k hk
  simp only [List.mem_cons,List.not_mem_nil,or_false] at hk
  subst hk
  exact List.mem_map.2 ⟨_,List.mem_of_getElem? hi,rfl⟩) (by
  intro e he hm
  simp only [List.mem_cons,List.not_mem_nil,or_false] at hm
  obtain ⟨j,hj⟩ := List.mem_iff_getElem?.1 he
  rw [List.getElem?_eraseIdx] at hj
  split at hj
  ·rename_i hlt
   have := nodup_inj h.dist (i := j) (j := i) (x := b) (by simp [hj,hm]) (by simp [hi])
   omega
  ·rename_i hlt
   have := nodup_inj h.dist (i := j + 1) (j := i) (x := b) (by simp [hj,hm]) (by simp [hi])
   omega)
theorem Eff.callD {C : Cx} {R O : List (Nat × Obj)} {Γ : Env} {o : Oper} {f : FuncId} {fn : Func} {c : Code} {xs : List Operand} {tys : Array TypeId} {vs : List Value} (v : Value) (i : Nat) {b : Nat} {ob : Obj} (ho : o.op = .call ⟨.value (.func f),xs.toArray,tys⟩) (hf : C.P.funcs[f]? = some fn)
  (hnm : (fn.name == "runtime.NumGoroutine") = false) (hb : fn.body = some c) (hx : opds Γ xs = some vs) (hi : O[i]? = some (b,ob))
  (h : ∀ w,HP C.w0 C.M R O w → Calls C.P f vs.toArray w fun e w' => e = .returned v ∧ Ext [b] w w') : Eff C R O Γ o Unit (fun _ => v) (fun _ => O.eraseIdx i) (fun _ => True) :=
 Eff.call ho hf hnm hb hx fun w hp => (h w hp).mono fun _ _ hh => ⟨(),trivial,hh.1,hp.dropM i hi hh.2⟩
end K
def H8 : List Nat := [1779033703,3144134277,1013904242,2773480762,1359893119,2600822924,528734635,1541459225]
def sh0 : Sh := ⟨H8,List.replicate 64 0,0⟩
theorem sh0_ok : sh0.Ok := ⟨rfl,rfl,fun i => by
 unfold sh0 H8 rg
 rcases i with _ | _ | _ | _ | _ | _ | _ | _ | i <;> simp,by decide⟩
def ssat (ss : List ByteArray) (i : Nat) : ByteArray := ss.getD i ByteArray.empty
def scat (ss : List ByteArray) : List UInt8 := ss.flatMap fun s => s.data.toList
def sz (ss : List ByteArray) (i : Nat) : Sh := feed sh0 (scat (ss.take i))
def tt (ss : List ByteArray) (i : Nat) : Nat := (scat (ss.take i)).length % 18446744073709551616
theorem take_ssat {ss : List ByteArray} {i : Nat} (h : i < ss.length) : ss.take (i + 1) = ss.take i ++ [ssat ss i] := by
 rw [List.take_succ_eq_append_getElem h]; simp [ssat,List.getElem?_eq_getElem h]
theorem scat_app (a b : List ByteArray) : scat (a ++ b) = scat a ++ scat b := List.flatMap_append ..
theorem scat_one (s : ByteArray) : scat [s] = s.data.toList := by simp [scat]
theorem sz_succ {ss : List ByteArray} {i : Nat} (h : i < ss.length) : feed (sz ss i) (ssat ss i).data.toList = sz ss (i + 1) := by
 unfold sz; rw [take_ssat h,scat_app,scat_one,feed_app]
theorem tt_succ {ss : List ByteArray} {i : Nat} (h : i < ss.length) : (tt ss i + (ssat ss i).size) % 18446744073709551616 = tt ss (i + 1) := by
 unfold tt; rw [take_ssat h,scat_app,scat_one,List.length_append]
 have : (ssat ss i).data.toList.length = (ssat ss i).size := by simp
 omega
theorem sz_ok (ss : List ByteArray) (i : Nat) : (sz ss i).Ok := feed_ok _ sh0_ok
def shaD (l : List UInt8) : List UInt8 := shaEnd (feed sh0 l) (l.length % 18446744073709551616)
theorem shaD_len (l : List UInt8) : (shaD l).length = 32 := shaEnd_len _ _
theorem sz_all (ss : List ByteArray) : shaEnd (sz ss ss.length) (tt ss ss.length) = shaD (scat ss) := by unfold sz tt shaD; rw [List.take_length]
theorem dz (l : List UInt8) : (bv (shaD l)).size = 32 := (bv_size _).trans (shaD_len l)
end Go.Proofs.YtinhinjpfmdfiaaGreatDoor
namespace Go.Proofs.YtinhinjpfmdfiaaGreatDoor
open K
set_option linter.unusedVariables false
set_option maxRecDepth 100000 in
theorem words (b : Nat) (hs : List Nat) (bl : List UInt8) (held total : Nat) (w : World) (hh : hs.length = 8) (hb : bl.length = 64) (hR : Has w [(b,.cells (stC hs bl held total) 225 (0,0))]) :
  Calls Tryz.prog 175 #[.pointer (some ⟨b,0,none⟩)] w fun e w' => e = .returned (.agg (wv (row bl 64))) ∧ Ext [] w w' := by
 refine enter (vs := [.pointer (some ⟨b,0,none⟩)]) [] [(b,.cells (stC hs bl held total) 225 (0,0))] [] Tryz.func175 rfl kr (HP.ofHas hR) ?_
 refine Cfg.begL rfl ?_
 refine Le (Eff.alloc (z := (.agg (wv (List.replicate 64 0)))) rfl kr) ?_
 rintro r ⟨hr,nr⟩
 refine CfgL.done rfl ?_
 refine Cfg.begL rfl ?_
 refine Le (Eff.alloc (z := (.agg (wv (List.replicate 64 0)))) rfl kr) ?_
 rintro xw ⟨hxw,nxw⟩
 refine CfgL.done rfl ?_
 refine Rg [0,2,3,10] [] n0 trivial ?_
 refine Cfg.loop rfl (ι := Nat) (fun (t : Nat) => [(10,[],.int .i64 (t : Int)),(3,[],.pointer (some ⟨xw,0,none⟩)),(2,[],.pointer (some ⟨r,0,none⟩)),(0,[],.pointer (some ⟨b,0,none⟩))]) (fun (t : Nat) => [(xw,.cells (wv (row bl t)) 234 (0,0)),(r,.cells (wv (List.replicate 64 0)) 234 (0,0))]) (fun (t : Nat) => (t ≤ 16)) (fun (t : Nat) => 16 - t) 0 ?_ (Conv.mk kr) (.cons_cons _ (.cons_cons _ .slnil)) ?_
 ·exact Nat.zero_le _
 ·rintro t ht
  refine Rg [0,2,3,10,11] [] n0 trivial ?_
  refine Cfg.cond rfl (b := (decide ((t : Int) < (16 : Int)))) kr (fun c1r => ?_) (fun c1r => ?_)
  ·have c1 := (of_decide_eq_true c1r)
   refine Rg [0,2,3,4,10] [] n0 trivial ?_
   refine Cfg.begA rfl kr [(r,.cells (wv (List.replicate 64 0)) 234 (0,0))] ?_
   refine Ap [0,1,2,3,4,5,6,7,8,9,10,11,12,13,14,15,16,17,18,19,20,21,22,23,24,25,26,27,28,29,30,31,32,33,34,35,36,37,38,39,40,41,42] [dZ,dZ,dZ,dZ,dZ,dZ,dZ,(0,false,some (.int .u8 (bt4 bl (4 * t) : Int))),dZ,dZ,dZ,dZ,dZ,dZ,dZ,dZ,dZ,(0,false,some (.int .u8 (bt4 bl ((4 * t) + 1) : Int))),dZ,dZ,dZ,dZ,dZ,dZ,dZ,dZ,dZ,dZ,(0,false,some (.int .u8 (bt4 bl ((4 * t) + 2) : Int))),dZ,dZ,dZ,dZ,dZ,dZ,dZ,dZ,dZ,dZ,(0,false,some (.int .u8 (bt4 bl ((4 * t) + 3) : Int)))] (some [0,2,3,10,54,55]) #[true,true,true,true,true,true,true,true,true,true,true,true,true,true,true,true,true,true,true,true,true,true,true,true,true,true,true,true,true,true,true,true,true,true,true,true,true,true,true,true,true,true,true,false] (.cons _ (.cons_cons _ .slnil)) 1 (fun S => [((-9223372036854775808 : Int) ≤ (4 * (t : Int)) ∧ (4 * (t : Int)) ≤ 9223372036854775807),(0 ≤ (4 * (t : Int)) ∧ (4 * (t : Int)) < (64 : Int)),(∀ w1,S w1 → w1.cell? ⟨b,(addO 8 (4 * t)),none⟩ = some (.int .u8 (bt4 bl (4 * t) : Int))),((0 : Int) ≤ (bt4 bl (4 * t) : Int) ∧ (bt4 bl (4 * t) : Int) ≤ 4294967295),(0 ≤ (24 : Int) ∧ 24 ≤ 32),((-9223372036854775808 : Int) ≤ (4 * (t : Int)) ∧ (4 * (t : Int)) ≤ 9223372036854775807),((-9223372036854775808 : Int) ≤ ((4 * (t : Int)) + 1) ∧ ((4 * (t : Int)) + 1) ≤ 9223372036854775807),(0 ≤ ((4 * (t : Int)) + 1) ∧ ((4 * (t : Int)) + 1) < (64 : Int)),(∀ w1,S w1 → w1.cell? ⟨b,(addO 8 ((4 * t) + 1)),none⟩ = some (.int .u8 (bt4 bl ((4 * t) + 1) : Int))),((0 : Int) ≤ (bt4 bl ((4 * t) + 1) : Int) ∧ (bt4 bl ((4 * t) + 1) : Int) ≤ 4294967295),(0 ≤ (16 : Int) ∧ 16 ≤ 32),((0 ≤ (((bt4 bl (4 * t) : Int) * 16777216) % 4294967296) ∧ (((bt4 bl (4 * t) : Int) * 16777216) % 4294967296) ≤ 4294967295) ∧ 0 ≤ (((bt4 bl ((4 * t) + 1) : Int) * 65536) % 4294967296) ∧ (((bt4 bl ((4 * t) + 1) : Int) * 65536) % 4294967296) ≤ 4294967295),((-9223372036854775808 : Int) ≤ (4 * (t : Int)) ∧ (4 * (t : Int)) ≤ 9223372036854775807),((-9223372036854775808 : Int) ≤ ((4 * (t : Int)) + 2) ∧ ((4 * (t : Int)) + 2) ≤ 9223372036854775807),(0 ≤ ((4 * (t : Int)) + 2) ∧ ((4 * (t : Int)) + 2) < (64 : Int)),(∀ w1,S w1 → w1.cell? ⟨b,(addO 8 ((4 * t) + 2)),none⟩ = some (.int .u8 (bt4 bl ((4 * t) + 2) : Int))),((0 : Int) ≤ (bt4 bl ((4 * t) + 2) : Int) ∧ (bt4 bl ((4 * t) + 2) : Int) ≤ 4294967295),(0 ≤ (8 : Int) ∧ 8 ≤ 32),((0 ≤ ((((((bt4 bl (4 * t) : Int) * 16777216) % 4294967296)).toNat ||| ((((bt4 bl ((4 * t) + 1) : Int) * 65536) % 4294967296)).toNat : Nat) : Int) ∧ ((((((bt4 bl (4 * t) : Int) * 16777216) % 4294967296)).toNat ||| ((((bt4 bl ((4 * t) + 1) : Int) * 65536) % 4294967296)).toNat : Nat) : Int) ≤ 4294967295) ∧ 0 ≤ (((bt4 bl ((4 * t) + 2) : Int) * 256) % 4294967296) ∧ (((bt4 bl ((4 * t) + 2) : Int) * 256) % 4294967296) ≤ 4294967295),((-9223372036854775808 : Int) ≤ (4 * (t : Int)) ∧ (4 * (t : Int)) ≤ 9223372036854775807),((-9223372036854775808 : Int) ≤ ((4 * (t : Int)) + 3) ∧ ((4 * (t : Int)) + 3) ≤ 9223372036854775807),(0 ≤ ((4 * (t : Int)) + 3) ∧ ((4 * (t : Int)) + 3) < (64 : Int)),(∀ w1,S w1 → w1.cell? ⟨b,(addO 8 ((4 * t) + 3)),none⟩ = some (.int .u8 (bt4 bl ((4 * t) + 3) : Int))),((0 : Int) ≤ (bt4 bl ((4 * t) + 3) : Int) ∧ (bt4 bl ((4 * t) + 3) : Int) ≤ 4294967295),((0 ≤ (((((((((bt4 bl (4 * t) : Int) * 16777216) % 4294967296)).toNat ||| ((((bt4 bl ((4 * t) + 1) : Int) * 65536) % 4294967296)).toNat : Nat) : Int)).toNat ||| ((((bt4 bl ((4 * t) + 2) : Int) * 256) % 4294967296)).toNat : Nat) : Int) ∧ (((((((((bt4 bl (4 * t) : Int) * 16777216) % 4294967296)).toNat ||| ((((bt4 bl ((4 * t) + 1) : Int) * 65536) % 4294967296)).toNat : Nat) : Int)).toNat ||| ((((bt4 bl ((4 * t) + 2) : Int) * 256) % 4294967296)).toNat : Nat) : Int) ≤ 4294967295) ∧ 0 ≤ (bt4 bl ((4 * t) + 3) : Int) ∧ (bt4 bl ((4 * t) + 3) : Int) ≤ 4294967295),(0 ≤ (t : Int) ∧ (t : Int) < (64 : Int))]) ⟨om,om,(fun w1 h => h.rcell 0 rfl (by rw [addO_eq]; exact st_byte hh hb om)),(by have := bt4_lt bl (4 * t); omega),om,om,om,om,(fun w1 h => h.rcell 0 rfl (by rw [addO_eq]; exact st_byte hh hb om)),(by have := bt4_lt bl ((4 * t) + 1); omega),om,(by have := bt4_lt bl (4 * t); have := bt4_lt bl ((4 * t) + 1); omega),om,om,om,(fun w1 h => h.rcell 0 rfl (by rw [addO_eq]; exact st_byte hh hb om)),(by have := bt4_lt bl ((4 * t) + 2); omega),om,⟨⟨Int.natCast_nonneg _,le_pow (b := 32) (Nat.or_lt_two_pow om om)⟩,⟨by omega,by omega⟩⟩,om,om,om,(fun w1 h => h.rcell 0 rfl (by rw [addO_eq]; exact st_byte hh hb om)),(by have := bt4_lt bl ((4 * t) + 3); omega),⟨⟨Int.natCast_nonneg _,le_pow (b := 32) (Nat.or_lt_two_pow (tn_lt (Nat.or_lt_two_pow om om)) om)⟩,⟨Int.natCast_nonneg _,le_pow (b := 32) (b84 _ _)⟩⟩,om,trivial⟩ ?_
   refine Ae 43 rfl 0  (Eff.store1 (b := xw) (off := t) (v := .int .u32 ((((((((((((bt4 bl (4 * t) : Int) * 16777216) % 4294967296)).toNat ||| ((((bt4 bl ((4 * t) + 1) : Int) * 65536) % 4294967296)).toNat : Nat) : Int)).toNat ||| ((((bt4 bl ((4 * t) + 2) : Int) * 256) % 4294967296)).toNat : Nat) : Int)).toNat ||| ((bt4 bl ((4 * t) + 3) : Int)).toNat : Nat) : Int)) rfl kr kr rfl kr 0 (cs := (wv (row bl t))) (e := 234) kr (by rw [wsize]; omega)) (fun _ _ => (.cons _ (.cons_cons _ .slnil))) ?_
   rintro ⟨⟩ -
   refine CfgA.done kr ?_
   refine Cg (Γ' := [(10,[],.int .i64 (t : Int)),(3,[],.pointer (some ⟨xw,0,none⟩)),(2,[],.pointer (some ⟨r,0,none⟩)),(0,[],.pointer (some ⟨b,0,none⟩))]) ?_
   refine Rg [0,2,3,10] [] (fun _ => [((-9223372036854775808 : Int) ≤ ((t : Int) + 1) ∧ ((t : Int) + 1) ≤ 9223372036854775807)]) ⟨om,trivial⟩ ?_
   refine Cfg.setO (congrArg (fun (xq : Array Value) => ([(xw,.cells xq 234 (0,0)),(r,.cells (wv (List.replicate 64 0)) 234 (0,0))] : List (Nat × Obj))) (show _ = (wv (row bl (t + 1))) from row_step bl t (wnext_lo om (be4_eq _ _ _ _)))) ?_
   refine Cfg.again rfl (t + 1) (by show t + 1 ≤ 16; omega) (by show 16 - (t + 1) < 16 - t; omega) (Conv.mk kr) (.cons_cons _ (.cons_cons _ .slnil))
  ·have c1 := (of_decide_eq_false c1r)
   obtain rfl : t = 16 := by omega
   refine Conv.cfg (Γ' := [(3,[],.pointer (some ⟨xw,0,none⟩)),(2,[],.pointer (some ⟨r,0,none⟩)),(0,[],.pointer (some ⟨b,0,none⟩))]) (Conv.mk kr) ?_
   refine Rg [2,3,5] [] n0 trivial ?_
   refine Cfg.loop rfl (ι := Nat) (fun (t : Nat) => [(5,[],.int .i64 (t : Int)),(3,[],.pointer (some ⟨xw,0,none⟩)),(2,[],.pointer (some ⟨r,0,none⟩))]) (fun (t : Nat) => [(xw,.cells (wv (row bl t)) 234 (0,0)),(r,.cells (wv (List.replicate 64 0)) 234 (0,0))]) (fun (t : Nat) => (16 ≤ t) ∧ (t ≤ 64)) (fun (t : Nat) => 64 - t) 16 ?_ (Conv.mk kr) (.cons_cons _ (.cons_cons _ .slnil)) ?_
   ·exact ⟨Nat.le_refl _,by decide⟩
   ·rintro t ⟨ht0,ht⟩
    refine Rg [2,3,5,58] [] n0 trivial ?_
    refine Cfg.cond rfl (b := (decide ((t : Int) < (64 : Int)))) kr (fun c2r => ?_) (fun c2r => ?_)
    ·have c2 := (of_decide_eq_true c2r)
     refine Cfg.regD rfl kr [2,3,5,6,7] [dZ,dZ,dZ,(0,false,some (.int .u32 (rg (row bl t) (t - 15) : Int))),dZ,dZ,dZ,(0,false,some (.int .u32 (rg (row bl t) (t - 2) : Int)))] (Γ' := [(7,[],.int .u32 (rg (row bl t) (t - 2) : Int)),(6,[],.int .u32 (rg (row bl t) (t - 15) : Int)),(5,[],.int .i64 (t : Int)),(3,[],.pointer (some ⟨xw,0,none⟩)),(2,[],.pointer (some ⟨r,0,none⟩))]) (nd := (fun S => [((-9223372036854775808 : Int) ≤ ((t : Int) - 15) ∧ ((t : Int) - 15) ≤ 9223372036854775807),(0 ≤ ((t : Int) - 15) ∧ ((t : Int) - 15) < (64 : Int)),(∀ w1,S w1 → w1.cell? ⟨xw,(((t : Int) - 15)).toNat,none⟩ = some (.int .u32 (rg (row bl t) (t - 15) : Int))),((-9223372036854775808 : Int) ≤ ((t : Int) - 2) ∧ ((t : Int) - 2) ≤ 9223372036854775807),(0 ≤ ((t : Int) - 2) ∧ ((t : Int) - 2) < (64 : Int)),(∀ w1,S w1 → w1.cell? ⟨xw,(((t : Int) - 2)).toNat,none⟩ = some (.int .u32 (rg (row bl t) (t - 2) : Int)))])) kr kr (fun _ => kr) ⟨om,om,(fun w1 h => h.ocell 0 rfl (by rw [show (((t : Int) - 15)).toNat = (t - 15) by omega]; exact wv_get (row_len bl t) om)),om,om,(fun w1 h => h.ocell 0 rfl (by rw [show (((t : Int) - 2)).toNat = (t - 2) by omega]; exact wv_get (row_len bl t) om)),trivial⟩ ?_
     refine Cfg.begL rfl ?_
     refine Lp 1 [] none n0 trivial ?_
     refine Le (Eff.callA (vs := [.int .u32 (rg (row bl t) (t - 15) : Int),.int .i64 (-7)]) (.int .u32 (rotl (rg (row bl t) (t - 15)) 33554432 128 : Int)) rfl Tryz.func176 rfl rfl kr (fun w1 _ => rot25 _ w1 (row_lt bl t _))) ?_
     rintro ⟨⟩ -
     refine Lp 1 [] (some [2,3,5,6,7,70,71]) n0 trivial ?_
     refine Le (Eff.callA (vs := [.int .u32 (rg (row bl t) (t - 15) : Int),.int .i64 (-18)]) (.int .u32 (rotl (rg (row bl t) (t - 15)) 16384 262144 : Int)) rfl Tryz.func176 rfl rfl kr (fun w1 _ => rot14 _ w1 (row_lt bl t _))) ?_
     rintro ⟨⟩ -
     refine Lp 5 [] (some [2,3,5,7,8]) (fun _ => [((0 ≤ (rotl (rg (row bl t) (t - 15)) 33554432 128 : Int) ∧ (rotl (rg (row bl t) (t - 15)) 33554432 128 : Int) ≤ 4294967295) ∧ 0 ≤ (rotl (rg (row bl t) (t - 15)) 16384 262144 : Int) ∧ (rotl (rg (row bl t) (t - 15)) 16384 262144 : Int) ≤ 4294967295),(0 ≤ (3 : Int) ∧ 3 ≤ 32),((0 ≤ ((((rotl (rg (row bl t) (t - 15)) 33554432 128 : Int)).toNat ^^^ ((rotl (rg (row bl t) (t - 15)) 16384 262144 : Int)).toNat : Nat) : Int) ∧ ((((rotl (rg (row bl t) (t - 15)) 33554432 128 : Int)).toNat ^^^ ((rotl (rg (row bl t) (t - 15)) 16384 262144 : Int)).toNat : Nat) : Int) ≤ 4294967295) ∧ 0 ≤ ((rg (row bl t) (t - 15) : Int) / 8) ∧ ((rg (row bl t) (t - 15) : Int) / 8) ≤ 4294967295)]) ⟨⟨⟨Int.natCast_nonneg _,le_pow (b := 32) (rotl_lt (row_lt bl t _))⟩,⟨Int.natCast_nonneg _,le_pow (b := 32) (rotl_lt (row_lt bl t _))⟩⟩,om,⟨⟨Int.natCast_nonneg _,le_pow (b := 32) (Nat.xor_lt_two_pow (tn_lt (rotl_lt (row_lt bl t _))) (tn_lt (rotl_lt (row_lt bl t _))))⟩,⟨Int.natCast_nonneg _,le_pow (b := 32) (Nat.lt_of_le_of_lt (Nat.div_le_self _ _) (row_lt bl t _))⟩⟩,trivial⟩ ?_
     refine CfgL.done rfl ?_
     refine Cfg.begL rfl ?_
     refine Lp 1 [] none n0 trivial ?_
     refine Le (Eff.callA (vs := [.int .u32 (rg (row bl t) (t - 2) : Int),.int .i64 (-17)]) (.int .u32 (rotl (rg (row bl t) (t - 2)) 32768 131072 : Int)) rfl Tryz.func176 rfl rfl kr (fun w1 _ => rot15 _ w1 (row_lt bl t _))) ?_
     rintro ⟨⟩ -
     refine CfgL.pure 1 [] (some [2,3,5,7,8,78,79]) (Γ' := [(79,[],.int .u32 (rg (row bl t) (t - 2) : Int)),(78,[],.int .u32 (rotl (rg (row bl t) (t - 2)) 32768 131072 : Int)),(8,[],.int .u32 (((((((rotl (rg (row bl t) (t - 15)) 33554432 128 : Int)).toNat ^^^ ((rotl (rg (row bl t) (t - 15)) 16384 262144 : Int)).toNat : Nat) : Int)).toNat ^^^ (((rg (row bl t) (t - 15) : Int) / 8)).toNat : Nat) : Int)),(7,[],.int .u32 (rg (row bl t) (t - 2) : Int)),(5,[],.int .i64 (t : Int)),(3,[],.pointer (some ⟨xw,0,none⟩)),(2,[],.pointer (some ⟨r,0,none⟩))]) (nd := (fun _ => [])) kr (fun _ => kr) trivial ?_
     refine Le (Eff.callA (vs := [.int .u32 (rg (row bl t) (t - 2) : Int),.int .i64 (-19)]) (.int .u32 (rotl (rg (row bl t) (t - 2)) 8192 524288 : Int)) rfl Tryz.func176 rfl rfl kr (fun w1 _ => rot13 _ w1 (row_lt bl t _))) ?_
     rintro ⟨⟩ -
     refine Lp 5 [] (some [2,3,5,8,9]) (fun _ => [((0 ≤ (rotl (rg (row bl t) (t - 2)) 32768 131072 : Int) ∧ (rotl (rg (row bl t) (t - 2)) 32768 131072 : Int) ≤ 4294967295) ∧ 0 ≤ (rotl (rg (row bl t) (t - 2)) 8192 524288 : Int) ∧ (rotl (rg (row bl t) (t - 2)) 8192 524288 : Int) ≤ 4294967295),(0 ≤ (10 : Int) ∧ 10 ≤ 32),((0 ≤ ((((rotl (rg (row bl t) (t - 2)) 32768 131072 : Int)).toNat ^^^ ((rotl (rg (row bl t) (t - 2)) 8192 524288 : Int)).toNat : Nat) : Int) ∧ ((((rotl (rg (row bl t) (t - 2)) 32768 131072 : Int)).toNat ^^^ ((rotl (rg (row bl t) (t - 2)) 8192 524288 : Int)).toNat : Nat) : Int) ≤ 4294967295) ∧ 0 ≤ ((rg (row bl t) (t - 2) : Int) / 1024) ∧ ((rg (row bl t) (t - 2) : Int) / 1024) ≤ 4294967295)]) ⟨⟨⟨Int.natCast_nonneg _,le_pow (b := 32) (rotl_lt (row_lt bl t _))⟩,⟨Int.natCast_nonneg _,le_pow (b := 32) (rotl_lt (row_lt bl t _))⟩⟩,om,⟨⟨Int.natCast_nonneg _,le_pow (b := 32) (Nat.xor_lt_two_pow (tn_lt (rotl_lt (row_lt bl t _))) (tn_lt (rotl_lt (row_lt bl t _))))⟩,⟨Int.natCast_nonneg _,le_pow (b := 32) (Nat.lt_of_le_of_lt (Nat.div_le_self _ _) (row_lt bl t _))⟩⟩,trivial⟩ ?_
     refine CfgL.done rfl ?_
     refine Cfg.begA rfl kr [(r,.cells (wv (List.replicate 64 0)) 234 (0,0))] ?_
     refine Ap [0,1,2,3,4,7,9,10,11] [] (some [2,3,5,85,86,89,92,96]) #[true,true,true,true,true,false,false,true,false,true,true,true,false,false,false,false] (.cons _ (.cons_cons _ .slnil)) 7 (fun _ => [((-9223372036854775808 : Int) ≤ ((t : Int) - 7) ∧ ((t : Int) - 7) ≤ 9223372036854775807),(0 ≤ ((t : Int) - 7) ∧ ((t : Int) - 7) < (64 : Int)),((-9223372036854775808 : Int) ≤ ((t : Int) - 16) ∧ ((t : Int) - 16) ≤ 9223372036854775807),(0 ≤ ((t : Int) - 16) ∧ ((t : Int) - 16) < (64 : Int))]) ⟨om,om,om,om,trivial⟩ ?_
     refine CfgA.two 5 12 kr (fuel' := 6) rfl ?_ ?_
     ·
      refine Ie rfl  (Eff.quiet (raw := false) (orc := some (.int .u32 (rg (row bl t) (t - 7) : Int))) (v := .int .u32 (rg (row bl t) (t - 7) : Int)) (nd := (fun S => [(∀ w1,S w1 → w1.cell? ⟨xw,(((t : Int) - 7)).toNat,none⟩ = some (.int .u32 (rg (row bl t) (t - 7) : Int)))])) (fun _ => kr) ⟨(fun w1 h => h.ocell 0 rfl (by rw [show (((t : Int) - 7)).toNat = (t - 7) by omega]; exact wv_get (row_len bl t) om)),trivial⟩ kr) (fun _ _ => (.cons _ (.cons_cons _ .slnil))) ?_
      rintro ⟨⟩ -
      refine Ap [6,8] [] (some [2,3,5,85,93,96]) #[true,true,true,true,true,true,true,true,true,true,true,true,false,false,false,false] (.cons _ (.cons_cons _ .slnil)) 4 n0 trivial ?_
      refine Ae 12 rfl 3  (Eff.quiet (raw := false) (orc := some (.int .u32 (rg (row bl t) (t - 16) : Int))) (v := .int .u32 (rg (row bl t) (t - 16) : Int)) (nd := (fun S => [(∀ w1,S w1 → w1.cell? ⟨xw,(((t : Int) - 16)).toNat,none⟩ = some (.int .u32 (rg (row bl t) (t - 16) : Int)))])) (fun _ => kr) ⟨(fun w1 h => h.ocell 0 rfl (by rw [show (((t : Int) - 16)).toNat = (t - 16) by omega]; exact wv_get (row_len bl t) om)),trivial⟩ kr) (fun _ _ => (.cons _ (.cons_cons _ .slnil))) ?_
      rintro ⟨⟩ -
      refine Ap [13,14] [] (some [2,3,5,98,99]) #[true,true,true,true,true,true,true,true,true,true,true,true,true,true,true,false] (.cons _ (.cons_cons _ .slnil)) 1 (fun _ => [(0 ≤ (t : Int) ∧ (t : Int) < (64 : Int))]) ⟨om,trivial⟩ ?_
      refine Ae 15 rfl 0  (Eff.store1 (b := xw) (off := t) (v := .int .u32 (((((((((((((rotl (rg (row bl t) (t - 2)) 32768 131072 : Int)).toNat ^^^ ((rotl (rg (row bl t) (t - 2)) 8192 524288 : Int)).toNat : Nat) : Int)).toNat ^^^ (((rg (row bl t) (t - 2) : Int) / 1024)).toNat : Nat) : Int) + (rg (row bl t) (t - 7) : Int)) % 4294967296) + (((((((rotl (rg (row bl t) (t - 15)) 33554432 128 : Int)).toNat ^^^ ((rotl (rg (row bl t) (t - 15)) 16384 262144 : Int)).toNat : Nat) : Int)).toNat ^^^ (((rg (row bl t) (t - 15) : Int) / 8)).toNat : Nat) : Int)) % 4294967296) + (rg (row bl t) (t - 16) : Int)) % 4294967296)) rfl kr kr rfl kr 0 (cs := (wv (row bl t))) (e := 234) kr (by rw [wsize]; omega)) (fun _ _ => (.cons _ (.cons_cons _ .slnil))) ?_
      rintro ⟨⟩ -
      refine CfgA.done kr ?_
      refine Cg (Γ' := [(5,[],.int .i64 (t : Int)),(3,[],.pointer (some ⟨xw,0,none⟩)),(2,[],.pointer (some ⟨r,0,none⟩))]) ?_
      refine Rg [2,3,5] [] (fun _ => [((-9223372036854775808 : Int) ≤ ((t : Int) + 1) ∧ ((t : Int) + 1) ≤ 9223372036854775807)]) ⟨om,trivial⟩ ?_
      refine Cfg.setO (congrArg (fun (xq : Array Value) => ([(xw,.cells xq 234 (0,0)),(r,.cells (wv (List.replicate 64 0)) 234 (0,0))] : List (Nat × Obj))) (show _ = (wv (row bl (t + 1))) from row_step bl t (wnext_hi om (wn_eq _ _ _ _)))) ?_
      refine Cfg.again rfl (t + 1) ⟨by omega,by omega⟩ (by show 64 - (t + 1) < 64 - t; omega) (Conv.mk kr) (.cons_cons _ (.cons_cons _ .slnil))
     ·
      refine Ie rfl  (Eff.quiet (raw := false) (orc := some (.int .u32 (rg (row bl t) (t - 16) : Int))) (v := .int .u32 (rg (row bl t) (t - 16) : Int)) (nd := (fun S => [(∀ w1,S w1 → w1.cell? ⟨xw,(((t : Int) - 16)).toNat,none⟩ = some (.int .u32 (rg (row bl t) (t - 16) : Int)))])) (fun _ => kr) ⟨(fun w1 h => h.ocell 0 rfl (by rw [show (((t : Int) - 16)).toNat = (t - 16) by omega]; exact wv_get (row_len bl t) om)),trivial⟩ kr) (fun _ _ => (.cons _ (.cons_cons _ .slnil))) ?_
      rintro ⟨⟩ -
      refine Ae 5 rfl 5  (Eff.quiet (raw := false) (orc := some (.int .u32 (rg (row bl t) (t - 7) : Int))) (v := .int .u32 (rg (row bl t) (t - 7) : Int)) (nd := (fun S => [(∀ w1,S w1 → w1.cell? ⟨xw,(((t : Int) - 7)).toNat,none⟩ = some (.int .u32 (rg (row bl t) (t - 7) : Int)))])) (fun _ => kr) ⟨(fun w1 h => h.ocell 0 rfl (by rw [show (((t : Int) - 7)).toNat = (t - 7) by omega]; exact wv_get (row_len bl t) om)),trivial⟩ kr) (fun _ _ => (.cons _ (.cons_cons _ .slnil))) ?_
      rintro ⟨⟩ -
      refine Ap [6,8,13,14] [] (some [2,3,5,98,99]) #[true,true,true,true,true,true,true,true,true,true,true,true,true,true,true,false] (.cons _ (.cons_cons _ .slnil)) 1 (fun _ => [(0 ≤ (t : Int) ∧ (t : Int) < (64 : Int))]) ⟨om,trivial⟩ ?_
      refine Ae 15 rfl 0  (Eff.store1 (b := xw) (off := t) (v := .int .u32 (((((((((((((rotl (rg (row bl t) (t - 2)) 32768 131072 : Int)).toNat ^^^ ((rotl (rg (row bl t) (t - 2)) 8192 524288 : Int)).toNat : Nat) : Int)).toNat ^^^ (((rg (row bl t) (t - 2) : Int) / 1024)).toNat : Nat) : Int) + (rg (row bl t) (t - 7) : Int)) % 4294967296) + (((((((rotl (rg (row bl t) (t - 15)) 33554432 128 : Int)).toNat ^^^ ((rotl (rg (row bl t) (t - 15)) 16384 262144 : Int)).toNat : Nat) : Int)).toNat ^^^ (((rg (row bl t) (t - 15) : Int) / 8)).toNat : Nat) : Int)) % 4294967296) + (rg (row bl t) (t - 16) : Int)) % 4294967296)) rfl kr kr rfl kr 0 (cs := (wv (row bl t))) (e := 234) kr (by rw [wsize]; omega)) (fun _ _ => (.cons _ (.cons_cons _ .slnil))) ?_
      rintro ⟨⟩ -
      refine CfgA.done kr ?_
      refine Cg (Γ' := [(5,[],.int .i64 (t : Int)),(3,[],.pointer (some ⟨xw,0,none⟩)),(2,[],.pointer (some ⟨r,0,none⟩))]) ?_
      refine Rg [2,3,5] [] (fun _ => [((-9223372036854775808 : Int) ≤ ((t : Int) + 1) ∧ ((t : Int) + 1) ≤ 9223372036854775807)]) ⟨om,trivial⟩ ?_
      refine Cfg.setO (congrArg (fun (xq : Array Value) => ([(xw,.cells xq 234 (0,0)),(r,.cells (wv (List.replicate 64 0)) 234 (0,0))] : List (Nat × Obj))) (show _ = (wv (row bl (t + 1))) from row_step bl t (wnext_hi om (wn_eq _ _ _ _)))) ?_
      refine Cfg.again rfl (t + 1) ⟨by omega,by omega⟩ (by show 64 - (t + 1) < 64 - t; omega) (Conv.mk kr) (.cons_cons _ (.cons_cons _ .slnil))
    ·have c2 := (of_decide_eq_false c2r)
     refine Cfg.begL rfl ?_
     refine Lp 1 [(0,false,some (.agg (wv (row bl t))))] (some [2,100]) (fun S => [(∀ w1,S w1 → (loadVar 234 ⟨xw,0,none⟩).run Tryz.prog w1 = .ok (.agg (wv (row bl t))) w1)]) ⟨(fun w1 h => h.oload 0 rfl Tryz.underlying234 rfl (n := 64) kr (wsize bl t)),trivial⟩ ?_
     refine Le (Eff.storeN (b := r) (off := 0) (vs := (wv (row bl t))) (n := 64) rfl kr kr kr (wsize bl t) (all_wv _) 1 (cs := (wv (List.replicate 64 0))) (e := 234) kr (by rw [show wv (List.replicate 64 0) = wv (row bl 0) from rfl,wsize]; omega)) ?_
     rintro ⟨⟩ -
     refine CfgL.setO (congrArg (fun (xq : Array Value) => ([(xw,.cells (wv (row bl t)) 234 (0,0)),(r,.cells xq 234 (0,0))] : List (Nat × Obj))) (show _ = (wv (row bl t)) from spl_all ((wsize bl t).trans (wsize bl 0).symm))) ?_
     refine CfgL.done rfl ?_
     refine Cg (Γ' := [(2,[],.pointer (some ⟨r,0,none⟩))]) ?_
     refine Cfg.ret rfl (rs := [.cell 2 234]) rfl [.agg (wv (row bl t))] ⟨⟨_,by kernel_rfl,(fun w1 h => h.oload 1 rfl Tryz.underlying234 rfl (n := 64) kr (wsize bl t))⟩,trivial⟩ (fun w1 hp => ?_)
     obtain rfl : t = 64 := by omega
     exact ⟨rfl,hp.ext⟩
end Go.Proofs.YtinhinjpfmdfiaaGreatDoor
namespace Go.Proofs.YtinhinjpfmdfiaaGreatDoor
open K
set_option linter.unusedVariables false
set_option maxRecDepth 100000 in
theorem shaMix (b : Nat) (hs : List Nat) (bl : List UInt8) (held total : Nat) {kt : Array Value} {t0 : TypeId} {fr0 : Nat × Nat} (w : World) (hh : hs.length = 8) (hb : bl.length = 64) (hlt : ∀ i,rg hs i < 2 ^ 32) (hR : Has w [(1,.cells kt t0 fr0)]) (hS : w.heap[b]? = some (.cells (stC hs bl held total) 225 (0,0))) (hne : b ≠ 1) (hK : KT kt := by assumption) :
  Calls Tryz.prog 163 #[.pointer (some ⟨b,0,none⟩)] w fun e w' => e = .returned (.tuple #[]) ∧ Ext [b] w w' ∧ w'.heap[b]? = some (.cells (stC (mixF hs bl) bl held total) 225 (0,0)) := by
 refine enter (vs := [.pointer (some ⟨b,0,none⟩)]) [b] [(1,.cells kt t0 fr0)] [(b,.cells (stC hs bl held total) 225 (0,0))] Tryz.func163 rfl kr (HP.startM hR hS (by simpa using hne)) ?_
 refine Cfg.begL rfl ?_
 refine Lp 1 [] none n0 trivial ?_
 refine Le (Eff.callA (vs := [.pointer (some ⟨b,0,none⟩)]) (.agg (wv (row bl 64))) rfl Tryz.func175 rfl rfl kr (fun w1 h => words b hs bl held total w1 hh hb (h.has (fun e he => he)))) ?_
 rintro ⟨⟩ -
 refine Le (Eff.alloc (z := (.agg (wv (List.replicate 64 0)))) rfl kr) ?_
 rintro xw ⟨hxw,nxw⟩
 refine Le (Eff.storeN (b := xw) (off := 0) (vs := (wv (row bl 64))) (n := 64) rfl kr kr kr (wsize bl 64) (all_wv _) 0 (cs := (wv (List.replicate 64 0))) (e := 234) kr (by rw [show wv (List.replicate 64 0) = wv (row bl 0) from rfl,wsize]; omega)) ?_
 rintro ⟨⟩ -
 refine CfgL.setO (congrArg (fun (xq : Array Value) => ([(xw,.cells xq 234 (0,0)),(b,.cells (stC hs bl held total) 225 (0,0))] : List (Nat × Obj))) (show _ = (wv (row bl 64)) from spl_all ((wsize bl 64).trans (wsize bl 0).symm))) ?_
 refine CfgL.done rfl ?_
 refine Cg (Γ' := [(2,[],.pointer (some ⟨xw,0,none⟩)),(0,[],.pointer (some ⟨b,0,none⟩))]) ?_
 refine Cfg.regD rfl kr [0,2,3,4,5,6] [dZ,dZ,dZ,dZ,(0,false,some (.int .u32 (rg hs 0 : Int))),dZ,dZ,dZ,dZ,(0,false,some (.int .u32 (rg hs 1 : Int))),dZ,dZ,dZ,dZ,(0,false,some (.int .u32 (rg hs 2 : Int))),dZ,dZ,dZ,dZ,(0,false,some (.int .u32 (rg hs 3 : Int)))] (Γ' := [(6,[],.int .u32 (rg hs 3 : Int)),(5,[],.int .u32 (rg hs 2 : Int)),(4,[],.int .u32 (rg hs 1 : Int)),(3,[],.int .u32 (rg hs 0 : Int)),(2,[],.pointer (some ⟨xw,0,none⟩)),(0,[],.pointer (some ⟨b,0,none⟩))]) (nd := (fun S => [(0 ≤ (0 : Int) ∧ (0 : Int) < (8 : Int)),(∀ w1,S w1 → w1.cell? ⟨b,0,none⟩ = some (.int .u32 (rg hs 0 : Int))),(0 ≤ (1 : Int) ∧ (1 : Int) < (8 : Int)),(∀ w1,S w1 → w1.cell? ⟨b,1,none⟩ = some (.int .u32 (rg hs 1 : Int))),(0 ≤ (2 : Int) ∧ (2 : Int) < (8 : Int)),(∀ w1,S w1 → w1.cell? ⟨b,2,none⟩ = some (.int .u32 (rg hs 2 : Int))),(0 ≤ (3 : Int) ∧ (3 : Int) < (8 : Int)),(∀ w1,S w1 → w1.cell? ⟨b,3,none⟩ = some (.int .u32 (rg hs 3 : Int)))])) kr kr (fun _ => kr) ⟨om,(fun w1 h => h.ocell 1 rfl (st_sum hh om)),om,(fun w1 h => h.ocell 1 rfl (st_sum hh om)),om,(fun w1 h => h.ocell 1 rfl (st_sum hh om)),om,(fun w1 h => h.ocell 1 rfl (st_sum hh om)),trivial⟩ ?_
 refine Cfg.regD rfl kr [0,2,3,4,5,6,7,8,9,10] [dZ,dZ,dZ,dZ,(0,false,some (.int .u32 (rg hs 4 : Int))),dZ,dZ,dZ,dZ,(0,false,some (.int .u32 (rg hs 5 : Int))),dZ,dZ,dZ,dZ,(0,false,some (.int .u32 (rg hs 6 : Int))),dZ,dZ,dZ,dZ,(0,false,some (.int .u32 (rg hs 7 : Int)))] (Γ' := [(10,[],.int .u32 (rg hs 7 : Int)),(9,[],.int .u32 (rg hs 6 : Int)),(8,[],.int .u32 (rg hs 5 : Int)),(7,[],.int .u32 (rg hs 4 : Int)),(6,[],.int .u32 (rg hs 3 : Int)),(5,[],.int .u32 (rg hs 2 : Int)),(4,[],.int .u32 (rg hs 1 : Int)),(3,[],.int .u32 (rg hs 0 : Int)),(2,[],.pointer (some ⟨xw,0,none⟩)),(0,[],.pointer (some ⟨b,0,none⟩))]) (nd := (fun S => [(0 ≤ (4 : Int) ∧ (4 : Int) < (8 : Int)),(∀ w1,S w1 → w1.cell? ⟨b,4,none⟩ = some (.int .u32 (rg hs 4 : Int))),(0 ≤ (5 : Int) ∧ (5 : Int) < (8 : Int)),(∀ w1,S w1 → w1.cell? ⟨b,5,none⟩ = some (.int .u32 (rg hs 5 : Int))),(0 ≤ (6 : Int) ∧ (6 : Int) < (8 : Int)),(∀ w1,S w1 → w1.cell? ⟨b,6,none⟩ = some (.int .u32 (rg hs 6 : Int))),(0 ≤ (7 : Int) ∧ (7 : Int) < (8 : Int)),(∀ w1,S w1 → w1.cell? ⟨b,7,none⟩ = some (.int .u32 (rg hs 7 : Int)))])) kr kr (fun _ => kr) ⟨om,(fun w1 h => h.ocell 1 rfl (st_sum hh om)),om,(fun w1 h => h.ocell 1 rfl (st_sum hh om)),om,(fun w1 h => h.ocell 1 rfl (st_sum hh om)),om,(fun w1 h => h.ocell 1 rfl (st_sum hh om)),trivial⟩ ?_
 refine Rg [0,2,3,4,5,6,7,8,9,10,62] [] n0 trivial ?_
 refine Cfg.loop rfl (ι := Nat) (fun (t : Nat) => [(62,[],.int .i64 (t : Int)),(10,[],.int .u32 ((rv hs bl t).h : Int)),(9,[],.int .u32 ((rv hs bl t).g : Int)),(8,[],.int .u32 ((rv hs bl t).f : Int)),(7,[],.int .u32 ((rv hs bl t).e : Int)),(6,[],.int .u32 ((rv hs bl t).d : Int)),(5,[],.int .u32 ((rv hs bl t).c : Int)),(4,[],.int .u32 ((rv hs bl t).b : Int)),(3,[],.int .u32 ((rv hs bl t).a : Int)),(2,[],.pointer (some ⟨xw,0,none⟩)),(0,[],.pointer (some ⟨b,0,none⟩))]) (fun (t : Nat) => [(xw,.cells (wv (row bl 64)) 234 (0,0)),(b,.cells (stC hs bl held total) 225 (0,0))]) (fun (t : Nat) => (t ≤ 64)) (fun (t : Nat) => 64 - t) 0 ?_ (Conv.mk kr) (.cons_cons _ (.cons_cons _ .slnil)) ?_
 ·exact Nat.zero_le _
 ·rintro t ht
  have ok := rv_ok hlt bl t
  refine Rg [0,2,3,4,5,6,7,8,9,10,62,63] [] n0 trivial ?_
  refine Cfg.cond rfl (b := (decide ((t : Int) < (64 : Int)))) kr (fun c1r => ?_) (fun c1r => ?_)
  ·have c1 := (of_decide_eq_true c1r)
   refine Rg [0,2,3,4,5,6,7,8,9,10,11,62] [] n0 trivial ?_
   refine Cfg.begL rfl ?_
   refine Lp 1 [] none n0 trivial ?_
   refine Le (Eff.callA (vs := [.int .u32 ((rv hs bl t).e : Int),.int .i64 (-6)]) (.int .u32 (rotl ((rv hs bl t).e) 67108864 64 : Int)) rfl Tryz.func176 rfl rfl kr (fun w1 _ => rot26 _ w1 ok.e)) ?_
   rintro ⟨⟩ -
   refine Lp 1 [] (some [0,2,3,4,5,6,7,8,9,10,11,62,66,67]) n0 trivial ?_
   refine Le (Eff.callA (vs := [.int .u32 ((rv hs bl t).e : Int),.int .i64 (-11)]) (.int .u32 (rotl ((rv hs bl t).e) 2097152 2048 : Int)) rfl Tryz.func176 rfl rfl kr (fun w1 _ => rot21 _ w1 ok.e)) ?_
   rintro ⟨⟩ -
   refine Lp 2 [] (some [0,2,3,4,5,6,7,8,9,10,11,62,69,70]) (fun _ => [((0 ≤ (rotl ((rv hs bl t).e) 67108864 64 : Int) ∧ (rotl ((rv hs bl t).e) 67108864 64 : Int) ≤ 4294967295) ∧ 0 ≤ (rotl ((rv hs bl t).e) 2097152 2048 : Int) ∧ (rotl ((rv hs bl t).e) 2097152 2048 : Int) ≤ 4294967295)]) ⟨⟨⟨Int.natCast_nonneg _,le_pow (b := 32) (rotl_lt ok.e)⟩,⟨Int.natCast_nonneg _,le_pow (b := 32) (rotl_lt ok.e)⟩⟩,trivial⟩ ?_
   refine Le (Eff.callA (vs := [.int .u32 ((rv hs bl t).e : Int),.int .i64 (-25)]) (.int .u32 (rotl ((rv hs bl t).e) 128 33554432 : Int)) rfl Tryz.func176 rfl rfl kr (fun w1 _ => rot7 _ w1 ok.e)) ?_
   rintro ⟨⟩ -
   refine Lp 2 [] (some [0,2,3,4,5,6,7,8,9,10,11,12,62]) (fun _ => [((0 ≤ ((((rotl ((rv hs bl t).e) 67108864 64 : Int)).toNat ^^^ ((rotl ((rv hs bl t).e) 2097152 2048 : Int)).toNat : Nat) : Int) ∧ ((((rotl ((rv hs bl t).e) 67108864 64 : Int)).toNat ^^^ ((rotl ((rv hs bl t).e) 2097152 2048 : Int)).toNat : Nat) : Int) ≤ 4294967295) ∧ 0 ≤ (rotl ((rv hs bl t).e) 128 33554432 : Int) ∧ (rotl ((rv hs bl t).e) 128 33554432 : Int) ≤ 4294967295)]) ⟨⟨⟨Int.natCast_nonneg _,le_pow (b := 32) (Nat.xor_lt_two_pow (tn_lt (rotl_lt ok.e)) (tn_lt (rotl_lt ok.e)))⟩,⟨Int.natCast_nonneg _,le_pow (b := 32) (rotl_lt ok.e)⟩⟩,trivial⟩ ?_
   refine CfgL.done rfl ?_
   refine Cg (Γ' := [(12,[],.int .u32 (((((((rotl ((rv hs bl t).e) 67108864 64 : Int)).toNat ^^^ ((rotl ((rv hs bl t).e) 2097152 2048 : Int)).toNat : Nat) : Int)).toNat ^^^ ((rotl ((rv hs bl t).e) 128 33554432 : Int)).toNat : Nat) : Int)),(11,[],.int .i64 (t : Int)),(62,[],.int .i64 (t : Int)),(10,[],.int .u32 ((rv hs bl t).h : Int)),(9,[],.int .u32 ((rv hs bl t).g : Int)),(8,[],.int .u32 ((rv hs bl t).f : Int)),(7,[],.int .u32 ((rv hs bl t).e : Int)),(6,[],.int .u32 ((rv hs bl t).d : Int)),(5,[],.int .u32 ((rv hs bl t).c : Int)),(4,[],.int .u32 ((rv hs bl t).b : Int)),(3,[],.int .u32 ((rv hs bl t).a : Int)),(2,[],.pointer (some ⟨xw,0,none⟩)),(0,[],.pointer (some ⟨b,0,none⟩))]) ?_
   refine Cfg.setG (congrArg (fun (xq : Int) => ([(12,[],.int .u32 xq),(11,[],.int .i64 (t : Int)),(62,[],.int .i64 (t : Int)),(10,[],.int .u32 ((rv hs bl t).h : Int)),(9,[],.int .u32 ((rv hs bl t).g : Int)),(8,[],.int .u32 ((rv hs bl t).f : Int)),(7,[],.int .u32 ((rv hs bl t).e : Int)),(6,[],.int .u32 ((rv hs bl t).d : Int)),(5,[],.int .u32 ((rv hs bl t).c : Int)),(4,[],.int .u32 ((rv hs bl t).b : Int)),(3,[],.int .u32 ((rv hs bl t).a : Int)),(2,[],.pointer (some ⟨xw,0,none⟩)),(0,[],.pointer (some ⟨b,0,none⟩))] : Env)) (show _ = (bigE (rv hs bl t).e : Int) from bigE_eq _)) ?_
   refine Rg [0,2,3,4,5,6,7,8,9,10,11,12,13,62] [] (fun _ => [((0 ≤ ((rv hs bl t).e : Int) ∧ ((rv hs bl t).e : Int) ≤ 4294967295) ∧ 0 ≤ ((rv hs bl t).f : Int) ∧ ((rv hs bl t).f : Int) ≤ 4294967295),((0 ≤ (4294967295 : Int) ∧ (4294967295 : Int) ≤ 4294967295) ∧ 0 ≤ ((rv hs bl t).e : Int) ∧ ((rv hs bl t).e : Int) ≤ 4294967295),((0 ≤ ((4294967295 ^^^ (((rv hs bl t).e : Int)).toNat : Nat) : Int) ∧ ((4294967295 ^^^ (((rv hs bl t).e : Int)).toNat : Nat) : Int) ≤ 4294967295) ∧ 0 ≤ ((rv hs bl t).g : Int) ∧ ((rv hs bl t).g : Int) ≤ 4294967295),((0 ≤ (((((rv hs bl t).e : Int)).toNat &&& (((rv hs bl t).f : Int)).toNat : Nat) : Int) ∧ (((((rv hs bl t).e : Int)).toNat &&& (((rv hs bl t).f : Int)).toNat : Nat) : Int) ≤ 4294967295) ∧ 0 ≤ (((((4294967295 ^^^ (((rv hs bl t).e : Int)).toNat : Nat) : Int)).toNat &&& (((rv hs bl t).g : Int)).toNat : Nat) : Int) ∧ (((((4294967295 ^^^ (((rv hs bl t).e : Int)).toNat : Nat) : Int)).toNat &&& (((rv hs bl t).g : Int)).toNat : Nat) : Int) ≤ 4294967295)]) ⟨⟨⟨Int.natCast_nonneg _,le_pow (b := 32) ok.e⟩,⟨Int.natCast_nonneg _,le_pow (b := 32) ok.f⟩⟩,⟨⟨by omega,by omega⟩,⟨Int.natCast_nonneg _,le_pow (b := 32) ok.e⟩⟩,⟨⟨Int.natCast_nonneg _,le_pow (b := 32) (Nat.xor_lt_two_pow om (tn_lt ok.e))⟩,⟨Int.natCast_nonneg _,le_pow (b := 32) ok.g⟩⟩,⟨⟨Int.natCast_nonneg _,le_pow (b := 32) (Nat.and_lt_two_pow _ (tn_lt ok.f))⟩,⟨Int.natCast_nonneg _,le_pow (b := 32) (Nat.and_lt_two_pow _ (tn_lt ok.g))⟩⟩,trivial⟩ ?_
   refine Cg (Γ' := [(13,[],.int .u32 ((((((((rv hs bl t).e : Int)).toNat &&& (((rv hs bl t).f : Int)).toNat : Nat) : Int)).toNat ^^^ ((((((4294967295 ^^^ (((rv hs bl t).e : Int)).toNat : Nat) : Int)).toNat &&& (((rv hs bl t).g : Int)).toNat : Nat) : Int)).toNat : Nat) : Int)),(12,[],.int .u32 (bigE (rv hs bl t).e : Int)),(11,[],.int .i64 (t : Int)),(62,[],.int .i64 (t : Int)),(10,[],.int .u32 ((rv hs bl t).h : Int)),(9,[],.int .u32 ((rv hs bl t).g : Int)),(8,[],.int .u32 ((rv hs bl t).f : Int)),(7,[],.int .u32 ((rv hs bl t).e : Int)),(6,[],.int .u32 ((rv hs bl t).d : Int)),(5,[],.int .u32 ((rv hs bl t).c : Int)),(4,[],.int .u32 ((rv hs bl t).b : Int)),(3,[],.int .u32 ((rv hs bl t).a : Int)),(2,[],.pointer (some ⟨xw,0,none⟩)),(0,[],.pointer (some ⟨b,0,none⟩))]) ?_
   refine Cfg.setG (congrArg (fun (xq : Int) => ([(13,[],.int .u32 xq),(12,[],.int .u32 (bigE (rv hs bl t).e : Int)),(11,[],.int .i64 (t : Int)),(62,[],.int .i64 (t : Int)),(10,[],.int .u32 ((rv hs bl t).h : Int)),(9,[],.int .u32 ((rv hs bl t).g : Int)),(8,[],.int .u32 ((rv hs bl t).f : Int)),(7,[],.int .u32 ((rv hs bl t).e : Int)),(6,[],.int .u32 ((rv hs bl t).d : Int)),(5,[],.int .u32 ((rv hs bl t).c : Int)),(4,[],.int .u32 ((rv hs bl t).b : Int)),(3,[],.int .u32 ((rv hs bl t).a : Int)),(2,[],.pointer (some ⟨xw,0,none⟩)),(0,[],.pointer (some ⟨b,0,none⟩))] : Env)) (show _ = (choi (rv hs bl t).e (rv hs bl t).f (rv hs bl t).g : Int) from choi_eq _ _ _)) ?_
   refine Cfg.regD rfl kr [0,2,3,4,5,6,7,8,9,14,62] [dZ,dZ,dZ,dZ,dZ,dZ,dZ,(0,false,some (.int .u32 (rg Kc t : Int))),dZ,dZ,dZ,(0,false,some (.int .u32 (rg (row bl 64) t : Int)))] (Γ' := [(14,[],.int .u32 ((((((((((rv hs bl t).h : Int) + (bigE (rv hs bl t).e : Int)) % 4294967296) + (choi (rv hs bl t).e (rv hs bl t).f (rv hs bl t).g : Int)) % 4294967296) + (rg Kc t : Int)) % 4294967296) + (rg (row bl 64) t : Int)) % 4294967296)),(62,[],.int .i64 (t : Int)),(9,[],.int .u32 ((rv hs bl t).g : Int)),(8,[],.int .u32 ((rv hs bl t).f : Int)),(7,[],.int .u32 ((rv hs bl t).e : Int)),(6,[],.int .u32 ((rv hs bl t).d : Int)),(5,[],.int .u32 ((rv hs bl t).c : Int)),(4,[],.int .u32 ((rv hs bl t).b : Int)),(3,[],.int .u32 ((rv hs bl t).a : Int)),(2,[],.pointer (some ⟨xw,0,none⟩)),(0,[],.pointer (some ⟨b,0,none⟩))]) (nd := (fun S => [(0 ≤ (t : Int) ∧ (t : Int) < (64 : Int)),(∀ w1,S w1 → w1.cell? ⟨1,t,none⟩ = some (.int .u32 (rg Kc t : Int))),(0 ≤ (t : Int) ∧ (t : Int) < (64 : Int)),(∀ w1,S w1 → w1.cell? ⟨xw,t,none⟩ = some (.int .u32 (rg (row bl 64) t : Int)))])) kr kr (fun _ => kr) ⟨om,(fun w1 h => h.rcell 0 rfl (hK _ om)),om,(fun w1 h => h.ocell 0 rfl (wv_get (row_len bl 64) om)),trivial⟩ ?_
   refine Cg (Γ' := [(14,[],.int .u32 ((((((((((rv hs bl t).h : Int) + (bigE (rv hs bl t).e : Int)) % 4294967296) + (choi (rv hs bl t).e (rv hs bl t).f (rv hs bl t).g : Int)) % 4294967296) + (rg Kc t : Int)) % 4294967296) + (rg (row bl 64) t : Int)) % 4294967296)),(62,[],.int .i64 (t : Int)),(9,[],.int .u32 ((rv hs bl t).g : Int)),(8,[],.int .u32 ((rv hs bl t).f : Int)),(7,[],.int .u32 ((rv hs bl t).e : Int)),(6,[],.int .u32 ((rv hs bl t).d : Int)),(5,[],.int .u32 ((rv hs bl t).c : Int)),(4,[],.int .u32 ((rv hs bl t).b : Int)),(3,[],.int .u32 ((rv hs bl t).a : Int)),(2,[],.pointer (some ⟨xw,0,none⟩)),(0,[],.pointer (some ⟨b,0,none⟩))]) ?_
   refine Cfg.setG (congrArg (fun (xq : Int) => ([(14,[],.int .u32 xq),(62,[],.int .i64 (t : Int)),(9,[],.int .u32 ((rv hs bl t).g : Int)),(8,[],.int .u32 ((rv hs bl t).f : Int)),(7,[],.int .u32 ((rv hs bl t).e : Int)),(6,[],.int .u32 ((rv hs bl t).d : Int)),(5,[],.int .u32 ((rv hs bl t).c : Int)),(4,[],.int .u32 ((rv hs bl t).b : Int)),(3,[],.int .u32 ((rv hs bl t).a : Int)),(2,[],.pointer (some ⟨xw,0,none⟩)),(0,[],.pointer (some ⟨b,0,none⟩))] : Env)) (show _ = (frst (rg Kc t) (rg (row bl 64) t) (rv hs bl t) : Int) from frst_eq _ _ _)) ?_
   refine Cfg.begL rfl ?_
   refine Lp 1 [] none n0 trivial ?_
   refine Le (Eff.callA (vs := [.int .u32 ((rv hs bl t).a : Int),.int .i64 (-2)]) (.int .u32 (rotl ((rv hs bl t).a) 1073741824 4 : Int)) rfl Tryz.func176 rfl rfl kr (fun w1 _ => rot30 _ w1 ok.a)) ?_
   rintro ⟨⟩ -
   refine Lp 1 [] (some [0,2,3,4,5,6,7,8,9,14,62,95,96]) n0 trivial ?_
   refine Le (Eff.callA (vs := [.int .u32 ((rv hs bl t).a : Int),.int .i64 (-13)]) (.int .u32 (rotl ((rv hs bl t).a) 524288 8192 : Int)) rfl Tryz.func176 rfl rfl kr (fun w1 _ => rot19 _ w1 ok.a)) ?_
   rintro ⟨⟩ -
   refine Lp 2 [] (some [0,2,3,4,5,6,7,8,9,14,62,98,99]) (fun _ => [((0 ≤ (rotl ((rv hs bl t).a) 1073741824 4 : Int) ∧ (rotl ((rv hs bl t).a) 1073741824 4 : Int) ≤ 4294967295) ∧ 0 ≤ (rotl ((rv hs bl t).a) 524288 8192 : Int) ∧ (rotl ((rv hs bl t).a) 524288 8192 : Int) ≤ 4294967295)]) ⟨⟨⟨Int.natCast_nonneg _,le_pow (b := 32) (rotl_lt ok.a)⟩,⟨Int.natCast_nonneg _,le_pow (b := 32) (rotl_lt ok.a)⟩⟩,trivial⟩ ?_
   refine Le (Eff.callA (vs := [.int .u32 ((rv hs bl t).a : Int),.int .i64 (-22)]) (.int .u32 (rotl ((rv hs bl t).a) 1024 4194304 : Int)) rfl Tryz.func176 rfl rfl kr (fun w1 _ => rot10 _ w1 ok.a)) ?_
   rintro ⟨⟩ -
   refine Lp 2 [] (some [0,2,3,4,5,6,7,8,9,14,15,62]) (fun _ => [((0 ≤ ((((rotl ((rv hs bl t).a) 1073741824 4 : Int)).toNat ^^^ ((rotl ((rv hs bl t).a) 524288 8192 : Int)).toNat : Nat) : Int) ∧ ((((rotl ((rv hs bl t).a) 1073741824 4 : Int)).toNat ^^^ ((rotl ((rv hs bl t).a) 524288 8192 : Int)).toNat : Nat) : Int) ≤ 4294967295) ∧ 0 ≤ (rotl ((rv hs bl t).a) 1024 4194304 : Int) ∧ (rotl ((rv hs bl t).a) 1024 4194304 : Int) ≤ 4294967295)]) ⟨⟨⟨Int.natCast_nonneg _,le_pow (b := 32) (Nat.xor_lt_two_pow (tn_lt (rotl_lt ok.a)) (tn_lt (rotl_lt ok.a)))⟩,⟨Int.natCast_nonneg _,le_pow (b := 32) (rotl_lt ok.a)⟩⟩,trivial⟩ ?_
   refine CfgL.done rfl ?_
   refine Cg (Γ' := [(15,[],.int .u32 (((((((rotl ((rv hs bl t).a) 1073741824 4 : Int)).toNat ^^^ ((rotl ((rv hs bl t).a) 524288 8192 : Int)).toNat : Nat) : Int)).toNat ^^^ ((rotl ((rv hs bl t).a) 1024 4194304 : Int)).toNat : Nat) : Int)),(14,[],.int .u32 (frst (rg Kc t) (rg (row bl 64) t) (rv hs bl t) : Int)),(62,[],.int .i64 (t : Int)),(9,[],.int .u32 ((rv hs bl t).g : Int)),(8,[],.int .u32 ((rv hs bl t).f : Int)),(7,[],.int .u32 ((rv hs bl t).e : Int)),(6,[],.int .u32 ((rv hs bl t).d : Int)),(5,[],.int .u32 ((rv hs bl t).c : Int)),(4,[],.int .u32 ((rv hs bl t).b : Int)),(3,[],.int .u32 ((rv hs bl t).a : Int)),(2,[],.pointer (some ⟨xw,0,none⟩)),(0,[],.pointer (some ⟨b,0,none⟩))]) ?_
   refine Cfg.setG (congrArg (fun (xq : Int) => ([(15,[],.int .u32 xq),(14,[],.int .u32 (frst (rg Kc t) (rg (row bl 64) t) (rv hs bl t) : Int)),(62,[],.int .i64 (t : Int)),(9,[],.int .u32 ((rv hs bl t).g : Int)),(8,[],.int .u32 ((rv hs bl t).f : Int)),(7,[],.int .u32 ((rv hs bl t).e : Int)),(6,[],.int .u32 ((rv hs bl t).d : Int)),(5,[],.int .u32 ((rv hs bl t).c : Int)),(4,[],.int .u32 ((rv hs bl t).b : Int)),(3,[],.int .u32 ((rv hs bl t).a : Int)),(2,[],.pointer (some ⟨xw,0,none⟩)),(0,[],.pointer (some ⟨b,0,none⟩))] : Env)) (show _ = (bigA (rv hs bl t).a : Int) from bigA_eq _)) ?_
   refine Rg [0,2,3,4,5,6,7,8,9,14,15,16,62] [] (fun _ => [((0 ≤ ((rv hs bl t).a : Int) ∧ ((rv hs bl t).a : Int) ≤ 4294967295) ∧ 0 ≤ ((rv hs bl t).b : Int) ∧ ((rv hs bl t).b : Int) ≤ 4294967295),((0 ≤ ((rv hs bl t).a : Int) ∧ ((rv hs bl t).a : Int) ≤ 4294967295) ∧ 0 ≤ ((rv hs bl t).c : Int) ∧ ((rv hs bl t).c : Int) ≤ 4294967295),((0 ≤ (((((rv hs bl t).a : Int)).toNat &&& (((rv hs bl t).b : Int)).toNat : Nat) : Int) ∧ (((((rv hs bl t).a : Int)).toNat &&& (((rv hs bl t).b : Int)).toNat : Nat) : Int) ≤ 4294967295) ∧ 0 ≤ (((((rv hs bl t).a : Int)).toNat &&& (((rv hs bl t).c : Int)).toNat : Nat) : Int) ∧ (((((rv hs bl t).a : Int)).toNat &&& (((rv hs bl t).c : Int)).toNat : Nat) : Int) ≤ 4294967295),((0 ≤ ((rv hs bl t).b : Int) ∧ ((rv hs bl t).b : Int) ≤ 4294967295) ∧ 0 ≤ ((rv hs bl t).c : Int) ∧ ((rv hs bl t).c : Int) ≤ 4294967295),((0 ≤ ((((((((rv hs bl t).a : Int)).toNat &&& (((rv hs bl t).b : Int)).toNat : Nat) : Int)).toNat ^^^ ((((((rv hs bl t).a : Int)).toNat &&& (((rv hs bl t).c : Int)).toNat : Nat) : Int)).toNat : Nat) : Int) ∧ ((((((((rv hs bl t).a : Int)).toNat &&& (((rv hs bl t).b : Int)).toNat : Nat) : Int)).toNat ^^^ ((((((rv hs bl t).a : Int)).toNat &&& (((rv hs bl t).c : Int)).toNat : Nat) : Int)).toNat : Nat) : Int) ≤ 4294967295) ∧ 0 ≤ (((((rv hs bl t).b : Int)).toNat &&& (((rv hs bl t).c : Int)).toNat : Nat) : Int) ∧ (((((rv hs bl t).b : Int)).toNat &&& (((rv hs bl t).c : Int)).toNat : Nat) : Int) ≤ 4294967295)]) ⟨⟨⟨Int.natCast_nonneg _,le_pow (b := 32) ok.a⟩,⟨Int.natCast_nonneg _,le_pow (b := 32) ok.b⟩⟩,⟨⟨Int.natCast_nonneg _,le_pow (b := 32) ok.a⟩,⟨Int.natCast_nonneg _,le_pow (b := 32) ok.c⟩⟩,⟨⟨Int.natCast_nonneg _,le_pow (b := 32) (Nat.and_lt_two_pow _ (tn_lt ok.b))⟩,⟨Int.natCast_nonneg _,le_pow (b := 32) (Nat.and_lt_two_pow _ (tn_lt ok.c))⟩⟩,⟨⟨Int.natCast_nonneg _,le_pow (b := 32) ok.b⟩,⟨Int.natCast_nonneg _,le_pow (b := 32) ok.c⟩⟩,⟨⟨Int.natCast_nonneg _,le_pow (b := 32) (Nat.xor_lt_two_pow (tn_lt (Nat.and_lt_two_pow _ (tn_lt ok.b))) (tn_lt (Nat.and_lt_two_pow _ (tn_lt ok.c))))⟩,⟨Int.natCast_nonneg _,le_pow (b := 32) (Nat.and_lt_two_pow _ (tn_lt ok.c))⟩⟩,trivial⟩ ?_
   refine Cg (Γ' := [(16,[],.int .u32 (((((((((((rv hs bl t).a : Int)).toNat &&& (((rv hs bl t).b : Int)).toNat : Nat) : Int)).toNat ^^^ ((((((rv hs bl t).a : Int)).toNat &&& (((rv hs bl t).c : Int)).toNat : Nat) : Int)).toNat : Nat) : Int)).toNat ^^^ ((((((rv hs bl t).b : Int)).toNat &&& (((rv hs bl t).c : Int)).toNat : Nat) : Int)).toNat : Nat) : Int)),(15,[],.int .u32 (bigA (rv hs bl t).a : Int)),(14,[],.int .u32 (frst (rg Kc t) (rg (row bl 64) t) (rv hs bl t) : Int)),(62,[],.int .i64 (t : Int)),(9,[],.int .u32 ((rv hs bl t).g : Int)),(8,[],.int .u32 ((rv hs bl t).f : Int)),(7,[],.int .u32 ((rv hs bl t).e : Int)),(6,[],.int .u32 ((rv hs bl t).d : Int)),(5,[],.int .u32 ((rv hs bl t).c : Int)),(4,[],.int .u32 ((rv hs bl t).b : Int)),(3,[],.int .u32 ((rv hs bl t).a : Int)),(2,[],.pointer (some ⟨xw,0,none⟩)),(0,[],.pointer (some ⟨b,0,none⟩))]) ?_
   refine Cfg.setG (congrArg (fun (xq : Int) => ([(16,[],.int .u32 xq),(15,[],.int .u32 (bigA (rv hs bl t).a : Int)),(14,[],.int .u32 (frst (rg Kc t) (rg (row bl 64) t) (rv hs bl t) : Int)),(62,[],.int .i64 (t : Int)),(9,[],.int .u32 ((rv hs bl t).g : Int)),(8,[],.int .u32 ((rv hs bl t).f : Int)),(7,[],.int .u32 ((rv hs bl t).e : Int)),(6,[],.int .u32 ((rv hs bl t).d : Int)),(5,[],.int .u32 ((rv hs bl t).c : Int)),(4,[],.int .u32 ((rv hs bl t).b : Int)),(3,[],.int .u32 ((rv hs bl t).a : Int)),(2,[],.pointer (some ⟨xw,0,none⟩)),(0,[],.pointer (some ⟨b,0,none⟩))] : Env)) (show _ = (most (rv hs bl t).a (rv hs bl t).b (rv hs bl t).c : Int) from most_eq _ _ _)) ?_
   refine Rg [0,2,3,4,5,6,7,8,9,14,17,62] [] n0 trivial ?_
   refine Cg (Γ' := [(17,[],.int .u32 (((bigA (rv hs bl t).a : Int) + (most (rv hs bl t).a (rv hs bl t).b (rv hs bl t).c : Int)) % 4294967296)),(14,[],.int .u32 (frst (rg Kc t) (rg (row bl 64) t) (rv hs bl t) : Int)),(62,[],.int .i64 (t : Int)),(9,[],.int .u32 ((rv hs bl t).g : Int)),(8,[],.int .u32 ((rv hs bl t).f : Int)),(7,[],.int .u32 ((rv hs bl t).e : Int)),(6,[],.int .u32 ((rv hs bl t).d : Int)),(5,[],.int .u32 ((rv hs bl t).c : Int)),(4,[],.int .u32 ((rv hs bl t).b : Int)),(3,[],.int .u32 ((rv hs bl t).a : Int)),(2,[],.pointer (some ⟨xw,0,none⟩)),(0,[],.pointer (some ⟨b,0,none⟩))]) ?_
   refine Cfg.setG (congrArg (fun (xq : Int) => ([(17,[],.int .u32 xq),(14,[],.int .u32 (frst (rg Kc t) (rg (row bl 64) t) (rv hs bl t) : Int)),(62,[],.int .i64 (t : Int)),(9,[],.int .u32 ((rv hs bl t).g : Int)),(8,[],.int .u32 ((rv hs bl t).f : Int)),(7,[],.int .u32 ((rv hs bl t).e : Int)),(6,[],.int .u32 ((rv hs bl t).d : Int)),(5,[],.int .u32 ((rv hs bl t).c : Int)),(4,[],.int .u32 ((rv hs bl t).b : Int)),(3,[],.int .u32 ((rv hs bl t).a : Int)),(2,[],.pointer (some ⟨xw,0,none⟩)),(0,[],.pointer (some ⟨b,0,none⟩))] : Env)) (show _ = (scnd (rv hs bl t) : Int) from scnd_eq _)) ?_
   refine Rg [0,2,3,4,5,7,8,9,10,14,17,62] [] n0 trivial ?_
   refine Rg [0,2,3,4,5,6,7,8,9,10,62] [] n0 trivial ?_
   refine Rg [0,2,3,4,5,6,7,8,9,10,62] [] (fun _ => [((-9223372036854775808 : Int) ≤ ((t : Int) + 1) ∧ ((t : Int) + 1) ≤ 9223372036854775807)]) ⟨om,trivial⟩ ?_
   refine Cg (Γ' := [(62,[],.int .i64 ((t : Int) + 1)),(3,[],.int .u32 (((frst (rg Kc t) (rg (row bl 64) t) (rv hs bl t) : Int) + (scnd (rv hs bl t) : Int)) % 4294967296)),(4,[],.int .u32 ((rv hs bl t).a : Int)),(5,[],.int .u32 ((rv hs bl t).b : Int)),(6,[],.int .u32 ((rv hs bl t).c : Int)),(7,[],.int .u32 ((((rv hs bl t).d : Int) + (frst (rg Kc t) (rg (row bl 64) t) (rv hs bl t) : Int)) % 4294967296)),(8,[],.int .u32 ((rv hs bl t).e : Int)),(9,[],.int .u32 ((rv hs bl t).f : Int)),(10,[],.int .u32 ((rv hs bl t).g : Int)),(2,[],.pointer (some ⟨xw,0,none⟩)),(0,[],.pointer (some ⟨b,0,none⟩))]) ?_
   refine Cfg.setG (congrArg (fun (xq : Int) => ([(62,[],.int .i64 ((t : Int) + 1)),(3,[],.int .u32 xq),(4,[],.int .u32 ((rv hs bl t).a : Int)),(5,[],.int .u32 ((rv hs bl t).b : Int)),(6,[],.int .u32 ((rv hs bl t).c : Int)),(7,[],.int .u32 ((((rv hs bl t).d : Int) + (frst (rg Kc t) (rg (row bl 64) t) (rv hs bl t) : Int)) % 4294967296)),(8,[],.int .u32 ((rv hs bl t).e : Int)),(9,[],.int .u32 ((rv hs bl t).f : Int)),(10,[],.int .u32 ((rv hs bl t).g : Int)),(2,[],.pointer (some ⟨xw,0,none⟩)),(0,[],.pointer (some ⟨b,0,none⟩))] : Env)) (show _ = ((rv hs bl (t + 1)).a : Int) from rv_a hs bl t)) ?_
   refine Cg (Γ' := [(62,[],.int .i64 ((t : Int) + 1)),(3,[],.int .u32 ((rv hs bl (t + 1)).a : Int)),(4,[],.int .u32 ((rv hs bl t).a : Int)),(5,[],.int .u32 ((rv hs bl t).b : Int)),(6,[],.int .u32 ((rv hs bl t).c : Int)),(7,[],.int .u32 ((((rv hs bl t).d : Int) + (frst (rg Kc t) (rg (row bl 64) t) (rv hs bl t) : Int)) % 4294967296)),(8,[],.int .u32 ((rv hs bl t).e : Int)),(9,[],.int .u32 ((rv hs bl t).f : Int)),(10,[],.int .u32 ((rv hs bl t).g : Int)),(2,[],.pointer (some ⟨xw,0,none⟩)),(0,[],.pointer (some ⟨b,0,none⟩))]) ?_
   refine Cfg.setG (congrArg (fun (xq : Int) => ([(62,[],.int .i64 ((t : Int) + 1)),(3,[],.int .u32 ((rv hs bl (t + 1)).a : Int)),(4,[],.int .u32 xq),(5,[],.int .u32 ((rv hs bl t).b : Int)),(6,[],.int .u32 ((rv hs bl t).c : Int)),(7,[],.int .u32 ((((rv hs bl t).d : Int) + (frst (rg Kc t) (rg (row bl 64) t) (rv hs bl t) : Int)) % 4294967296)),(8,[],.int .u32 ((rv hs bl t).e : Int)),(9,[],.int .u32 ((rv hs bl t).f : Int)),(10,[],.int .u32 ((rv hs bl t).g : Int)),(2,[],.pointer (some ⟨xw,0,none⟩)),(0,[],.pointer (some ⟨b,0,none⟩))] : Env)) (show _ = ((rv hs bl (t + 1)).b : Int) from rv_b hs bl t)) ?_
   refine Cg (Γ' := [(62,[],.int .i64 ((t : Int) + 1)),(3,[],.int .u32 ((rv hs bl (t + 1)).a : Int)),(4,[],.int .u32 ((rv hs bl (t + 1)).b : Int)),(5,[],.int .u32 ((rv hs bl t).b : Int)),(6,[],.int .u32 ((rv hs bl t).c : Int)),(7,[],.int .u32 ((((rv hs bl t).d : Int) + (frst (rg Kc t) (rg (row bl 64) t) (rv hs bl t) : Int)) % 4294967296)),(8,[],.int .u32 ((rv hs bl t).e : Int)),(9,[],.int .u32 ((rv hs bl t).f : Int)),(10,[],.int .u32 ((rv hs bl t).g : Int)),(2,[],.pointer (some ⟨xw,0,none⟩)),(0,[],.pointer (some ⟨b,0,none⟩))]) ?_
   refine Cfg.setG (congrArg (fun (xq : Int) => ([(62,[],.int .i64 ((t : Int) + 1)),(3,[],.int .u32 ((rv hs bl (t + 1)).a : Int)),(4,[],.int .u32 ((rv hs bl (t + 1)).b : Int)),(5,[],.int .u32 xq),(6,[],.int .u32 ((rv hs bl t).c : Int)),(7,[],.int .u32 ((((rv hs bl t).d : Int) + (frst (rg Kc t) (rg (row bl 64) t) (rv hs bl t) : Int)) % 4294967296)),(8,[],.int .u32 ((rv hs bl t).e : Int)),(9,[],.int .u32 ((rv hs bl t).f : Int)),(10,[],.int .u32 ((rv hs bl t).g : Int)),(2,[],.pointer (some ⟨xw,0,none⟩)),(0,[],.pointer (some ⟨b,0,none⟩))] : Env)) (show _ = ((rv hs bl (t + 1)).c : Int) from rv_c hs bl t)) ?_
   refine Cg (Γ' := [(62,[],.int .i64 ((t : Int) + 1)),(3,[],.int .u32 ((rv hs bl (t + 1)).a : Int)),(4,[],.int .u32 ((rv hs bl (t + 1)).b : Int)),(5,[],.int .u32 ((rv hs bl (t + 1)).c : Int)),(6,[],.int .u32 ((rv hs bl t).c : Int)),(7,[],.int .u32 ((((rv hs bl t).d : Int) + (frst (rg Kc t) (rg (row bl 64) t) (rv hs bl t) : Int)) % 4294967296)),(8,[],.int .u32 ((rv hs bl t).e : Int)),(9,[],.int .u32 ((rv hs bl t).f : Int)),(10,[],.int .u32 ((rv hs bl t).g : Int)),(2,[],.pointer (some ⟨xw,0,none⟩)),(0,[],.pointer (some ⟨b,0,none⟩))]) ?_
   refine Cfg.setG (congrArg (fun (xq : Int) => ([(62,[],.int .i64 ((t : Int) + 1)),(3,[],.int .u32 ((rv hs bl (t + 1)).a : Int)),(4,[],.int .u32 ((rv hs bl (t + 1)).b : Int)),(5,[],.int .u32 ((rv hs bl (t + 1)).c : Int)),(6,[],.int .u32 xq),(7,[],.int .u32 ((((rv hs bl t).d : Int) + (frst (rg Kc t) (rg (row bl 64) t) (rv hs bl t) : Int)) % 4294967296)),(8,[],.int .u32 ((rv hs bl t).e : Int)),(9,[],.int .u32 ((rv hs bl t).f : Int)),(10,[],.int .u32 ((rv hs bl t).g : Int)),(2,[],.pointer (some ⟨xw,0,none⟩)),(0,[],.pointer (some ⟨b,0,none⟩))] : Env)) (show _ = ((rv hs bl (t + 1)).d : Int) from rv_d hs bl t)) ?_
   refine Cg (Γ' := [(62,[],.int .i64 ((t : Int) + 1)),(3,[],.int .u32 ((rv hs bl (t + 1)).a : Int)),(4,[],.int .u32 ((rv hs bl (t + 1)).b : Int)),(5,[],.int .u32 ((rv hs bl (t + 1)).c : Int)),(6,[],.int .u32 ((rv hs bl (t + 1)).d : Int)),(7,[],.int .u32 ((((rv hs bl t).d : Int) + (frst (rg Kc t) (rg (row bl 64) t) (rv hs bl t) : Int)) % 4294967296)),(8,[],.int .u32 ((rv hs bl t).e : Int)),(9,[],.int .u32 ((rv hs bl t).f : Int)),(10,[],.int .u32 ((rv hs bl t).g : Int)),(2,[],.pointer (some ⟨xw,0,none⟩)),(0,[],.pointer (some ⟨b,0,none⟩))]) ?_
   refine Cfg.setG (congrArg (fun (xq : Int) => ([(62,[],.int .i64 ((t : Int) + 1)),(3,[],.int .u32 ((rv hs bl (t + 1)).a : Int)),(4,[],.int .u32 ((rv hs bl (t + 1)).b : Int)),(5,[],.int .u32 ((rv hs bl (t + 1)).c : Int)),(6,[],.int .u32 ((rv hs bl (t + 1)).d : Int)),(7,[],.int .u32 xq),(8,[],.int .u32 ((rv hs bl t).e : Int)),(9,[],.int .u32 ((rv hs bl t).f : Int)),(10,[],.int .u32 ((rv hs bl t).g : Int)),(2,[],.pointer (some ⟨xw,0,none⟩)),(0,[],.pointer (some ⟨b,0,none⟩))] : Env)) (show _ = ((rv hs bl (t + 1)).e : Int) from rv_e hs bl t)) ?_
   refine Cg (Γ' := [(62,[],.int .i64 ((t : Int) + 1)),(3,[],.int .u32 ((rv hs bl (t + 1)).a : Int)),(4,[],.int .u32 ((rv hs bl (t + 1)).b : Int)),(5,[],.int .u32 ((rv hs bl (t + 1)).c : Int)),(6,[],.int .u32 ((rv hs bl (t + 1)).d : Int)),(7,[],.int .u32 ((rv hs bl (t + 1)).e : Int)),(8,[],.int .u32 ((rv hs bl t).e : Int)),(9,[],.int .u32 ((rv hs bl t).f : Int)),(10,[],.int .u32 ((rv hs bl t).g : Int)),(2,[],.pointer (some ⟨xw,0,none⟩)),(0,[],.pointer (some ⟨b,0,none⟩))]) ?_
   refine Cfg.setG (congrArg (fun (xq : Int) => ([(62,[],.int .i64 ((t : Int) + 1)),(3,[],.int .u32 ((rv hs bl (t + 1)).a : Int)),(4,[],.int .u32 ((rv hs bl (t + 1)).b : Int)),(5,[],.int .u32 ((rv hs bl (t + 1)).c : Int)),(6,[],.int .u32 ((rv hs bl (t + 1)).d : Int)),(7,[],.int .u32 ((rv hs bl (t + 1)).e : Int)),(8,[],.int .u32 xq),(9,[],.int .u32 ((rv hs bl t).f : Int)),(10,[],.int .u32 ((rv hs bl t).g : Int)),(2,[],.pointer (some ⟨xw,0,none⟩)),(0,[],.pointer (some ⟨b,0,none⟩))] : Env)) (show _ = ((rv hs bl (t + 1)).f : Int) from rv_f hs bl t)) ?_
   refine Cg (Γ' := [(62,[],.int .i64 ((t : Int) + 1)),(3,[],.int .u32 ((rv hs bl (t + 1)).a : Int)),(4,[],.int .u32 ((rv hs bl (t + 1)).b : Int)),(5,[],.int .u32 ((rv hs bl (t + 1)).c : Int)),(6,[],.int .u32 ((rv hs bl (t + 1)).d : Int)),(7,[],.int .u32 ((rv hs bl (t + 1)).e : Int)),(8,[],.int .u32 ((rv hs bl (t + 1)).f : Int)),(9,[],.int .u32 ((rv hs bl t).f : Int)),(10,[],.int .u32 ((rv hs bl t).g : Int)),(2,[],.pointer (some ⟨xw,0,none⟩)),(0,[],.pointer (some ⟨b,0,none⟩))]) ?_
   refine Cfg.setG (congrArg (fun (xq : Int) => ([(62,[],.int .i64 ((t : Int) + 1)),(3,[],.int .u32 ((rv hs bl (t + 1)).a : Int)),(4,[],.int .u32 ((rv hs bl (t + 1)).b : Int)),(5,[],.int .u32 ((rv hs bl (t + 1)).c : Int)),(6,[],.int .u32 ((rv hs bl (t + 1)).d : Int)),(7,[],.int .u32 ((rv hs bl (t + 1)).e : Int)),(8,[],.int .u32 ((rv hs bl (t + 1)).f : Int)),(9,[],.int .u32 xq),(10,[],.int .u32 ((rv hs bl t).g : Int)),(2,[],.pointer (some ⟨xw,0,none⟩)),(0,[],.pointer (some ⟨b,0,none⟩))] : Env)) (show _ = ((rv hs bl (t + 1)).g : Int) from rv_g hs bl t)) ?_
   refine Cg (Γ' := [(62,[],.int .i64 ((t : Int) + 1)),(3,[],.int .u32 ((rv hs bl (t + 1)).a : Int)),(4,[],.int .u32 ((rv hs bl (t + 1)).b : Int)),(5,[],.int .u32 ((rv hs bl (t + 1)).c : Int)),(6,[],.int .u32 ((rv hs bl (t + 1)).d : Int)),(7,[],.int .u32 ((rv hs bl (t + 1)).e : Int)),(8,[],.int .u32 ((rv hs bl (t + 1)).f : Int)),(9,[],.int .u32 ((rv hs bl (t + 1)).g : Int)),(10,[],.int .u32 ((rv hs bl t).g : Int)),(2,[],.pointer (some ⟨xw,0,none⟩)),(0,[],.pointer (some ⟨b,0,none⟩))]) ?_
   refine Cfg.setG (congrArg (fun (xq : Int) => ([(62,[],.int .i64 ((t : Int) + 1)),(3,[],.int .u32 ((rv hs bl (t + 1)).a : Int)),(4,[],.int .u32 ((rv hs bl (t + 1)).b : Int)),(5,[],.int .u32 ((rv hs bl (t + 1)).c : Int)),(6,[],.int .u32 ((rv hs bl (t + 1)).d : Int)),(7,[],.int .u32 ((rv hs bl (t + 1)).e : Int)),(8,[],.int .u32 ((rv hs bl (t + 1)).f : Int)),(9,[],.int .u32 ((rv hs bl (t + 1)).g : Int)),(10,[],.int .u32 xq),(2,[],.pointer (some ⟨xw,0,none⟩)),(0,[],.pointer (some ⟨b,0,none⟩))] : Env)) (show _ = ((rv hs bl (t + 1)).h : Int) from rv_h hs bl t)) ?_
   refine Cfg.again rfl (t + 1) (by show t + 1 ≤ 64; omega) (by show 64 - (t + 1) < 64 - t; omega) (Conv.mk kr) (.cons_cons _ (.cons_cons _ .slnil))
  ·have c1 := (of_decide_eq_false c1r)
   refine Rg [0,137,138] [dZ,dZ,dZ,dZ,dZ,dZ,dZ,dZ,(0,false,some (.agg (wv (w8l (rv hs bl t)))))] (fun S => [(∀ w1,S w1 → (Instr.build 223 #[(0,.int .u32 ((rv hs bl t).a : Int)),(1,.int .u32 ((rv hs bl t).b : Int)),(2,.int .u32 ((rv hs bl t).c : Int)),(3,.int .u32 ((rv hs bl t).d : Int)),(4,.int .u32 ((rv hs bl t).e : Int)),(5,.int .u32 ((rv hs bl t).f : Int)),(6,.int .u32 ((rv hs bl t).g : Int)),(7,.int .u32 ((rv hs bl t).h : Int))]).run Tryz.prog w1 = .ok (.agg (wv (w8l (rv hs bl t)))) w1)]) ⟨(fun _ _ => kr),trivial⟩ ?_
   refine Cfg.loop rfl (ι := Nat) (fun (k : Nat) => [(138,[],.int .i64 (k : Int)),(137,[],.agg (wv (w8l (rv hs bl t)))),(0,[],.pointer (some ⟨b,0,none⟩))]) (fun (k : Nat) => [(xw,.cells (wv (row bl 64)) 234 (0,0)),(b,.cells (stC (sm hs (w8l (rv hs bl t)) k) bl held total) 225 (0,0))]) (fun (k : Nat) => (k ≤ 8)) (fun (k : Nat) => 8 - k) 0 ?_ (Conv.mk kr) (.cons_cons _ (.cons_cons _ .slnil)) ?_
   ·exact Nat.zero_le _
   ·rintro k hk
    refine Rg [0,137,138,139] [] n0 trivial ?_
    refine Cfg.cond rfl (b := (decide ((k : Int) < (8 : Int)))) kr (fun c2r => ?_) (fun c2r => ?_)
    ·have c2 := (of_decide_eq_true c2r)
     refine Rg [0,18,19,137,138] [dZ,(0,false,some (.int .u32 (rg (w8l (rv hs bl t)) k : Int)))] (fun _ => [(0 ≤ (k : Int) ∧ (k : Int) < (8 : Int)),(((wv (w8l (rv hs bl t))))[k]? = some (.int .u32 (rg (w8l (rv hs bl t)) k : Int)))]) ⟨om,(wv_get (w8l_len _) om),trivial⟩ ?_
     refine Cfg.begA rfl kr [(xw,.cells (wv (row bl 64)) 234 (0,0))] ?_
     refine Ap [0,1,2,3,4,6,8,9] [] (some [0,137,138,143,146,148,151]) #[true,true,true,true,true,false,true,false,true,true,false,false] (.cons_cons _ (.cons _ .slnil)) 4 (fun _ => [(0 ≤ (k : Int) ∧ (k : Int) < (8 : Int))]) ⟨om,trivial⟩ ?_
     refine Ae 5 rfl 3  (Eff.quiet (raw := false) (orc := some (.int .u32 (rg (sm hs (w8l (rv hs bl t)) k) k : Int))) (v := .int .u32 (rg (sm hs (w8l (rv hs bl t)) k) k : Int)) (nd := (fun S => [(∀ w1,S w1 → w1.cell? ⟨b,k,none⟩ = some (.int .u32 (rg (sm hs (w8l (rv hs bl t)) k) k : Int)))])) (fun _ => kr) ⟨(fun w1 h => h.ocell 1 rfl (st_sum (sm_len _ hh k) om)),trivial⟩ kr) (fun _ _ => (.cons_cons _ (.cons _ .slnil))) ?_
     rintro ⟨⟩ -
     refine Ap [7,10] [] (some [0,137,138,149,152]) #[true,true,true,true,true,true,true,true,true,true,true,false] (.cons_cons _ (.cons _ .slnil)) 1 (fun _ => [(0 ≤ (k : Int) ∧ (k : Int) < (8 : Int))]) ⟨om,trivial⟩ ?_
     refine Ae 11 rfl 0  (Eff.store1 (b := b) (off := k) (v := .int .u32 (((rg (sm hs (w8l (rv hs bl t)) k) k : Int) + (rg (w8l (rv hs bl t)) k : Int)) % 4294967296)) rfl kr kr rfl kr 1 (cs := (stC (sm hs (w8l (rv hs bl t)) k) bl held total)) (e := 225) kr (by rw [st_size (sm_len _ hh k) hb]; omega)) (fun _ _ => (.cons_cons _ (.cons _ .slnil))) ?_
     rintro ⟨⟩ -
     refine CfgA.done kr ?_
     refine Cg (Γ' := [(138,[],.int .i64 (k : Int)),(137,[],.agg (wv (w8l (rv hs bl t)))),(0,[],.pointer (some ⟨b,0,none⟩))]) ?_
     refine Rg [0,137,138] [] (fun _ => [((-9223372036854775808 : Int) ≤ ((k : Int) + 1) ∧ ((k : Int) + 1) ≤ 9223372036854775807)]) ⟨om,trivial⟩ ?_
     refine Cfg.setO (congrArg (fun (xq : Array Value) => ([(xw,.cells (wv (row bl 64)) 234 (0,0)),(b,.cells xq 225 (0,0))] : List (Nat × Obj))) (show _ = (stC (sm hs (w8l (rv hs bl t)) (k + 1)) bl held total) from sm_step hh om)) ?_
     refine Cfg.again rfl (k + 1) (by show k + 1 ≤ 8; omega) (by show 8 - (k + 1) < 8 - k; omega) (Conv.mk kr) (.cons_cons _ (.cons_cons _ .slnil))
    ·have c2 := (of_decide_eq_false c2r)
     refine Cfg.fin rfl (rs := []) rfl [] trivial (fun w1 hp => ?_)
     obtain rfl : t = 64 := by omega
     obtain rfl : k = 8 := by omega
     exact ⟨rfl,hp.ext,hp.own (b,_) (List.mem_cons_of_mem _ (List.mem_cons_self ..))⟩
end Go.Proofs.YtinhinjpfmdfiaaGreatDoor
namespace Go.Proofs.YtinhinjpfmdfiaaGreatDoor
open K
set_option linter.unusedVariables false
set_option maxRecDepth 100000 in
theorem shaWrite (b : Nat) (z : Sh) (total : Nat) (s : ByteArray) {kt : Array Value} {t0 : TypeId} {fr0 : Nat × Nat} (w : World) (hx : z.Ok) (hR : Has w [(1,.cells kt t0 fr0)]) (hS : w.heap[b]? = some (.cells (stC z.hs z.bl z.held total) 225 (0,0))) (hne : b ≠ 1) (hK : KT kt := by assumption) :
  Calls Tryz.prog 143 #[.pointer (some ⟨b,0,none⟩),.string s] w fun e w' => e = .returned (.tuple #[]) ∧ Ext [b] w w' ∧ w'.heap[b]? = some (.cells (stC (feed z s.data.toList).hs (feed z s.data.toList).bl (feed z s.data.toList).held ((total + s.size) % 18446744073709551616)) 225 (0,0)) := by
 refine enter (vs := [.pointer (some ⟨b,0,none⟩),.string s]) [b] [(1,.cells kt t0 fr0)] [(b,.cells (stC z.hs z.bl z.held total) 225 (0,0))] Tryz.func143 rfl kr (HP.startM hR hS (by simpa using hne)) ?_
 refine Cfg.begL rfl ?_
 refine Lp 10 [dZ,dZ,dZ,(0,false,some (.int .u64 (total : Int)))] (some [0,1,12,14]) (fun S => [(∀ w1,S w1 → w1.cell? ⟨b,73,none⟩ = some (.int .u64 (total : Int)))]) ⟨(fun w1 h => h.ocell 0 rfl (st_total hx.hh hx.hb)),trivial⟩ ?_
 refine Le (Eff.store1 (b := b) (off := 73) (v := .int .u64 (((total : Int) + ((s.size : Int) % 18446744073709551616)) % 18446744073709551616)) rfl kr kr rfl kr 0 (cs := (stC z.hs z.bl z.held total)) (e := 225) kr (by rw [st_size hx.hh hx.hb]; omega)) ?_
 rintro ⟨⟩ -
 refine CfgL.done rfl ?_
 refine Cg (Γ' := [(0,[],.pointer (some ⟨b,0,none⟩)),(1,[],.string s)]) ?_
 refine Cfg.setO (congrArg (fun (xq : Array Value) => ([(b,.cells xq 225 (0,0))] : List (Nat × Obj))) (show _ = (stC z.hs z.bl z.held ((total + s.size) % 18446744073709551616)) from st_setTotal hx.hh hx.hb om)) ?_
 refine Cfg.loop rfl (ι := ByteArray × Sh) (fun (xz : ByteArray × Sh) => match xz with | (p,y) => [(0,[],.pointer (some ⟨b,0,none⟩)),(1,[],.string p)]) (fun (xz : ByteArray × Sh) => match xz with | (p,y) => [(b,.cells (stC y.hs y.bl y.held ((total + s.size) % 18446744073709551616)) 225 (0,0))]) (fun (xz : ByteArray × Sh) => match xz with | (p,y) => (y.Ok) ∧ (feed y p.data.toList = feed z s.data.toList)) (fun (xz : ByteArray × Sh) => match xz with | (p,y) => p.size) (s,z) ?_ (Conv.mk kr) (.cons_cons _ .slnil) ?_
 ·exact ⟨hx,rfl⟩
 ·rintro ⟨p,y⟩ ⟨oky,hf⟩
  obtain ⟨hs,bl,held⟩ := y
  obtain ⟨hh,hb,hlt,hld⟩ := oky
  dsimp only at hh hb hlt hld
  have hcn : cn p held = min p.size (64 - held) := rfl
  refine Rg [0,1,17] [] n0 trivial ?_
  refine Cfg.cond rfl (b := (decide ((p.size : Int) > (0 : Int)))) kr (fun c1r => ?_) (fun c1r => ?_)
  ·have c1 := (of_decide_eq_true c1r)
   refine Cfg.begA rfl kr [] ?_
   refine Ap [0,1,2,3,4,5,8] [] (some [0,1,20,23,26]) #[true,true,true,true,true,true,false,false,true,false,false] (.cons _ .slnil) 4 n0 trivial ?_
   refine Ae 6 rfl 3  (Eff.quiet (raw := false) (orc := some (.int .i64 (held : Int))) (v := .int .i64 (held : Int)) (nd := (fun S => [(∀ w1,S w1 → w1.cell? ⟨b,72,none⟩ = some (.int .i64 (held : Int)))])) (fun _ => kr) ⟨(fun w1 h => h.ocell 0 rfl (st_held hh hb)),trivial⟩ kr) (fun _ _ => List.nil_sublist _) ?_
   rintro ⟨⟩ -
   refine Ap [7] [] (some [0,1,25,26]) #[true,true,true,true,true,true,true,true,true,false,false] (.cons _ .slnil) 2 (fun _ => [(0 ≤ (held : Int)),(held ≤ 64 ∧ 64 ≤ 64)]) ⟨om,om,trivial⟩ ?_
   refine Ae 9 rfl 1  (Eff.copyS rfl Tryz.underlying25 kr (b := b) (off := (if 64 = held then 8 else (addO 8 held))) (dl := ((64 - held))) (c := ((64 - held))) kr (s := p) kr 0 (cs := (stC hs bl held ((total + s.size) % 18446744073709551616))) (te := 225) kr (cn p held) rfl (by rw [off_eq hld,st_size hh hb]; omega)) (fun _ _ => List.nil_sublist _) ?_
   rintro ⟨⟩ -
   refine Ap [10] [] (some [0,1,4]) #[true,true,true,true,true,true,true,true,true,true,true] (.cons _ .slnil) 0 n0 trivial ?_
   refine CfgA.done kr ?_
   refine Cfg.setO (congrArg (fun (xq : Array Value) => ([(b,.cells xq 225 (0,0))] : List (Nat × Obj))) (show _ = (stC hs (lay bl held (p.data.toList.take (cn p held))) held ((total + s.size) % 18446744073709551616)) from by rw [off_eq hld]; exact spl_lay _ hh hb (by rw [part_len om]; omega))) ?_
   refine Rg [0,1,4] [] (fun _ => [(0 ≤ ((cn p held) : Int)),(((cn p held)) ≤ p.size ∧ p.size ≤ p.size)]) ⟨om,om,trivial⟩ ?_
   refine Cfg.begL rfl ?_
   refine Lp 8 [dZ,dZ,dZ,(0,false,some (.int .i64 (held : Int)))] (some [0,1,36,38]) (fun S => [(∀ w1,S w1 → w1.cell? ⟨b,72,none⟩ = some (.int .i64 (held : Int))),((-9223372036854775808 : Int) ≤ ((held : Int) + ((cn p held) : Int)) ∧ ((held : Int) + ((cn p held) : Int)) ≤ 9223372036854775807)]) ⟨(fun w1 h => h.ocell 0 rfl (st_held hh ((lay_len _ _ _).trans hb))),om,trivial⟩ ?_
   refine Le (Eff.store1 (b := b) (off := 72) (v := .int .i64 ((held : Int) + ((cn p held) : Int))) rfl kr kr rfl kr 0 (cs := (stC hs (lay bl held (p.data.toList.take (cn p held))) held ((total + s.size) % 18446744073709551616))) (e := 225) kr (by rw [st_size hh ((lay_len _ _ _).trans hb)]; omega)) ?_
   rintro ⟨⟩ -
   refine CfgL.done rfl ?_
   refine Cg (Γ' := [(1,[],.string (p.extract (((cn p held))) p.size)),(0,[],.pointer (some ⟨b,0,none⟩))]) ?_
   refine Cfg.setO (congrArg (fun (xq : Array Value) => ([(b,.cells xq 225 (0,0))] : List (Nat × Obj))) (show _ = (stC hs (lay bl held (p.data.toList.take (cn p held))) (held + (cn p held)) ((total + s.size) % 18446744073709551616)) from st_setHeld hh ((lay_len _ _ _).trans hb) om)) ?_
   refine Rg [0,1,43] [dZ,dZ,dZ,(0,false,some (.int .i64 ((held + (cn p held)) : Int)))] (fun S => [(∀ w1,S w1 → w1.cell? ⟨b,72,none⟩ = some (.int .i64 ((held + (cn p held)) : Int)))]) ⟨(fun w1 h => h.ocell 0 rfl (st_held hh ((lay_len _ _ _).trans hb))),trivial⟩ ?_
   refine Cfg.cond rfl (b := (((held + (cn p held)) : Int) == (64 : Int))) kr (fun c2r => ?_) (fun c2r => ?_)
   ·have c2 := (beq_iff_eq.1 c2r)
    refine Cfg.begL rfl ?_
    refine Lp 1 [] (some [0,1,44]) n0 trivial ?_
    refine Le (Eff.callM (vs := [.pointer (some ⟨b,0,none⟩)]) (.tuple #[]) 0 (b := b) (ob := .cells (stC hs (lay bl held (p.data.toList.take (cn p held))) (held + (cn p held)) ((total + s.size) % 18446744073709551616)) 225 (0,0)) (.cells (stC (mixF hs (lay bl held (p.data.toList.take (cn p held)))) (lay bl held (p.data.toList.take (cn p held))) (held + (cn p held)) ((total + s.size) % 18446744073709551616)) 225 (0,0)) rfl Tryz.func163 rfl rfl kr kr (fun w1 h => shaMix b hs (lay bl held (p.data.toList.take (cn p held))) (held + (cn p held)) ((total + s.size) % 18446744073709551616) w1 hh ((lay_len _ _ _).trans hb) hlt (h.hasR (fun e he => he)) (h.own _ (List.mem_cons_self ..)) hne)) ?_
    rintro ⟨⟩ -
    refine CfgL.done rfl ?_
    refine Cg (Γ' := [(1,[],.string (p.extract (((cn p held))) p.size)),(0,[],.pointer (some ⟨b,0,none⟩))]) ?_
    refine Cfg.begL rfl ?_
    refine Lp 3 [] (some [0,1,48]) n0 trivial ?_
    refine Le (Eff.store1 (b := b) (off := 72) (v := .int .i64 0) rfl kr kr rfl kr 0 (cs := (stC (mixF hs (lay bl held (p.data.toList.take (cn p held)))) (lay bl held (p.data.toList.take (cn p held))) (held + (cn p held)) ((total + s.size) % 18446744073709551616))) (e := 225) kr (by rw [st_size (mixF_len _ hh) ((lay_len _ _ _).trans hb)]; omega)) ?_
    rintro ⟨⟩ -
    refine CfgL.done rfl ?_
    refine Cg (Γ' := [(1,[],.string (p.extract (((cn p held))) p.size)),(0,[],.pointer (some ⟨b,0,none⟩))]) ?_
    have hfull : held + (cn p held) = 64 := by omega
    have hfd := feed_full (p.data.toList.take (cn p held)) hs bl held hld (by rw [part_len om]; omega)
    refine Cfg.setO (congrArg (fun (xq : Array Value) => ([(b,.cells xq 225 (0,0))] : List (Nat × Obj))) (show _ = (stC (mixF hs (lay bl held (p.data.toList.take (cn p held)))) (lay bl held (p.data.toList.take (cn p held))) 0 ((total + s.size) % 18446744073709551616)) from st_setHeld (mixF_len _ hh) ((lay_len _ _ _).trans hb) rfl)) ?_
    refine Cfg.again rfl (p.extract (cn p held) p.size,⟨mixF hs (lay bl held (p.data.toList.take (cn p held))),(lay bl held (p.data.toList.take (cn p held))),0⟩) ⟨by rw [← hfd]; exact feed_ok _ ⟨hh,hb,hlt,hld⟩,by rw [← hfd,feed_ext]; exact hf⟩ (by show (p.extract (cn p held) p.size).size < p.size; rw [ext_size _ _ om]; omega) (Conv.mk kr) (.cons_cons _ .slnil)
   ·have c2 := (beq_eq_false_iff_ne.1 c2r)
    have hpart : held + (cn p held) < 64 := by omega
    have hfd := feed_part (p.data.toList.take (cn p held)) hs bl held (by rw [part_len om]; omega)
    rw [part_len om] at hfd
    refine Cfg.again rfl (p.extract (cn p held) p.size,⟨hs,(lay bl held (p.data.toList.take (cn p held))),held + (cn p held)⟩) ⟨by rw [← hfd]; exact feed_ok _ ⟨hh,hb,hlt,hld⟩,by rw [← hfd,feed_ext]; exact hf⟩ (by show (p.extract (cn p held) p.size).size < p.size; rw [ext_size _ _ om]; omega) (Conv.mk kr) (.cons_cons _ .slnil)
  ·have c1 := (of_decide_eq_false c1r)
   refine Cfg.fin rfl (rs := []) rfl [] trivial (fun w1 hp => ?_)
   have hp0 : p.size = 0 := by omega
   have hnil : p.data.toList = [] := List.eq_nil_of_length_eq_zero (by simpa using hp0)
   rw [hnil,feed_nil] at hf
   rw [← hf]
   exact ⟨rfl,hp.ext,hp.own (b,_) (List.mem_cons_self ..)⟩
end Go.Proofs.YtinhinjpfmdfiaaGreatDoor
namespace Go.Proofs.YtinhinjpfmdfiaaGreatDoor
open K
set_option linter.unusedVariables false
theorem shaWrite1 (b : Nat) (z : Sh) (total : Nat) (c : UInt8) {kt : Array Value} {t0 : TypeId} {fr0 : Nat × Nat} (w : World) (hx : z.Ok) (hR : Has w [(1,.cells kt t0 fr0)]) (hS : w.heap[b]? = some (.cells (stC z.hs z.bl z.held total) 225 (0,0))) (hne : b ≠ 1) (hK : KT kt := by assumption) :
  Calls Tryz.prog 143 #[.pointer (some ⟨b,0,none⟩),.string ⟨#[c]⟩] w fun e w' => e = .returned (.tuple #[]) ∧ Ext [b] w w' ∧ w'.heap[b]? = some (.cells (stC (feedB z c).hs (feedB z c).bl (feedB z c).held ((total + 1) % 18446744073709551616)) 225 (0,0)) :=
 shaWrite b z total ⟨#[c]⟩ w hx hR hS hne
set_option maxRecDepth 100000 in
theorem shaEndC (b : Nat) (z : Sh) (total : Nat) {kt : Array Value} {t0 : TypeId} {fr0 : Nat × Nat} (w : World) (hx : z.Ok) (hR : Has w [(1,.cells kt t0 fr0)]) (hS : w.heap[b]? = some (.cells (stC z.hs z.bl z.held total) 225 (0,0))) (hne : b ≠ 1) (hK : KT kt := by assumption) :
  Calls Tryz.prog 144 #[.pointer (some ⟨b,0,none⟩)] w fun e w' => e = .returned (.agg (bv (shaEnd z total))) ∧ Ext [b] w w' := by
 refine enter (vs := [.pointer (some ⟨b,0,none⟩)]) [b] [(1,.cells kt t0 fr0)] [(b,.cells (stC z.hs z.bl z.held total) 225 (0,0))] Tryz.func144 rfl kr (HP.startM hR hS (by simpa using hne)) ?_
 refine Cfg.begL rfl ?_
 refine Le (Eff.alloc (z := (.agg (bv (List.replicate 32 0)))) rfl kr) ?_
 rintro r ⟨hr,nr⟩
 refine CfgL.done rfl ?_
 refine Rg [0,2,3] [dZ,dZ,dZ,(0,false,some (.int .u64 (total : Int)))] (fun S => [(∀ w1,S w1 → w1.cell? ⟨b,73,none⟩ = some (.int .u64 (total : Int)))]) ⟨(fun w1 h => h.ocell 1 rfl (st_total hx.hh hx.hb)),trivial⟩ ?_
 refine Cg (Γ' := [(3,[],.int .u64 (((total : Int) * 8) % 18446744073709551616)),(2,[],.pointer (some ⟨r,0,none⟩)),(0,[],.pointer (some ⟨b,0,none⟩))]) ?_
 refine Cfg.setG (congrArg (fun (xq : Int) => ([(3,[],.int .u64 xq),(2,[],.pointer (some ⟨r,0,none⟩)),(0,[],.pointer (some ⟨b,0,none⟩))] : Env)) (show _ = (lb total : Int) from lb_eq total)) ?_
 refine Cfg.begL rfl ?_
 refine Lp 1 [] none n0 trivial ?_
 refine Le (Eff.callM (vs := [.pointer (some ⟨b,0,none⟩),.string ⟨#[128]⟩]) (.tuple #[]) 1 (b := b) (ob := .cells (stC z.hs z.bl z.held total) 225 (0,0)) (.cells (stC (feedB z 128).hs (feedB z 128).bl (feedB z 128).held ((total + 1) % 18446744073709551616)) 225 (0,0)) rfl Tryz.func143 rfl rfl kr kr (fun w1 h => shaWrite1 b z total 128 w1 hx (h.hasR (fun e he => he)) (h.own _ (List.mem_of_getElem? (i := 1) rfl)) hne)) ?_
 rintro ⟨⟩ -
 refine CfgL.done rfl ?_
 refine Cg (Γ' := [(3,[],.int .u64 (lb total : Int)),(2,[],.pointer (some ⟨r,0,none⟩)),(0,[],.pointer (some ⟨b,0,none⟩))]) ?_
 refine Cfg.setO (congrArg (fun (xq : Array Value) => ([(r,.cells (bv (List.replicate 32 0)) 35 (0,0)),(b,.cells xq 225 (0,0))] : List (Nat × Obj))) (show _ = (stC (pz z 0).hs (pz z 0).bl (pz z 0).held (tj total 0)) from by rw [pz_zero,tj_zero])) ?_
 refine Cfg.loop rfl (ι := Nat) (fun (j : Nat) => [(3,[],.int .u64 (lb total : Int)),(2,[],.pointer (some ⟨r,0,none⟩)),(0,[],.pointer (some ⟨b,0,none⟩))]) (fun (j : Nat) => [(r,.cells (bv (List.replicate 32 0)) 35 (0,0)),(b,.cells (stC (pz z j).hs (pz z j).bl (pz z j).held (tj total j)) 225 (0,0))]) (fun (j : Nat) => (j ≤ padN z)) (fun (j : Nat) => padN z - j) 0 ?_ (Conv.mk kr) (.cons_cons _ (.cons_cons _ .slnil)) ?_
 ·exact Nat.zero_le _
 ·rintro j hj
  refine Rg [0,2,3,20] [dZ,dZ,dZ,(0,false,some (.int .i64 ((pz z j).held : Int)))] (fun S => [(∀ w1,S w1 → w1.cell? ⟨b,72,none⟩ = some (.int .i64 ((pz z j).held : Int)))]) ⟨(fun w1 h => h.ocell 1 rfl (st_held (pz_ok hx j).hh (pz_ok hx j).hb)),trivial⟩ ?_
  refine Cfg.cond rfl (b := (((pz z j).held : Int) != (56 : Int))) kr (fun c1r => ?_) (fun c1r => ?_)
  ·have c1 := (bne_iff_ne.1 c1r)
   refine Cfg.begL rfl ?_
   refine Lp 1 [] (some [0,2,3,21]) n0 trivial ?_
   refine Le (Eff.callM (vs := [.pointer (some ⟨b,0,none⟩),.string ⟨#[0]⟩]) (.tuple #[]) 1 (b := b) (ob := .cells (stC (pz z j).hs (pz z j).bl (pz z j).held (tj total j)) 225 (0,0)) (.cells (stC (feedB (pz z j) 0).hs (feedB (pz z j) 0).bl (feedB (pz z j) 0).held ((tj total j + 1) % 18446744073709551616)) 225 (0,0)) rfl Tryz.func143 rfl rfl kr kr (fun w1 h => shaWrite1 b (pz z j) (tj total j) 0 w1 (pz_ok hx j) (h.hasR (fun e he => he)) (h.own _ (List.mem_of_getElem? (i := 1) rfl)) hne)) ?_
   rintro ⟨⟩ -
   refine CfgL.done rfl ?_
   refine Cg (Γ' := [(3,[],.int .u64 (lb total : Int)),(2,[],.pointer (some ⟨r,0,none⟩)),(0,[],.pointer (some ⟨b,0,none⟩))]) ?_
   have hjn : j ≠ padN z := fun h => c1 ((pad_end hx hj).2 h)
   refine Cfg.setO (congrArg (fun (xq : Array Value) => ([(r,.cells (bv (List.replicate 32 0)) 35 (0,0)),(b,.cells xq 225 (0,0))] : List (Nat × Obj))) (show _ = (stC (pz z (j + 1)).hs (pz z (j + 1)).bl (pz z (j + 1)).held (tj total (j + 1))) from by rw [pz_succ,tj_succ])) ?_
   refine Cfg.again rfl (j + 1) (by show j + 1 ≤ padN z; omega) (by show padN z - (j + 1) < padN z - j; omega) (Conv.mk kr) (.cons_cons _ (.cons_cons _ .slnil))
  ·have c1 := (bne_eq_false_iff_eq.1 c1r)
   obtain rfl : j = padN z := (pad_end hx hj).1 c1
   refine Cfg.begL rfl ?_
   refine Le (Eff.alloc (z := (.agg (bv (List.replicate 8 0)))) rfl kr) ?_
   rintro tl ⟨htl,ntl⟩
   refine CfgL.done rfl ?_
   refine Cg (Γ' := [(4,[],.pointer (some ⟨tl,0,none⟩)),(3,[],.int .u64 (lb total : Int)),(2,[],.pointer (some ⟨r,0,none⟩)),(0,[],.pointer (some ⟨b,0,none⟩))]) ?_
   refine Rg [0,2,3,4,23] [] n0 trivial ?_
   refine Cfg.loop rfl (ι := Nat) (fun (k1 : Nat) => [(23,[],.int .i64 (k1 : Int)),(4,[],.pointer (some ⟨tl,0,none⟩)),(3,[],.int .u64 (lb total : Int)),(2,[],.pointer (some ⟨r,0,none⟩)),(0,[],.pointer (some ⟨b,0,none⟩))]) (fun (k1 : Nat) => [(tl,.cells (bv (tlr (lb total) k1)) 198 (0,0)),(r,.cells (bv (List.replicate 32 0)) 35 (0,0)),(b,.cells (stC (pz z (padN z)).hs (pz z (padN z)).bl (pz z (padN z)).held (tj total (padN z))) 225 (0,0))]) (fun (k1 : Nat) => (k1 ≤ 8)) (fun (k1 : Nat) => 8 - k1) 0 ?_ (Conv.mk kr) (.cons_cons _ (.cons_cons _ (.cons_cons _ .slnil))) ?_
   ·exact Nat.zero_le _
   ·rintro k1 hk1
    refine Rg [0,2,3,4,23,24] [] n0 trivial ?_
    refine Cfg.cond rfl (b := (decide ((k1 : Int) < (8 : Int)))) kr (fun c2r => ?_) (fun c2r => ?_)
    ·have c2 := (of_decide_eq_true c2r)
     refine Rg [0,2,3,4,5,23] [] n0 trivial ?_
     refine Cfg.begL rfl ?_
     refine Lp 8 [] (some [0,2,3,4,23,32,33]) (fun _ => [((-9223372036854775808 : Int) ≤ (8 * (k1 : Int)) ∧ (8 * (k1 : Int)) ≤ 9223372036854775807),((-9223372036854775808 : Int) ≤ (56 - (8 * (k1 : Int))) ∧ (56 - (8 * (k1 : Int))) ≤ 9223372036854775807),(0 ≤ (56 - (8 * (k1 : Int))) ∧ ((56 - (8 * (k1 : Int)))).toNat ≤ 64),(0 ≤ (k1 : Int) ∧ (k1 : Int) < (8 : Int))]) ⟨om,om,om,om,trivial⟩ ?_
     refine Le (Eff.store1 (b := tl) (off := k1) (v := .int .u8 (((lb total : Int) / ((2 ^ ((56 - (8 * (k1 : Int)))).toNat : Nat) : Int)) % 256)) rfl kr kr rfl kr 0 (cs := (bv (tlr (lb total) k1))) (e := 198) kr (by rw [bv_size,tlr_len hk1]; omega)) ?_
     rintro ⟨⟩ -
     refine CfgL.done rfl ?_
     refine Cg (Γ' := [(23,[],.int .i64 (k1 : Int)),(4,[],.pointer (some ⟨tl,0,none⟩)),(3,[],.int .u64 (lb total : Int)),(2,[],.pointer (some ⟨r,0,none⟩)),(0,[],.pointer (some ⟨b,0,none⟩))]) ?_
     refine Rg [0,2,3,4,23] [] (fun _ => [((-9223372036854775808 : Int) ≤ ((k1 : Int) + 1) ∧ ((k1 : Int) + 1) ≤ 9223372036854775807)]) ⟨om,trivial⟩ ?_
     refine Cfg.setO (congrArg (fun (xq : Array Value) => ([(tl,.cells xq 198 (0,0)),(r,.cells (bv (List.replicate 32 0)) 35 (0,0)),(b,.cells (stC (pz z (padN z)).hs (pz z (padN z)).bl (pz z (padN z)).held (tj total (padN z))) 225 (0,0))] : List (Nat × Obj))) (show _ = (bv (tlr (lb total) (k1 + 1))) from tlr_step om rfl)) ?_
     refine Cfg.again rfl (k1 + 1) (by show k1 + 1 ≤ 8; omega) (by show 8 - (k1 + 1) < 8 - k1; omega) (Conv.mk kr) (.cons_cons _ (.cons_cons _ (.cons_cons _ .slnil)))
    ·have c2 := (of_decide_eq_false c2r)
     obtain rfl : k1 = 8 := by omega
     refine Conv.cfg (Γ' := [(4,[],.pointer (some ⟨tl,0,none⟩)),(3,[],.int .u64 (lb total : Int)),(2,[],.pointer (some ⟨r,0,none⟩)),(0,[],.pointer (some ⟨b,0,none⟩))]) (Conv.mk kr) ?_
     refine Cfg.begL rfl ?_
     refine Lp 3 [dZ,dZ,(0,false,some (.string (tls (lb total))))] (some [0,2,35,37]) (fun S => [(8 ≤ 8),(∀ w1,S w1 → (Conv.bytesToString (.slice (some ⟨tl,0,none⟩) 8 8)).run Tryz.prog w1 = .ok (.string (tls (lb total))) w1)]) ⟨om,(fun w1 h => h.ostr 0 rfl (tlr_len (Nat.le_refl 8))),trivial⟩ ?_
     refine Le (Eff.callM (vs := [.pointer (some ⟨b,0,none⟩),.string (tls (lb total))]) (.tuple #[]) 2 (b := b) (ob := .cells (stC (pz z (padN z)).hs (pz z (padN z)).bl (pz z (padN z)).held (tj total (padN z))) 225 (0,0)) (.cells (stC (z3 z total).hs (z3 z total).bl (z3 z total).held ((tj total (padN z) + (tls (lb total)).size) % 18446744073709551616)) 225 (0,0)) rfl Tryz.func143 rfl rfl kr kr (fun w1 h => shaWrite b (pz z (padN z)) (tj total (padN z)) (tls (lb total)) w1 (pz_ok hx _) (h.hasR (fun e he => he)) (h.own _ (List.mem_of_getElem? (i := 2) rfl)) hne)) ?_
     rintro ⟨⟩ -
     refine CfgL.done rfl ?_
     refine Cg (Γ' := [(2,[],.pointer (some ⟨r,0,none⟩)),(0,[],.pointer (some ⟨b,0,none⟩))]) ?_
     refine Cfg.begL rfl ?_
     refine Le (Eff.alloc (z := (.agg (bv (List.replicate 32 0)))) rfl kr) ?_
     rintro d ⟨hd,nd⟩
     refine CfgL.done rfl ?_
     refine Rg [2,6,42,43] [dZ,dZ,dZ,(0,false,some (.agg (wv (z3 z total).hs)))] (fun S => [(∀ w1,S w1 → (loadVar 223 ⟨b,0,none⟩).run Tryz.prog w1 = .ok (.agg (wv (z3 z total).hs)) w1)]) ⟨(fun w1 h => load_words Tryz.underlying223 rfl kr (z3_ok hx total).hh (fun j hj => h.ocell 3 rfl (by rw [Nat.zero_add]; exact st_sum (z3_ok hx total).hh hj))),trivial⟩ ?_
     refine Cfg.loop rfl (ι := Nat) (fun (k2 : Nat) => [(43,[],.int .i64 (k2 : Int)),(42,[],.agg (wv (z3 z total).hs)),(6,[],.pointer (some ⟨d,0,none⟩)),(2,[],.pointer (some ⟨r,0,none⟩))]) (fun (k2 : Nat) => [(d,.cells (bv (dgr (z3 z total).hs k2)) 35 (0,0)),(tl,.cells (bv (tlr (lb total) 8)) 198 (0,0)),(r,.cells (bv (List.replicate 32 0)) 35 (0,0)),(b,.cells (stC (z3 z total).hs (z3 z total).bl (z3 z total).held ((tj total (padN z) + (tls (lb total)).size) % 18446744073709551616)) 225 (0,0))]) (fun (k2 : Nat) => (k2 ≤ 8)) (fun (k2 : Nat) => 8 - k2) 0 ?_ (Conv.mk kr) (.cons_cons _ (.cons_cons _ (.cons_cons _ (.cons_cons _ .slnil)))) ?_
     ·exact Nat.zero_le _
     ·rintro k2 hk2
      refine Rg [2,6,42,43,44] [] n0 trivial ?_
      refine Cfg.cond rfl (b := (decide ((k2 : Int) < (8 : Int)))) kr (fun c3r => ?_) (fun c3r => ?_)
      ·have c3 := (of_decide_eq_true c3r)
       refine Rg [2,6,7,8,42,43] [dZ,(0,false,some (.int .u32 (rg (z3 z total).hs k2 : Int)))] (fun _ => [(0 ≤ (k2 : Int) ∧ (k2 : Int) < (8 : Int)),(((wv (z3 z total).hs))[k2]? = some (.int .u32 (rg (z3 z total).hs k2 : Int)))]) ⟨om,(wv_get (z3_ok hx total).hh om),trivial⟩ ?_
       refine Cfg.begL rfl ?_
       refine Lp 6 [] (some [2,6,7,8,42,43,51,52]) (fun _ => [((-9223372036854775808 : Int) ≤ (4 * (k2 : Int)) ∧ (4 * (k2 : Int)) ≤ 9223372036854775807),(0 ≤ (24 : Int) ∧ 24 ≤ 32),(0 ≤ (4 * (k2 : Int)) ∧ (4 * (k2 : Int)) < (32 : Int))]) ⟨om,om,om,trivial⟩ ?_
       refine Le (Eff.store1 (b := d) (off := (4 * k2)) (v := .int .u8 (((rg (z3 z total).hs k2 : Int) / 16777216) % 256)) rfl kr kr rfl kr 0 (cs := (bv (dgr (z3 z total).hs k2))) (e := 35) kr (by first | (rw [dsz _ hk2]; omega) | (simp only [Array.size_setIfInBounds,dsz _ hk2]; omega))) ?_
       rintro ⟨⟩ -
       refine CfgL.done rfl ?_
       refine Cg (Γ' := [(8,[],.int .u32 (rg (z3 z total).hs k2 : Int)),(7,[],.int .i64 (k2 : Int)),(43,[],.int .i64 (k2 : Int)),(42,[],.agg (wv (z3 z total).hs)),(6,[],.pointer (some ⟨d,0,none⟩)),(2,[],.pointer (some ⟨r,0,none⟩))]) ?_
       refine Cfg.begL rfl ?_
       refine Lp 7 [] (some [2,6,7,8,42,43,58,59]) (fun _ => [((-9223372036854775808 : Int) ≤ (4 * (k2 : Int)) ∧ (4 * (k2 : Int)) ≤ 9223372036854775807),((-9223372036854775808 : Int) ≤ ((4 * (k2 : Int)) + 1) ∧ ((4 * (k2 : Int)) + 1) ≤ 9223372036854775807),(0 ≤ (16 : Int) ∧ 16 ≤ 32),(0 ≤ ((4 * (k2 : Int)) + 1) ∧ ((4 * (k2 : Int)) + 1) < (32 : Int))]) ⟨om,om,om,om,trivial⟩ ?_
       refine Le (Eff.store1 (b := d) (off := ((4 * k2) + 1)) (v := .int .u8 (((rg (z3 z total).hs k2 : Int) / 65536) % 256)) rfl kr kr rfl kr 0 (cs := ((bv (dgr (z3 z total).hs k2)).setIfInBounds (4 * k2) (.int .u8 (((rg (z3 z total).hs k2 : Int) / 16777216) % 256)))) (e := 35) kr (by first | (rw [dsz _ hk2]; omega) | (simp only [Array.size_setIfInBounds,dsz _ hk2]; omega))) ?_
       rintro ⟨⟩ -
       refine CfgL.done rfl ?_
       refine Cg (Γ' := [(8,[],.int .u32 (rg (z3 z total).hs k2 : Int)),(7,[],.int .i64 (k2 : Int)),(43,[],.int .i64 (k2 : Int)),(42,[],.agg (wv (z3 z total).hs)),(6,[],.pointer (some ⟨d,0,none⟩)),(2,[],.pointer (some ⟨r,0,none⟩))]) ?_
       refine Cfg.begL rfl ?_
       refine Lp 7 [] (some [2,6,7,8,42,43,65,66]) (fun _ => [((-9223372036854775808 : Int) ≤ (4 * (k2 : Int)) ∧ (4 * (k2 : Int)) ≤ 9223372036854775807),((-9223372036854775808 : Int) ≤ ((4 * (k2 : Int)) + 2) ∧ ((4 * (k2 : Int)) + 2) ≤ 9223372036854775807),(0 ≤ (8 : Int) ∧ 8 ≤ 32),(0 ≤ ((4 * (k2 : Int)) + 2) ∧ ((4 * (k2 : Int)) + 2) < (32 : Int))]) ⟨om,om,om,om,trivial⟩ ?_
       refine Le (Eff.store1 (b := d) (off := ((4 * k2) + 2)) (v := .int .u8 (((rg (z3 z total).hs k2 : Int) / 256) % 256)) rfl kr kr rfl kr 0 (cs := (((bv (dgr (z3 z total).hs k2)).setIfInBounds (4 * k2) (.int .u8 (((rg (z3 z total).hs k2 : Int) / 16777216) % 256))).setIfInBounds ((4 * k2) + 1) (.int .u8 (((rg (z3 z total).hs k2 : Int) / 65536) % 256)))) (e := 35) kr (by first | (rw [dsz _ hk2]; omega) | (simp only [Array.size_setIfInBounds,dsz _ hk2]; omega))) ?_
       rintro ⟨⟩ -
       refine CfgL.done rfl ?_
       refine Cg (Γ' := [(8,[],.int .u32 (rg (z3 z total).hs k2 : Int)),(7,[],.int .i64 (k2 : Int)),(43,[],.int .i64 (k2 : Int)),(42,[],.agg (wv (z3 z total).hs)),(6,[],.pointer (some ⟨d,0,none⟩)),(2,[],.pointer (some ⟨r,0,none⟩))]) ?_
       refine Cfg.begL rfl ?_
       refine Lp 6 [] (some [2,6,42,43,71,72]) (fun _ => [((-9223372036854775808 : Int) ≤ (4 * (k2 : Int)) ∧ (4 * (k2 : Int)) ≤ 9223372036854775807),((-9223372036854775808 : Int) ≤ ((4 * (k2 : Int)) + 3) ∧ ((4 * (k2 : Int)) + 3) ≤ 9223372036854775807),(0 ≤ ((4 * (k2 : Int)) + 3) ∧ ((4 * (k2 : Int)) + 3) < (32 : Int))]) ⟨om,om,om,trivial⟩ ?_
       refine Le (Eff.store1 (b := d) (off := ((4 * k2) + 3)) (v := .int .u8 ((rg (z3 z total).hs k2 : Int) % 256)) rfl kr kr rfl kr 0 (cs := ((((bv (dgr (z3 z total).hs k2)).setIfInBounds (4 * k2) (.int .u8 (((rg (z3 z total).hs k2 : Int) / 16777216) % 256))).setIfInBounds ((4 * k2) + 1) (.int .u8 (((rg (z3 z total).hs k2 : Int) / 65536) % 256))).setIfInBounds ((4 * k2) + 2) (.int .u8 (((rg (z3 z total).hs k2 : Int) / 256) % 256)))) (e := 35) kr (by first | (rw [dsz _ hk2]; omega) | (simp only [Array.size_setIfInBounds,dsz _ hk2]; omega))) ?_
       rintro ⟨⟩ -
       refine CfgL.done rfl ?_
       refine Cg (Γ' := [(43,[],.int .i64 (k2 : Int)),(42,[],.agg (wv (z3 z total).hs)),(6,[],.pointer (some ⟨d,0,none⟩)),(2,[],.pointer (some ⟨r,0,none⟩))]) ?_
       refine Rg [2,6,42,43] [] (fun _ => [((-9223372036854775808 : Int) ≤ ((k2 : Int) + 1) ∧ ((k2 : Int) + 1) ≤ 9223372036854775807)]) ⟨om,trivial⟩ ?_
       refine Cfg.setO (congrArg (fun (xq : Array Value) => ([(d,.cells xq 35 (0,0)),(tl,.cells (bv (tlr (lb total) 8)) 198 (0,0)),(r,.cells (bv (List.replicate 32 0)) 35 (0,0)),(b,.cells (stC (z3 z total).hs (z3 z total).bl (z3 z total).held ((tj total (padN z) + (tls (lb total)).size) % 18446744073709551616)) 225 (0,0))] : List (Nat × Obj))) (show _ = (bv (dgr (z3 z total).hs (k2 + 1))) from dgr_step _ om rfl rfl rfl rfl)) ?_
       refine Cfg.again rfl (k2 + 1) (by show k2 + 1 ≤ 8; omega) (by show 8 - (k2 + 1) < 8 - k2; omega) (Conv.mk kr) (.cons_cons _ (.cons_cons _ (.cons_cons _ (.cons_cons _ .slnil))))
      ·have c3 := (of_decide_eq_false c3r)
       refine Cfg.begL rfl ?_
       refine Lp 1 [(0,false,some (.agg (bv (dgr (z3 z total).hs k2))))] (some [2,74]) (fun S => [(∀ w1,S w1 → (loadVar 35 ⟨d,0,none⟩).run Tryz.prog w1 = .ok (.agg (bv (dgr (z3 z total).hs k2))) w1)]) ⟨(fun w1 h => h.oload 0 rfl Tryz.underlying35 rfl (n := 32) kr (dsz _ hk2)),trivial⟩ ?_
       refine Le (Eff.storeN (b := r) (off := 0) (vs := (bv (dgr (z3 z total).hs k2))) (n := 32) rfl kr kr kr (dsz _ hk2) (all_bv _) 2 (cs := (bv (List.replicate 32 0))) (e := 35) kr (by rw [zsz]; omega)) ?_
       rintro ⟨⟩ -
       refine CfgL.setO (congrArg (fun (xq : Array Value) => ([(d,.cells (bv (dgr (z3 z total).hs k2)) 35 (0,0)),(tl,.cells (bv (tlr (lb total) 8)) 198 (0,0)),(r,.cells xq 35 (0,0)),(b,.cells (stC (z3 z total).hs (z3 z total).bl (z3 z total).held ((tj total (padN z) + (tls (lb total)).size) % 18446744073709551616)) 225 (0,0))] : List (Nat × Obj))) (show _ = (bv (dgr (z3 z total).hs k2)) from spl_all ((dsz _ hk2).trans zsz.symm))) ?_
       refine CfgL.done rfl ?_
       refine Cg (Γ' := [(2,[],.pointer (some ⟨r,0,none⟩))]) ?_
       refine Cfg.ret rfl (rs := [.cell 2 35]) rfl [.agg (bv (dgr (z3 z total).hs k2))] ⟨⟨_,by kernel_rfl,(fun w1 h => h.oload 2 rfl Tryz.underlying35 rfl (n := 32) kr (dsz _ hk2))⟩,trivial⟩ (fun w1 hp => ?_)
       obtain rfl : k2 = 8 := by omega
       exact ⟨rfl,hp.ext⟩
end Go.Proofs.YtinhinjpfmdfiaaGreatDoor
namespace Go.Proofs.YtinhinjpfmdfiaaGreatDoor
open K
set_option linter.unusedVariables false
set_option maxRecDepth 100000 in
theorem shaBegin (w : World) :
  Calls Tryz.prog 142 #[] w fun e w' => ∃ b : Nat,True ∧ e = .returned (.pointer (some ⟨b,0,none⟩)) ∧ w.heap.size ≤ b ∧ w'.heap[b]? = some (.cells (stC H8 (List.replicate 64 0) 0 0) 225 (0,0)) ∧ Ext [] w w' := by
 refine enter (vs := []) [] [] [] Tryz.func142 rfl kr (HP.start w) ?_
 refine Rg [] [] n0 trivial ?_
 refine Cfg.begL rfl ?_
 refine Lp 2 [(0,false,some (.agg (wv H8))),(0,false,some (.agg (stC H8 (List.replicate 64 0) 0 0)))] (some [2]) (fun S => [(∀ w1,S w1 → (Instr.build 223 #[(0,.int .u32 1779033703),(1,.int .u32 3144134277),(2,.int .u32 1013904242),(3,.int .u32 2773480762),(4,.int .u32 1359893119),(5,.int .u32 2600822924),(6,.int .u32 528734635),(7,.int .u32 1541459225)]).run Tryz.prog w1 = .ok (.agg (wv H8)) w1),(∀ w1,S w1 → (Instr.build 225 #[(0,.agg (wv H8))]).run Tryz.prog w1 = .ok (.agg (stC H8 (List.replicate 64 0) 0 0)) w1)]) ⟨(fun _ _ => kr),(fun _ _ => kr),trivial⟩ ?_
 refine Le (Eff.box (v := .agg (stC H8 (List.replicate 64 0) 0 0)) rfl kr) ?_
 rintro b1 ⟨hb1,nb1⟩
 refine Lp 1 [] (some [0]) n0 trivial ?_
 refine CfgL.done rfl ?_
 refine Cfg.ret rfl (rs := [.tmp 0]) rfl [.pointer (some ⟨b1,0,none⟩)] ⟨kr,trivial⟩ (fun w1 hp => ?_)
 exact ⟨b1,trivial,rfl,hb1,hp.own (b1,_) (List.mem_cons_self ..),hp.ext⟩
set_option maxRecDepth 100000 in
theorem shaSum (la : Option Addr) (cap : Nat) (ss : List ByteArray) (Rl : List (Nat × Obj)) {kt : Array Value} {t0 : TypeId} {fr0 : Nat × Nat} (w : World) (hI : InS Rl la ss.length (fun j => .string (ssat ss j))) (hn : ss.length ≤ maxLen) (hR : Has w ((1,.cells kt t0 fr0) :: Rl)) (hK : KT kt := by assumption) :
  Calls Tryz.prog 126 #[.slice la ss.length cap] w fun e w' => e = .returned (.agg (bv (shaD (scat ss)))) ∧ Ext [] w w' := by
 unfold maxLen at hn
 have h0 : 1 < w.heap.size := lt_of_get (hR _ (List.mem_cons_self ..))
 refine enter (vs := [.slice la ss.length cap]) [] ((1,.cells kt t0 fr0) :: Rl) [] Tryz.func126 rfl kr (HP.ofHas hR) ?_
 refine Cfg.begL rfl ?_
 refine Le (Eff.alloc (z := (.agg (bv (List.replicate 32 0)))) rfl kr) ?_
 rintro r ⟨hr,nr⟩
 refine CfgL.done rfl ?_
 refine Cfg.begL rfl ?_
 refine Le (Eff.callN (vs := []) (fun b : Nat => .pointer (some ⟨b,0,none⟩)) (fun b => b) (fun _ => .cells (stC H8 (List.replicate 64 0) 0 0) 225 (0,0)) (fun _ => True) rfl Tryz.func142 rfl rfl kr (fun w1 _ => shaBegin w1)) ?_
 rintro b ⟨-,hb,nb⟩
 have hne : b ≠ 1 := by have : w.heap.size ≤ b := hb; omega
 refine Lp 1 [] (some [0,2,3]) n0 trivial ?_
 refine CfgL.done rfl ?_
 refine Rg [2,3,7,8,9] [] n0 trivial ?_
 refine Cfg.loop rfl (ι := Nat) (fun (i : Nat) => [(9,[],.int .i64 (i : Int)),(8,[],.int .i64 (ss.length : Int)),(7,[],.slice la ss.length cap),(3,[],.pointer (some ⟨b,0,none⟩)),(2,[],.pointer (some ⟨r,0,none⟩))]) (fun (i : Nat) => [(b,.cells (stC (sz ss i).hs (sz ss i).bl (sz ss i).held (tt ss i)) 225 (0,0)),(r,.cells (bv (List.replicate 32 0)) 35 (0,0))]) (fun (i : Nat) => (i ≤ ss.length)) (fun (i : Nat) => ss.length - i) 0 ?_ (Conv.mk kr) (.cons_cons _ (.cons_cons _ .slnil)) ?_
 ·exact Nat.zero_le _
 ·rintro i hi
  refine Rg [2,3,7,8,9,10] [] n0 trivial ?_
  refine Cfg.cond rfl (b := (decide ((i : Int) < (ss.length : Int)))) kr (fun c1r => ?_) (fun c1r => ?_)
  ·have c1 := (of_decide_eq_true c1r)
   obtain ⟨sb,off,cs,te,fre,rfl,hmem,hcs⟩ := hI om
   refine Conv.cfg (Γ' := [(10,[],.bool (decide ((i : Int) < (ss.length : Int)))),(9,[],.int .i64 (i : Int)),(8,[],.int .i64 (ss.length : Int)),(7,[],.slice (some ⟨sb,off,none⟩) ss.length cap),(3,[],.pointer (some ⟨b,0,none⟩)),(2,[],.pointer (some ⟨r,0,none⟩))]) (Conv.mk kr) ?_
   refine Rg [2,3,5,7,8,9] [dZ,(0,false,some (.string (ssat ss i)))] (fun S => [(0 ≤ (i : Int) ∧ (i : Int) < (ss.length : Int)),(∀ w1,S w1 → w1.cell? ⟨sb,(addO off i),none⟩ = some (.string (ssat ss i)))]) ⟨om,(fun w1 h => by rw [addO_eq]; exact (cell_cells (h.ro _ (List.mem_cons_of_mem _ hmem))).trans (hcs i om)),trivial⟩ ?_
   refine Cfg.begL rfl ?_
   refine Lp 2 [] (some [2,3,7,8,9,13,14]) n0 trivial ?_
   refine Le (Eff.callM (vs := [.pointer (some ⟨b,0,none⟩),.string (ssat ss i)]) (.tuple #[]) 0 (b := b) (ob := .cells (stC (sz ss i).hs (sz ss i).bl (sz ss i).held (tt ss i)) 225 (0,0)) (.cells (stC (feed (sz ss i) (ssat ss i).data.toList).hs (feed (sz ss i) (ssat ss i).data.toList).bl (feed (sz ss i) (ssat ss i).data.toList).held ((tt ss i + (ssat ss i).size) % 18446744073709551616)) 225 (0,0)) rfl Tryz.func143 rfl rfl kr kr (fun w1 h => shaWrite b (sz ss i) (tt ss i) (ssat ss i) w1 (sz_ok ss i) (h.hasR (fun e he => by rw [List.mem_singleton.1 he]; exact List.mem_cons_self ..)) (h.own _ (List.mem_of_getElem? (i := 0) rfl)) hne)) ?_
   rintro ⟨⟩ -
   refine CfgL.done rfl ?_
   refine Cg (Γ' := [(9,[],.int .i64 (i : Int)),(8,[],.int .i64 (ss.length : Int)),(7,[],.slice (some ⟨sb,off,none⟩) ss.length cap),(3,[],.pointer (some ⟨b,0,none⟩)),(2,[],.pointer (some ⟨r,0,none⟩))]) ?_
   refine Rg [2,3,7,8,9] [] (fun _ => [((-9223372036854775808 : Int) ≤ ((i : Int) + 1) ∧ ((i : Int) + 1) ≤ 9223372036854775807)]) ⟨om,trivial⟩ ?_
   refine Cfg.setO (congrArg (fun (xq : Array Value) => ([(b,.cells xq 225 (0,0)),(r,.cells (bv (List.replicate 32 0)) 35 (0,0))] : List (Nat × Obj))) (show _ = (stC (sz ss (i + 1)).hs (sz ss (i + 1)).bl (sz ss (i + 1)).held (tt ss (i + 1))) from by rw [sz_succ om,tt_succ om])) ?_
   refine Cfg.again rfl (i + 1) (by show i + 1 ≤ ss.length; omega) (by show ss.length - (i + 1) < ss.length - i; omega) (Conv.mk kr) (.cons_cons _ (.cons_cons _ .slnil))
  ·have c1 := (of_decide_eq_false c1r)
   obtain rfl : i = ss.length := by omega
   refine Conv.cfg (Γ' := [(8,[],.int .i64 (ss.length : Int)),(7,[],.slice la ss.length cap),(3,[],.pointer (some ⟨b,0,none⟩)),(2,[],.pointer (some ⟨r,0,none⟩))]) (Conv.mk kr) ?_
   refine Cfg.begL rfl ?_
   refine Lp 1 [] (some [2,17]) n0 trivial ?_
   refine Le (Eff.callD (vs := [.pointer (some ⟨b,0,none⟩)]) (.agg (bv (shaD (scat ss)))) 0 (b := b) (ob := .cells (stC (sz ss ss.length).hs (sz ss ss.length).bl (sz ss ss.length).held (tt ss ss.length)) 225 (0,0)) rfl Tryz.func144 rfl rfl kr kr (fun w1 h => by have := shaEndC b (sz ss ss.length) (tt ss ss.length) w1 (sz_ok ss _) (h.hasR (fun e he => by rw [List.mem_singleton.1 he]; exact List.mem_cons_self ..)) (h.own _ (List.mem_of_getElem? (i := 0) rfl)) hne; rw [sz_all] at this; exact this)) ?_
   rintro ⟨⟩ -
   refine Le (Eff.storeN (b := r) (off := 0) (vs := (bv (shaD (scat ss)))) (n := 32) rfl kr kr kr (dz _) (all_bv _) 0 (cs := (bv (List.replicate 32 0))) (e := 35) kr (by rw [zsz]; omega)) ?_
   rintro ⟨⟩ -
   refine CfgL.setO (congrArg (fun (xq : Array Value) => ([(r,.cells xq 35 (0,0))] : List (Nat × Obj))) (show _ = (bv (shaD (scat ss))) from spl_all ((dz _).trans zsz.symm))) ?_
   refine CfgL.done rfl ?_
   refine Cg (Γ' := [(2,[],.pointer (some ⟨r,0,none⟩))]) ?_
   refine Cfg.ret rfl (rs := [.cell 2 35]) rfl [.agg (bv (shaD (scat ss)))] ⟨⟨_,by kernel_rfl,(fun w1 h => h.oload 0 rfl Tryz.underlying35 rfl (n := 32) kr (dz _))⟩,trivial⟩ (fun w1 hp => ?_)
   exact ⟨rfl,hp.ext⟩
end Go.Proofs.YtinhinjpfmdfiaaGreatDoor
namespace Go.Proofs.YtinhinjpfmdfiaaGreatDoor
open K
set_option linter.unusedVariables false
def un8 (L : List Nat) : List UInt8 := L.map UInt8.ofNat
def mixes : Nat → List UInt8 → List Nat → List Nat
 | 0,_,hs => hs
 | k + 1,l,hs => mixes k (l.drop 64) (mixF hs (l.take 64))
theorem lay_all : ∀ (l A B : List UInt8),B.length = l.length → lay (A ++ B) A.length l = A ++ l
 | [],A,B,h => by rw [List.eq_nil_of_length_eq_zero (l := B) (by simpa using h)]; rfl
 | x :: l,A,B,h => by
  match B,h with
  | y :: B,h =>
   have e : (A ++ y :: B).set A.length x = (A ++ [x]) ++ B := by simp
   have := lay_all l (A ++ [x]) B (by simpa using h)
   rw [lay,e]
   rw [List.length_append] at this
   simpa using this
theorem feed_mixes : ∀ (k : Nat) (l : List UInt8) (hs : List Nat) (bl : List UInt8),l.length = 64 * k → bl.length = 64 → (feed ⟨hs,bl,0⟩ l).hs = mixes k l hs
 | 0,l,hs,bl,h,_ => by rw [List.eq_nil_of_length_eq_zero (l := l) om]; rfl
 | k + 1,l,hs,bl,h,hb => by
  have h1 : (l.take 64).length = 64 := by rw [List.length_take]; omega
  have hf := feed_full (l.take 64) hs bl 0 (by decide) om
  have hla : lay bl 0 (l.take 64) = l.take 64 := by
   have := lay_all (l.take 64) [] bl om
   simpa using this
  rw [hla] at hf
  have := feed_app ⟨hs,bl,0⟩ (l.take 64) (l.drop 64)
  rw [List.take_append_drop] at this
  rw [this,hf,feed_mixes k (l.drop 64) _ _ (by rw [List.length_drop]; omega) h1,mixes]
def tailN (N : Nat) : List Nat := 128 :: (List.replicate ((119 - N % 64) % 64) 0 ++ (List.range 8).map fun i => lb (N % 18446744073709551616) / 2 ^ (56 - 8 * i) % 256)
theorem u8_ofmod (m : Nat) : UInt8.ofNat (m % 256) = UInt8.ofNat m := u8mod m
theorem un8_tail (N : Nat) : un8 (tailN N) = 128 :: (List.replicate ((119 - N % 64) % 64) 0 ++ tlr (lb (N % 18446744073709551616)) 8) := by
 unfold un8 tailN tlr tb
 rw [List.map_cons,List.map_append,List.map_replicate,List.map_map]
 congr 2
 simp only [Nat.sub_self,List.replicate_zero,List.append_nil]
 apply List.map_congr_left
 intro i _
 exact u8_ofmod _
theorem shaD_mixes (l : List UInt8) {k : Nat} (hk : l.length + (tailN l.length).length = 64 * k) : shaD l = dgr (mixes k (l ++ un8 (tailN l.length)) H8) 8 := by
 have hh : (feed sh0 l).held = l.length % 64 := by
  have := feed_held l sh0_ok
  rw [this]
  show (0 + l.length) % 64 = _
  rw [Nat.zero_add]
 unfold shaD shaEnd z3 pz padN
 rw [← feed_app,← feed_app,hh]
 have e : l ++ ((128 :: List.replicate ((119 - l.length % 64) % 64) 0) ++ tlr (lb (l.length % 18446744073709551616)) 8) = l ++ un8 (tailN l.length) := by
  rw [un8_tail,List.cons_append]
 rw [e]
 congr 1
 exact feed_mixes k _ H8 _ (by rw [List.length_append]; unfold un8; rw [List.length_map]; exact hk) (by rw [List.length_replicate])
theorem tailN_len (N : Nat) : (N + (tailN N).length) % 64 = 0 := by
 unfold tailN
 rw [List.length_cons,List.length_append,List.length_replicate,List.length_map,List.length_range]
 omega
theorem mixes_succ : ∀ (k : Nat) (l : List UInt8) (hs : List Nat),mixes (k + 1) l hs = mixF (mixes k l hs) ((l.drop (64 * k)).take 64)
 | 0,l,hs => by rw [mixes,mixes,mixes,Nat.mul_zero,List.drop_zero]
 | k + 1,l,hs => by
  have ih := mixes_succ k (l.drop 64) (mixF hs (l.take 64))
  rw [mixes,ih,List.drop_drop,mixes,show 64 + 64 * k = 64 * (k + 1) by omega]
theorem mixes_len : ∀ (k : Nat) (l : List UInt8) {hs : List Nat},hs.length = 8 → (mixes k l hs).length = 8
 | 0,_,_,h => h
 | k + 1,l,hs,h => mixes_len k _ (mixF_len _ h)
theorem mixes_lt : ∀ (k : Nat) (l : List UInt8) {hs : List Nat},(∀ i,rg hs i < 2 ^ 32) → ∀ i,rg (mixes k l hs) i < 2 ^ 32
 | 0,_,_,h => h
 | k + 1,l,hs,h => mixes_lt k _ (mixF_lt _ h)
end Go.Proofs.YtinhinjpfmdfiaaGreatDoor
