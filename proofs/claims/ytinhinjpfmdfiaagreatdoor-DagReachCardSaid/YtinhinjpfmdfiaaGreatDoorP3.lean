/- Texts on which the proof of this claim stands: I10, I11, I12, I13, I14, Dag, K21, K31, Dg4, Dg5. -/
import Derived.Test.YtinhinjpfmdfiaaGreatDoorP2
import Derived.Lib.UnsafeStr
import Derived.Test.YtinhinjpfmdfiaaGreatDoorP1
import Derived.Lib.Bytealg
import Derived.MapKept
namespace Go.Proofs.YtinhinjpfmdfiaaGreatDoor
namespace I
open K (one aggB run_underlying' run_sizeOf' add_none run_v cell_cells)
set_option linter.unusedVariables false
inductive NV where
 | ptr
 | sl (len lb sz : Nat)
 | map
def NV.at : NV → Nat → AV
 | .ptr,b => .ptr b 0
 | .sl len lb sz,b => .sl b 0 len lb sz
 | .map,b => .map b
def zrep (P : Program) (e : TypeId) (n : Nat) : Option AV :=
 match rowA (zeroA P e) with
 | some (sz,s) => bif Nat.beq sz 0 then none else
  bif Nat.beq sz 1 then some (unid (lg n) s) else
  match s with
  | .uni v => some (unid (lg n) v)
  | s => some (cmk (fun i => cget (lg sz) s (i % sz)) (lg n) 0 n)
 | none => none
def anew (P : Program) (ρ : Operand → AV) (o : Oper) : Option (NV × AV) :=
 match o.op with
 | .alloc t => match rowA (zeroA P t) with
  | some (n,s) => some (.ptr,.cells (2 * t + 1) n false s)
  | none => none
 | .box t x => match rowA (ρ x) with
  | some (n,s) => some (.ptr,.cells (2 * t + 1) n false s)
  | none => none
 | .buildSlice t len ps => match P.underlying t with
  | some (.slice e) => match P.info? e with
   | some inf => bif Nat.beq len 0 && Nat.beq ps.size 0 then some (.sl 0 0 inf.size,.cells (2 * e + 1) 0 false .undef) else
    bif Nat.ble (len * inf.size) 16777216 && !(Nat.beq (len * inf.size) 0) then
     match zrep P e (len * inf.size) with
     | some z => match fillA (fun i => some (i * inf.size,inf.size)) (len * inf.size) (ps.toList.map fun p => (p.1,ρ p.2)) z with
      | some u => some (.sl len len inf.size,.cells (2 * e + 1) (len * inf.size) false u)
      | none => none
     | none => none
    else none
   | none => none
  | _ => none
 | .makeMap t none => some (.map,.mp .lnil)
 | .makeMap t (some x) => match P.underlying t,ρ x with
  | some (.map _ _),.int _ _ => some (.map,.mp .lnil)
  | _,_ => none
 | .makeSlice t l c => match P.underlying t,ρ l,ρ c with
  | some (.slice e),.int _ (.ofNat n),.int _ (.ofNat m) => match P.info? e with
   | some inf => bif Nat.beq n 0 && Nat.beq m 0 then some (.sl 0 0 inf.size,.cells (2 * e + 1) 0 false .undef) else
    bif Nat.ble n m && (Nat.ble (inf.bytes * m) 281474976710656 && (Nat.ble m 9223372036854775807 && !(Nat.beq (m * inf.size) 0))) then
     match zrep P e (m * inf.size) with
     | some z => some (.sl n m inf.size,.cells (2 * e + 1) (m * inf.size) false z)
     | none => none
    else none
   | none => none
  | _,_,_ => none
 | .convert src dst x => match P.underlying src,P.underlying dst,ρ x with
  | some _,some (.slice e),.str n s => match P.underlying e with
   | some (.int .u8) => some (.sl n n 1,.cells (2 * e) n false (strN n s))
   | _ => none
  | _,_,_ => none
 | .call ⟨.builtin .append,⟨[x,y]⟩,⟨[t,t2]⟩⟩ => match P.underlying t2 with
  | some (.int _) => match P.underlying t,ρ x,ρ y with
   | some (.slice e),.nils,.int .i64 (.ofNat m) => match P.info? e,rowA (zeroA P e) with
    | some inf,some (zn,_) => bif Nat.beq zn inf.size && (Nat.ble (m * inf.bytes) 140737488355328 && (Nat.ble m 9223372036854775807 && !(Nat.beq (m * inf.size) 0))) then
      match zrep P e (m * inf.size) with
      | some z => some (.sl m m inf.size,.cells (2 * e) (m * inf.size) false z)
      | none => none
     else none
    | _,_ => none
   | _,_,_ => none
  | _ => none
 | _ => none
section
variable {P : Program} {σ : Sg} {h : AV} {nx : Nat} {w0 w : World} {B : Fr}
theorem zrep_ok {e : TypeId} {n : Nat} {u : AV} (hz : zrep P e n = some u) (σ : Sg) : ∃ z,(P.info? e).bind (·.zero) = some z ∧ 0 < z.cells.size ∧
  ∀ cs : Array Value,cs.size = n → (∀ i,i < n → cs[i]? = some (z.cells[i % z.cells.size]!)) → RowRel σ n u cs := by
 unfold zrep at hz
 split at hz
 ·rename_i sz s hr
  cases h0 : Nat.beq sz 0 with
  | true => simp [h0] at hz
  | false =>
   simp only [h0,cond_false] at hz
   have hsz0 : sz ≠ 0 := fun e => by rw [beqn_iff.2 e] at h0; cases h0
   have hbad : zeroA P e ≠ .bad := fun hb => by rw [hb] at hr; simp [rowA,scalarA] at hr
   obtain ⟨z,hzv,hzr⟩ := zeroA_ok (P := P) (t := e) rfl hbad σ
   have hrow := rowA_ok hzr hr
   refine ⟨z,hzv,by rw [hrow.1]; omega,fun cs hcs hget => ?_⟩
   have hcell : ∀ i,i < n → cget (lg n) u i = cget (lg sz) s (i % sz) := by
    intro i hi
    cases h1 : Nat.beq sz 1 with
    | true =>
     simp only [h1,cond_true,Option.some.injEq] at hz
     have := beqn_iff.1 h1
     subst this
     rw [← hz,cget_unid]; rfl
    | false =>
     simp only [h1,cond_false] at hz
     have hsz1 : sz ≠ 1 := fun e => by rw [beqn_iff.2 e] at h1; cases h1
     split at hz
     ·rename_i v
      simp only [Option.some.injEq] at hz
      rw [← hz,cget_unid]
      obtain ⟨k,hk⟩ : ∃ k,lg sz = k + 1 := by
       unfold lg
       cases hb : Nat.ble sz 1 with
       | true => have := ble_iff.1 hb; omega
       | false => exact ⟨_,rfl⟩
      rw [hk]; rfl
     ·simp only [Option.some.injEq] at hz
      rw [← hz,cget_cmk _ _ _ _ _ (lg_le n) hi,Nat.zero_add]
   have hval : ∀ i v,cs[i]? = some v → i < n ∧ z.cells[i % sz]? = some v := by
    intro i v hv
    have hi : i < n := by rw [← hcs]; exact (Array.getElem?_eq_some_iff.1 hv).1
    refine ⟨hi,?_⟩
    have := hget i hi
    rw [hv] at this
    simp only [Option.some.injEq] at this
    have hlt : i % sz < z.cells.size := by rw [hrow.1]; exact Nat.mod_lt _ om
    rw [this,hrow.1,getElem!_pos z.cells (i % sz) hlt]
    exact Array.getElem?_eq_getElem hlt
   refine ⟨hcs,fun i v hv => hrow.2.1 _ v (hval i v hv).2,fun i v hv => ?_⟩
   obtain ⟨hi,hv⟩ := hval i v hv
   rw [hcell i hi]
   exact hrow.2.2 _ v hv
 ·cases hz
theorem range0 : Array.range 0 = #[] := by simp [Array.range]
theorem odd_half (t : Nat) : (2 * t + 1) / 2 = t := by omega
theorem even_half (t : Nat) : 2 * t / 2 = t := by omega
theorem calm0 (n : Nat) : Calm (0,0) n := fun i hi => by simp
theorem HS.row (H : HS σ h nx w0 B w) (hnx : nx < 2 ^ HD) {ty n : Nat} {t : AV} {cs : Array Value} {fr : Nat × Nat} {w' : World} (hw : w'.heap = w.heap.push (.cells cs (ty / 2) fr)) (hex : ty % 2 = 1 → n = cs.size) (h1 : w'.os = w.os) (h2 : w'.tape = w.tape) (h3 : w'.output = w.output)
  (hn : n ≤ cs.size) (hfr : Calm fr cs.size) (hc : ∀ i,i < n → ∃ v,cs[i]? = some v ∧ one v = true ∧ Rel σ (cget (lg n) t i) v) :
  HS (ext σ nx (w.heap.size,0,cs.size)) (cput HD h nx (.cells ty n false t)) (nx + 1) w0 B w' := by
 refine H.new hnx (p := (w.heap.size,0,cs.size)) rfl hw h1 h2 h3 ⟨w.heap.size,0,cs.size,cs,fr,ty / 2,by simp [ext],by rw [hw]; simp,rfl,⟨rfl,by omega,hex⟩,fun i hi => ?_,fun _ => ⟨hfr,.inr H.size⟩,fun _ => rfl⟩
 obtain ⟨v,g1,g2,g3⟩ := hc i hi
 exact ⟨v,by rw [Nat.zero_add]; exact g1,g2,g3.mono (H.sub_ext _)⟩
theorem RowRel.all {n : Nat} {t : AV} {cs : Array Value} (hr : RowRel σ n t cs) : ∀ i,i < n → ∃ v,cs[i]? = some v ∧ one v = true ∧ Rel σ (cget (lg n) t i) v := fun i hi => by
 have hlt : i < cs.size := by rw [hr.1]; exact hi
 have hg : cs[i]? = some cs[i] := Array.getElem?_eq_getElem hlt
 exact ⟨_,hg,hr.2.1 i _ hg,hr.2.2 i _ hg⟩
def NewOk (P : Program) (σ : Sg) (h : AV) (nx : Nat) (w0 : World) (B : Fr) (w : World) (s : Sem Next) (nv : NV) (x : AV) : Prop :=
 ∃ p v w',(s.run P w = .ok (.value v) w') ∧ Rel (ext σ nx p) (nv.at nx) v ∧ HS (ext σ nx p) (cput HD h nx x) (nx + 1) w0 B w'
def NewCore (P : Program) (σ : Sg) (w0 : World) (B : Fr) (w : World) (s : Sem Next) (nv : NV) (x : AV) : Prop :=
 ∃ p v w' ob,s.run P w = .ok (.value v) w' ∧ w'.heap = w.heap.push ob ∧ w'.os = w.os ∧ w'.tape = w.tape ∧ w'.output = w.output ∧ p.1 = w.heap.size ∧ liveW x = true ∧
  ∀ b σ',Sub σ σ' → σ' b = some p → Rel σ' (nv.at b) v ∧ BlkRel σ' w0 B w' b x
theorem row_core (hsz : w0.heap.size ≤ w.heap.size) {ty n : Nat} {t : AV} {cs : Array Value} {fr : Nat × Nat} {w' : World} (hw : w'.heap = w.heap.push (.cells cs (ty / 2) fr)) (hex : ty % 2 = 1 → n = cs.size) (hn : n ≤ cs.size) (hfr : Calm fr cs.size)
  (hc : ∀ i,i < n → ∃ v,cs[i]? = some v ∧ one v = true ∧ Rel σ (cget (lg n) t i) v) {b : Nat} {σ' : Sg} (hs : Sub σ σ') (hb : σ' b = some (w.heap.size,0,cs.size)) : BlkRel σ' w0 B w' b (.cells ty n false t) := by
 refine ⟨w.heap.size,0,cs.size,cs,fr,ty / 2,hb,by rw [hw]; simp,rfl,⟨rfl,by omega,hex⟩,fun i hi => ?_,fun _ => ⟨hfr,.inr hsz⟩,fun _ => rfl⟩
 obtain ⟨v,g1,g2,g3⟩ := hc i hi
 exact ⟨v,by rw [Nat.zero_add]; exact g1,g2,g3.mono hs⟩
theorem run_append_zero {t t2 e oty : TypeId} {kn : IntKind} {inf : TypeInfo} {z : Value} {m : Nat} (hu : P.underlying t = some (.slice e)) (hu2 : P.underlying t2 = some (.int kn)) (hi : P.info? e = some inf) (hz : inf.zero = some z) (hb : m * inf.bytes ≤ 140737488355328) (h63 : m ≤ 9223372036854775807) (hms : m * inf.size ≠ 0) :
  (Builtin.append_ #[t,t2] oty #[.slice none 0 0,.int .i64 (m : Int)]).run P w = .ok (.slice (some ⟨w.heap.size,0,none⟩) m ((Question.appendCap m 0 e).cut (w.tape w.drawn (.appendCap m 0 e))))
   ({ w with drawn := w.drawn + 1 }.alloc (.cells (Builtin.zeroCells z.cells m ++ Builtin.zeroCells z.cells ((Question.appendCap m 0 e).cut (w.tape w.drawn (.appendCap m 0 e)) - m)) e (0,0))) := by
 have hw : IntKind.i64.wrap (m : Int) = (m : Int) := K.wrap_in ⟨(show (-9223372036854775808 : Int) ≤ (m : Int) by omega),(show (m : Int) ≤ 9223372036854775807 by omega)⟩
 have h0 : ¬ ((m : Int) < 0) := by omega
 have h48 : ¬ ((m : Int) * (inf.bytes : Int) > 281474976710656) := by
  have h9 := Int.ofNat_le.2 hb
  rw [Int.natCast_mul] at h9
  have h8 : ((140737488355328 : Nat) : Int) = 140737488355328 := rfl
  rw [h8] at h9
  omega
 have hm0 : m ≠ 0 := fun e => hms (by rw [e,Nat.zero_mul])
 have h63' : ¬ (9223372036854775807 < (m : Int)) := by omega
 have hfit := growslice_fits (show 0 < m by omega) hb
 have h48' : ¬ (281474976710656 < Builtin.nextslicecap m 0 * inf.bytes) := by omega
 have hzv : ∀ w,(zeroValue e).run P w = .ok z w := fun w => by simp [zeroValue,typeInfo,program,Sem.run,hi,hz]
 have hai : (asIntOf (.int .i64 (m : Int))).run P w = .ok (.i64,(m : Int)) w := rfl
 simp [Builtin.append_,run_underlying' hu,run_underlying' hu2,run_sizeOf' hi,asInt,hai,typeInfo,hi,hw,h0,h48,Builtin.lenOf,hm0,h63',h48',Question.forced,Builtin.firstCells,hzv,newRow]
 exact fun h => absurd h hms
theorem anew_core {ρ : Operand → AV} {ev : Operand → Value} {o : Oper} {nv : NV} {x : AV} (hsz : w0.heap.size ≤ w.heap.size) (hρ : ∀ x,Rel σ (ρ x) (ev x)) (ha : anew P ρ o = some (nv,x)) :
  NewCore P σ w0 B w (execOp ev o) nv x := by
 obtain ⟨dst,op,oty,pos,after,guard⟩ := o
 unfold anew at ha
 dsimp only at ha
 split at ha
 ·rename_i t
  split at ha
  ·rename_i n s hr
   simp only [Option.some.injEq,Prod.mk.injEq] at ha
   obtain ⟨rfl,rfl⟩ := ha
   have hbad : zeroA P t ≠ .bad := fun hb => by rw [hb] at hr; simp [rowA,scalarA] at hr
   obtain ⟨z,hzv,hzr⟩ := zeroA_ok (P := P) (t := t) rfl hbad σ
   have hrow := rowA_ok hzr hr
   refine ⟨(w.heap.size,0,z.cells.size),_,w.alloc (.cells z.cells t (0,0)),.cells z.cells t (0,0),?_,rfl,rfl,rfl,rfl,rfl,rfl,fun b σ' hs hb => ⟨.ptr _ _ w.heap.size 0 z.cells.size 0 hb rfl,row_core hsz (by rw [odd_half]; rfl) (fun _ => hrow.1.symm) (by rw [hrow.1]; exact Nat.le_refl _) (calm0 _) hrow.all hs hb⟩⟩
   simp [execOp,Instr.alloc,run_zeroValue hzv,newVar,newRow,newObj,Sem.run]
  ·cases ha
 ·rename_i t y
  split at ha
  ·rename_i n s hr
   simp only [Option.some.injEq,Prod.mk.injEq] at ha
   obtain ⟨rfl,rfl⟩ := ha
   have hrow := rowA_ok (hρ y) hr
   refine ⟨(w.heap.size,0,(ev y).cells.size),_,w.alloc (.cells (ev y).cells t (0,0)),.cells (ev y).cells t (0,0),?_,rfl,rfl,rfl,rfl,rfl,rfl,fun b σ' hs hb => ⟨.ptr _ _ w.heap.size 0 (ev y).cells.size 0 hb rfl,row_core hsz (by rw [odd_half]; rfl) (fun _ => hrow.1.symm) (by rw [hrow.1]; exact Nat.le_refl _) (calm0 _) hrow.all hs hb⟩⟩
   simp [execOp,Instr.box,newVar,newRow,newObj,Sem.run]
  ·cases ha
 ·rename_i t len ps
  split at ha
  ·rename_i e hu
   split at ha
   ·rename_i inf hinf
    cases hz0 : (Nat.beq len 0 && Nat.beq ps.size 0) with
    | true =>
     simp only [hz0,cond_true,Option.some.injEq,Prod.mk.injEq] at ha
     obtain ⟨rfl,rfl⟩ := ha
     simp only [Bool.and_eq_true] at hz0
     have e1 := beqn_iff.1 hz0.1
     have e2 : ps = #[] := Array.eq_empty_of_size_eq_zero (beqn_iff.1 hz0.2)
     subst e1; subst e2
     refine ⟨(w.heap.size,0,0),_,w.alloc (.cells #[] e (0,0)),.cells #[] e (0,0),?_,rfl,rfl,rfl,rfl,rfl,rfl,fun b σ' hs hb => ⟨.sl _ _ _ _ _ w.heap.size 0 0 0 0 hb (Nat.le_refl _) (Nat.le_refl _) (fun _ => rfl) (by simp),⟨w.heap.size,0,0,#[],(0,0),e,hb,K.get_alloc w _,rfl,⟨rfl,Nat.le_refl _,fun _ => rfl⟩,fun i hi => absurd hi (Nat.not_lt_zero i),fun _ => ⟨calm0 _,.inr hsz⟩,fun _ => (odd_half e).symm⟩⟩⟩
     simp only [execOp]
     refine run_v ?_
     simp only [Instr.buildSlice,Sem.run_bind,run_underlying' hu,Result.andThen_ok,run_sizeOf' hinf,Nat.zero_mul]
     simp [newRow,newObj,Sem.run,Instr.fill,range0]
    | false =>
    simp only [hz0,cond_false] at ha
    cases hb : (Nat.ble (len * inf.size) 16777216 && !(Nat.beq (len * inf.size) 0)) with
    | false => simp [hb] at ha
    | true =>
     simp only [hb,cond_true] at ha
     simp only [Bool.and_eq_true,Bool.not_eq_true'] at hb
     have e1 := ble_iff.1 hb.1
     have e2 : len * inf.size ≠ 0 := fun e => by rw [beqn_iff.2 e] at hb; simp at hb
     split at ha
     ·rename_i z hz
      split at ha
      ·rename_i u hf
       simp only [Option.some.injEq,Prod.mk.injEq] at ha
       obtain ⟨rfl,rfl⟩ := ha
       obtain ⟨zv,hzv,hz0,hzr⟩ := zrep_ok hz σ
       obtain ⟨q1,q2⟩ := parts_rel hρ ps
       have hrow := hzr ((Array.range (len * inf.size)).map (zv.cells[· % zv.cells.size]!)) (by simp) (fun i hi => by simp [hi])
       obtain ⟨cs,h6,h7⟩ := fillA_ok q1 q2 hrow hf
       refine ⟨(w.heap.size,0,cs.size),_,w.alloc (.cells cs e (0,0)),.cells cs e (0,0),?_,rfl,rfl,rfl,rfl,rfl,rfl,fun b σ' hs hb => ⟨.sl _ _ _ _ _ w.heap.size 0 cs.size 0 len hb (Nat.le_refl _) (Nat.le_refl _) (fun _ => rfl) (by rw [h7.1]; omega),row_core hsz (by rw [odd_half]; rfl) (fun _ => h7.1.symm) (by rw [h7.1]; exact Nat.le_refl _) (calm0 _) h7.all hs hb⟩⟩
       have e3 : ¬ (len * inf.size > 2 ^ 24) := by omega
       simp only [execOp]
       refine run_v ?_
       simp only [Instr.buildSlice,Sem.run_bind,run_underlying' hu,Result.andThen_ok,run_sizeOf' hinf,e3,if_false,e2,run_zeroValue hzv,Sem.run_pure,h6]
       simp [newRow,newObj,Sem.run]
      ·cases ha
     ·cases ha
   ·cases ha
  ·cases ha
 ·rename_i t
  simp only [Option.some.injEq,Prod.mk.injEq] at ha
  obtain ⟨rfl,rfl⟩ := ha
  refine ⟨(w.heap.size,0,0),_,w.alloc (.map #[] 0),.map #[] 0,?_,rfl,rfl,rfl,rfl,rfl,rfl,fun b σ' hs hb => ⟨.map _ w.heap.size 0 0 hb,⟨w.heap.size,0,0,#[],0,hb,K.get_alloc w _,⟨trivial,Go.MapKept.stamped_empty 0⟩,.inr hsz⟩⟩⟩
  simp [execOp,Instr.makeMap,newObj,Sem.run]
 ·rename_i t y
  split at ha
  ·rename_i k e kk m hu he
   simp only [Option.some.injEq,Prod.mk.injEq] at ha
   obtain ⟨rfl,rfl⟩ := ha
   have hy := hρ y
   rw [he] at hy
   generalize hyv : ev y = yv at hy
   cases hy
   refine ⟨(w.heap.size,0,0),_,w.alloc (.map #[] 0),.map #[] 0,?_,rfl,rfl,rfl,rfl,rfl,rfl,fun b σ' hs hb => ⟨.map _ w.heap.size 0 0 hb,⟨w.heap.size,0,0,#[],0,hb,K.get_alloc w _,⟨trivial,Go.MapKept.stamped_empty 0⟩,.inr hsz⟩⟩⟩
   simp [execOp,Instr.makeMap,newObj,Sem.run,hyv,run_underlying' hu,asInt,asIntOf]
  ·cases ha
 ·rename_i t l c
  split at ha
  ·rename_i e k1 n k2 m hu he1 he2
   split at ha
   ·rename_i inf hinf
    cases hz0 : (Nat.beq n 0 && Nat.beq m 0) with
    | true =>
     simp only [hz0,cond_true,Option.some.injEq,Prod.mk.injEq] at ha
     obtain ⟨rfl,rfl⟩ := ha
     simp only [Bool.and_eq_true] at hz0
     have e1 := beqn_iff.1 hz0.1
     have e2 := beqn_iff.1 hz0.2
     subst e1; subst e2
     have hl := hρ l
     have hc := hρ c
     rw [he1] at hl
     rw [he2] at hc
     generalize hlv : ev l = lv at hl
     generalize hcv : ev c = cv at hc
     cases hl; cases hc
     refine ⟨(w.heap.size,0,0),.slice (some ⟨w.heap.size,0,none⟩) 0 0,w.alloc (.cells #[] e (0,0)),.cells #[] e (0,0),?_,rfl,rfl,rfl,rfl,rfl,rfl,fun b σ' hs hb => ⟨.sl _ _ _ _ _ w.heap.size 0 0 0 0 hb (Nat.le_refl _) (Nat.le_refl _) (fun _ => rfl) (by simp),⟨w.heap.size,0,0,#[],(0,0),e,hb,K.get_alloc w _,rfl,⟨rfl,Nat.le_refl _,fun _ => rfl⟩,fun i hi => absurd hi (Nat.not_lt_zero i),fun _ => ⟨calm0 _,.inr hsz⟩,fun _ => (odd_half e).symm⟩⟩⟩
     have w1 : IntKind.i64.wrap (Int.ofNat 0) = Int.ofNat 0 := K.wrap_in (by simp [K.lo,K.hi])
     have c1 : ¬ ((Int.ofNat 0 : Int) < 0) := by simp
     have c2 : ¬ ((inf.bytes : Int) * (Int.ofNat 0 : Int) > 2 ^ 48) := by simp
     have c4 : ¬ ((Int.ofNat 0 : Int) > Int.ofNat 0) := by simp
     have hti : (typeInfo e).run P w = .ok inf w := by simp [typeInfo,program,Sem.run,hinf]
     have har : (askRoom ((Int.ofNat 0).toNat * inf.bytes)).run P w = .ok () w := by
      unfold askRoom
      split <;> rfl
     simp only [execOp]
     refine run_v ?_
     simp only [Instr.makeSlice,Sem.run_bind,run_underlying' hu,Result.andThen_ok,hlv,hcv,asInt,asIntOf,Sem.run_pure,hti,w1,c1,c2,c4,decide_false,Bool.or_self,Bool.false_eq_true,if_false,har,run_sizeOf' hinf]
     rw [show (Int.ofNat 0).toNat = 0 from rfl]
     simp only [Nat.zero_mul,if_true,Sem.run_bind,Result.andThen_ok,Sem.run_pure]
     simp [newRow,newObj,Sem.run,range0]
    | false =>
    simp only [hz0,cond_false] at ha
    cases hb : (Nat.ble n m && (Nat.ble (inf.bytes * m) 281474976710656 && (Nat.ble m 9223372036854775807 && !(Nat.beq (m * inf.size) 0)))) with
    | false => simp [hb] at ha
    | true =>
     simp only [hb,cond_true] at ha
     simp only [Bool.and_eq_true,Bool.not_eq_true'] at hb
     have e1 := ble_iff.1 hb.1
     have e2 := ble_iff.1 hb.2.1
     have e4 := ble_iff.1 hb.2.2.1
     have e3 : m * inf.size ≠ 0 := fun e => by rw [beqn_iff.2 e] at hb; simp at hb
     split at ha
     ·rename_i z hz
      simp only [Option.some.injEq,Prod.mk.injEq] at ha
      obtain ⟨rfl,rfl⟩ := ha
      have hl := hρ l
      have hc := hρ c
      rw [he1] at hl
      rw [he2] at hc
      generalize hlv : ev l = lv at hl
      generalize hcv : ev c = cv at hc
      cases hl; cases hc
      obtain ⟨zv,hzv,hz0,hzr⟩ := zrep_ok hz σ
      have hrow := hzr ((Array.range (m * inf.size)).map (zv.cells[· % zv.cells.size]!)) (by simp) (fun i hi => by simp [hi])
      generalize hcs : (Array.range (m * inf.size)).map (zv.cells[· % zv.cells.size]!) = cs at hrow
      refine ⟨(w.heap.size,0,cs.size),.slice (some ⟨w.heap.size,0,none⟩) n m,w.alloc (.cells cs e (0,0)),.cells cs e (0,0),?_,rfl,rfl,rfl,rfl,rfl,rfl,fun b σ' hs hb => ⟨.sl _ _ _ _ _ w.heap.size 0 cs.size 0 m hb e1 (Nat.le_refl _) (fun _ => rfl) (by rw [hrow.1]; omega),row_core hsz (by rw [odd_half]; rfl) (fun _ => hrow.1.symm) (by rw [hrow.1]; exact Nat.le_refl _) (calm0 _) hrow.all hs hb⟩⟩
      have w1 : IntKind.i64.wrap (Int.ofNat n) = Int.ofNat n := K.wrap_in (by simp [K.lo,K.hi]; omega)
      have w2 : IntKind.i64.wrap (Int.ofNat m) = Int.ofNat m := K.wrap_in (by simp [K.lo,K.hi]; omega)
      have c1 : ¬ ((Int.ofNat m : Int) < 0) := by simp
      have c2 : ¬ ((inf.bytes : Int) * (Int.ofNat m : Int) > 2 ^ 48) := by
       have : ((inf.bytes * m : Nat) : Int) ≤ 281474976710656 := by omega
       simp only [Int.natCast_mul] at this
       simp only [Int.ofNat_eq_natCast]; omega
      have c3 : ¬ ((Int.ofNat n : Int) < 0) := by simp
      have c4 : ¬ ((Int.ofNat n : Int) > Int.ofNat m) := by simp; omega
      have hti : (typeInfo e).run P w = .ok inf w := by simp [typeInfo,program,Sem.run,hinf]
      have har : (askRoom ((Int.ofNat m).toNat * inf.bytes)).run P w = .ok () w := by
       unfold askRoom
       split <;> rfl
      simp only [execOp]
      refine run_v ?_
      simp only [Instr.makeSlice,Sem.run_bind,run_underlying' hu,Result.andThen_ok,hlv,hcv,asInt,asIntOf,Sem.run_pure,hti,w1,w2,c1,c2,c3,c4,decide_false,Bool.or_self,Bool.false_eq_true,if_false,har,run_sizeOf' hinf]
      rw [show (Int.ofNat m).toNat = m from rfl,show (Int.ofNat n).toNat = n from rfl]
      simp only [e3,if_false,Sem.run_bind,run_zeroValue hzv,Result.andThen_ok,Sem.run_pure,hcs]
      simp [newRow,newObj,Sem.run]
     ·cases ha
   ·cases ha
  ·cases ha
 ·rename_i src dst y
  split at ha
  ·rename_i d0 e n s hu1 hu2 he
   split at ha
   ·rename_i hue
    simp only [Option.some.injEq,Prod.mk.injEq] at ha
    obtain ⟨rfl,rfl⟩ := ha
    have hy := hρ y
    rw [he] at hy
    generalize hyv : ev y = yv at hy
    cases hy with
    | str t _ _ hn hs =>
    subst hn; subst hs
    let cap := (Question.appendCap t.size 0 e).cut (w.tape w.drawn (.appendCap t.size 0 e))
    have hcap : t.size ≤ cap := Nat.le_add_right _ _
    let cs : Array Value := (t.data.map fun b => Value.int .u8 b.toNat) ++ Array.replicate (cap - t.size) (.int .u8 0)
    have hcs : cs.size = cap := by simp [cs]; show t.size + (cap - t.size) = cap; omega
    let w1 : World := { w with drawn := w.drawn + 1 }
    let w2 : World := (w1.alloc (.cells cs e (0,0))).freeze ⟨w.heap.size,cap,none⟩ 1
    have hw2 : w2.heap = w1.heap.push (.cells cs e (cap,cap + 1)) := by
     simp only [w2,World.freeze,World.alloc,Nat.one_ne_zero,if_false]
     apply Array.ext_getElem?
     intro k
     simp only [Array.getElem?_modify]
     by_cases hk : w.heap.size = k
     ·subst hk; simp [w1]
     ·simp only [hk,if_false]
      simp only [Array.getElem?_push,w1]
      rw [if_neg (fun h => hk h.symm),if_neg (fun h => hk h.symm)]
    have hget : ∀ i,i < t.size → cs[i]? = some (.int .u8 (Int.ofNat (sbyte t.size (val t.data.toList) i))) := fun i hi => by
     have hl : i < t.data.toList.length := by simpa using hi
     have hg := val_get hl
     have hlen : t.data.toList.length = t.size := by simp
     rw [hlen] at hg
     have hi' : i < t.data.size := hi
     simp only [cs]
     rw [Array.getElem?_append_left (by simpa using hi')]
     simp only [Array.getElem?_map,Array.getElem?_eq_getElem hi',Option.map_some,← hg]
     simp
    refine ⟨(w.heap.size,0,cs.size),.slice (some ⟨w.heap.size,0,none⟩) t.size cap,w2,.cells cs e (cap,cap + 1),?_,hw2,rfl,rfl,rfl,rfl,rfl,fun b σ' hs hb => ⟨.sl _ _ _ _ _ w.heap.size 0 cs.size 0 cap hb (Nat.le_refl _) hcap (fun _ => rfl) (by rw [hcs]; omega),?_⟩⟩
    ·have hstb : (Conv.stringToBytes e t).run P w = .ok (.slice (some ⟨w.heap.size,0,none⟩) t.size cap) w2 := by
      have hsh : (w1.alloc (.cells cs e (0,0))).shape? w.heap.size = some (e,cap) := by
       simp [World.shape?,World.alloc,w1,hcs]
      have hsh' : World.shape? { w1 with heap := w1.heap.push (.cells cs e (0,0)) } w.heap.size = some (e,cap) := hsh
      unfold Conv.stringToBytes
      simp only [Sem.run_bind]
      show _ = Result.ok (Value.slice (some ⟨w.heap.size,0,none⟩) t.size cap) w2
      simp only [choose,Sem.run,Question.forced,Bool.false_eq_true,if_false,Result.andThen_ok,newRow,newObj,Sem.run_bind,Sem.run_pure]
      simp only [markStringish,shape,Sem.run_bind,Sem.run]
      have hh : World.shape? { heap := w.heap.push (.cells ((t.data.map fun b => Value.int .u8 b.toNat) ++ Array.replicate ((Question.appendCap t.size 0 e).cut (w.tape w.drawn (.appendCap t.size 0 e)) - t.size) (.int .u8 0)) e),tape := w.tape,drawn := w.drawn + 1,os := w.os,output := w.output } w.heap.size = some (e,cap) := hsh'
      rw [hh]
      rfl
     simp only [execOp]
     refine run_v ?_
     simp only [convert,Sem.run_bind,run_underlying' hu1,run_underlying' hu2,Result.andThen_ok,hyv,run_underlying' hue,hstb]
    ·exact row_core (w := w1) hsz (by rw [even_half]; exact hw2) (fun h => by omega) (by rw [hcs]; exact hcap) (fun i hi => by
      rw [hcs] at hi
      simp; omega) (fun i hi => ⟨_,hget i hi,rfl,by rw [cget_strN hi]; exact .int _ _⟩) hs hb
   ·cases ha
  ·cases ha
 ·rename_i x y t t2
  split at ha
  ·rename_i kn hu2
   split at ha
   ·rename_i e m hu he1 he2
    split at ha
    ·rename_i inf zn zs hinf hzr
     cases hb : (Nat.beq zn inf.size && (Nat.ble (m * inf.bytes) 140737488355328 && (Nat.ble m 9223372036854775807 && !(Nat.beq (m * inf.size) 0)))) with
     | false => simp [hb] at ha
     | true =>
      simp only [hb,cond_true] at ha
      simp only [Bool.and_eq_true,Bool.not_eq_true'] at hb
      have e0 := beqn_iff.1 hb.1
      have e1 := ble_iff.1 hb.2.1
      have e2 := ble_iff.1 hb.2.2.1
      have e3 : m * inf.size ≠ 0 := fun e => by rw [beqn_iff.2 e] at hb; simp at hb
      split at ha
      ·rename_i z hz
       simp only [Option.some.injEq,Prod.mk.injEq] at ha
       obtain ⟨rfl,rfl⟩ := ha
       have hl := hρ x
       have hc := hρ y
       rw [he1] at hl
       rw [he2] at hc
       generalize hlv : ev x = lv at hl
       generalize hcv : ev y = cv at hc
       cases hl; cases hc
       obtain ⟨zv,hzv,hz0,hzr2⟩ := zrep_ok hz σ
       have hbad : zeroA P e ≠ .bad := fun hb => by rw [hb] at hzr; simp [rowA,scalarA] at hzr
       obtain ⟨z2,hz2,hz3⟩ := zeroA_ok (P := P) (t := e) rfl hbad σ
       have hzs := (rowA_ok hz3 hzr).1
       rw [hzv] at hz2
       simp only [Option.some.injEq] at hz2
       subst hz2
       rw [e0] at hzs
       have hzi : inf.zero = some zv := by rw [hinf] at hzv; exact hzv
       have hrow := hzr2 (Builtin.zeroCells zv.cells m) (by simp [Builtin.zeroCells,hzs]) (fun i hi => by simp [Builtin.zeroCells,hzs,hi])
       have hrun := run_append_zero (w := w) (oty := oty) hu hu2 hinf hzi e1 e2 e3
       have hcap : m ≤ (Question.appendCap m 0 e).cut (w.tape w.drawn (.appendCap m 0 e)) := Nat.le_add_right _ _
       generalize (Question.appendCap m 0 e).cut (w.tape w.drawn (.appendCap m 0 e)) = cap at hrun hcap
       generalize hcs : Builtin.zeroCells zv.cells m ++ Builtin.zeroCells zv.cells (cap - m) = cs at hrun
       have hsz2 : cs.size = cap * inf.size := by
        rw [← hcs,Array.size_append]
        simp only [Builtin.zeroCells,Array.size_map,Array.size_range,hzs]
        rw [← Nat.add_mul]; congr 1; omega
       have hle : m * inf.size ≤ cs.size := by rw [hsz2]; exact Nat.mul_le_mul_right _ hcap
       refine ⟨(w.heap.size,0,cs.size),.slice (some ⟨w.heap.size,0,none⟩) m cap,World.alloc { w with drawn := w.drawn + 1 } (.cells cs e (0,0)),.cells cs e (0,0),run_v (by simp [hlv,hcv]; exact hrun),rfl,rfl,rfl,rfl,rfl,rfl,fun b σ' hs hb => ⟨.sl _ _ _ _ _ w.heap.size 0 cs.size 0 cap hb (Nat.le_refl _) hcap (fun _ => rfl) (by rw [hsz2,Nat.zero_add]; exact Nat.le_refl _),row_core (w := { w with drawn := w.drawn + 1 }) hsz (by rw [even_half]; rfl) (fun h => by omega) hle (calm0 _) (fun i hi => ?_) hs hb⟩⟩
       obtain ⟨v,g1,g2,g3⟩ := hrow.all i hi
       refine ⟨v,?_,g2,g3⟩
       rw [← hcs,Array.getElem?_append_left (by rw [hrow.1]; exact hi)]; exact g1
      ·cases ha
    ·cases ha
   ·cases ha
  ·cases ha
 ·cases ha
theorem anew_ok {ρ : Operand → AV} {ev : Operand → Value} {o : Oper} {nv : NV} {x : AV} (H : HS σ h nx w0 B w) (hnx : nx < 2 ^ HD) (hρ : ∀ x,Rel σ (ρ x) (ev x)) (ha : anew P ρ o = some (nv,x)) :
  NewOk P σ h nx w0 B w (execOp ev o) nv x := by
 obtain ⟨p,v,w',ob,h1,h2,h3,h4,h5,h6,_,h7⟩ := anew_core (P := P) (w0 := w0) (B := B) H.size hρ ha
 obtain ⟨h8,h9⟩ := h7 nx (ext σ nx p) (H.sub_ext p) (by simp [ext])
 exact ⟨p,v,w',h1,h8,H.new hnx h6 h2 h3 h4 h5 h9⟩
end
end I
end Go.Proofs.YtinhinjpfmdfiaaGreatDoor
namespace Go.Proofs.YtinhinjpfmdfiaaGreatDoor
namespace I
open K (one aggB run_underlying' run_sizeOf' add_none run_v cell_cells)
set_option linter.unusedVariables false
def grow : Nat → Nat → AV → AV
 | 0,_,t => t
 | k + 1,d,t => grow k (d + 1) (.node t (unid d .undef))
theorem cget_grow : ∀ (k d : Nat) (t : AV) (i : Nat),i < 2 ^ d → cget (d + k) (grow k d t) i = cget d t i
 | 0,d,t,i,_ => rfl
 | k + 1,d,t,i,hi => by
  have hp : 2 ^ (d + 1) = 2 ^ d + 2 ^ d := by rw [Nat.pow_succ]; omega
  have ih := cget_grow k (d + 1) (.node t (unid d .undef)) i om
  rw [show d + (k + 1) = (d + 1) + k by omega]
  rw [grow,ih,cget_kids _ _ _ om,blt_iff.2 hi]; rfl
def catA (n : Nat) (s : AV) (m : Nat) (u : AV) : AV := cblit (lg (n + m)) (grow (lg (n + m) - lg n) (lg n) s) n m u
theorem lg_mono {n m : Nat} (h : n ≤ m) : lg n ≤ lg m := by
 unfold lg
 cases h1 : Nat.ble n 1 with
 | true => simp
 | false =>
  have hn : ¬ n ≤ 1 := fun hh => by rw [ble_iff.2 hh] at h1; cases h1
  have hm : Nat.ble m 1 = false := by
   cases h2 : Nat.ble m 1 with
   | false => rfl
   | true => have := ble_iff.1 h2; omega
  rw [hm]
  simp only [cond_false,Nat.add_le_add_iff_right]
  rw [Nat.le_log2 om]
  exact Nat.le_trans (Nat.log2_self_le om) om
theorem cget_catA {n m : Nat} {s u : AV} {i : Nat} (hi : i < n + m) : cget (lg (n + m)) (catA n s m u) i = if i < n then cget (lg n) s i else cget (lg m) u (i - n) := by
 have h1 := lg_le (n + m)
 have h2 := lg_le n
 unfold catA
 rw [cget_cblit om om]
 have hd : lg (n + m) = lg n + (lg (n + m) - lg n) := by have := lg_mono (show n ≤ n + m by omega); omega
 by_cases hin : i < n
 ·rw [if_neg om,if_pos hin]
  conv => lhs; rw [hd]
  rw [show lg n + (lg (n + m) - lg n) - lg n = lg (n + m) - lg n by omega]
  exact cget_grow _ _ _ _ om
 ·rw [if_pos om,if_neg hin]
section
variable {P : Program} {σ : Sg} {h : AV} {nx : Nat} {w0 w : World} {B : Fr}
theorem spl_get : ∀ (vs : List Value) (cs : Array Value) (off : Nat),off + vs.length ≤ cs.size → (K.spl cs off vs).size = cs.size ∧ ∀ j,(K.spl cs off vs)[j]? = if off ≤ j ∧ j < off + vs.length then vs[j - off]? else cs[j]?
 | [],cs,off,_ => ⟨rfl,fun j => by rw [if_neg (by simp)]; rfl⟩
 | v :: vs,cs,off,hl => by
  simp only [List.length_cons] at hl
  obtain ⟨h1,h2⟩ := spl_get vs (cs.setIfInBounds off v) (off + 1) (by simp; omega)
  refine ⟨by rw [K.spl,h1]; simp,fun j => ?_⟩
  rw [K.spl,h2 j]
  by_cases hjo : j = off
  ·subst hjo
   rw [if_neg om,if_pos (by simp),Array.getElem?_setIfInBounds]
   simp; omega
  ·by_cases hin : off + 1 ≤ j ∧ j < off + 1 + vs.length
   ·rw [if_pos hin,if_pos (by simp; omega),show j - off = (j - (off + 1)) + 1 by omega,List.getElem?_cons_succ]
   ·rw [if_neg hin,if_neg (by simp; omega),Array.getElem?_setIfInBounds,if_neg om]
theorem run_storeCells {b off : Nat} {t : TypeId} {fr : Nat × Nat} : ∀ (vs : List Value) (i : Nat) (cs : Array Value) (w : World),w.heap[b]? = some (.cells cs t fr) → Calm fr cs.size → off + i + vs.length ≤ cs.size → (∀ v ∈ vs,one v = true) →
  ∃ w',(storeCells ⟨b,off,none⟩ vs i).run P w = .ok () w' ∧ w'.heap = w.heap.setIfInBounds b (.cells (K.spl cs (off + i) vs) t fr) ∧ w'.os = w.os ∧ w'.tape = w.tape ∧ w'.output = w.output
 | [],i,cs,w,hb,_,_,_ => by
  refine ⟨w,rfl,?_,rfl,rfl,rfl⟩
  simp only [K.spl]
  apply Array.ext_getElem?
  intro k
  have hlt := lt_of_get hb
  by_cases hk : b = k
  ·subst hk; rw [hb]; simp [hlt]
  ·simp [hk]
 | v :: vs,i,cs,w,hb,hcm,hl,h1 => by
  have hi : off + i < cs.size := by simp at hl; omega
  have hc : w.cell? ⟨b,off + i,none⟩ = some (cs[off + i]) := by rw [cell_cells hb]; exact Array.getElem?_eq_getElem hi
  have hfz : w.frozen? ⟨b,off + i,none⟩ = false := by
   simp only [World.frozen?,hb]
   exact hcm _ hi
  have hv1 := h1 v (List.mem_cons_self ..)
  have hst : (store (Addr.add ⟨b,off,none⟩ i) v).run P w = .ok () (w.setCell ⟨b,off + i,none⟩ v) := by
   rw [add_none]
   unfold store
   cases v <;> simp [K.one] at hv1 <;> simp [Sem.run,hc,hfz]
  have hh := K.setCell_heap (off := off + i) (v := v) hb
  have hb' : (w.setCell ⟨b,off + i,none⟩ v).heap[b]? = some (.cells (cs.setIfInBounds (off + i) v) t fr) := by rw [hh]; simp [lt_of_get hb]
  obtain ⟨w',hr,hw,h2,h3,h4⟩ := run_storeCells (off := off) vs (i + 1) _ _ hb' (by simpa using hcm) (by simp at hl ⊢; omega) (fun x hx => h1 x (List.mem_cons_of_mem _ hx))
  refine ⟨w',?_,?_,h2,h3,h4⟩
  ·unfold storeCells
   simp only [Sem.run_bind,hst,Result.andThen_ok,hr]
  ·rw [hw,hh]
   simp only [K.spl]
   apply Array.ext_getElem?
   intro k
   by_cases hk : b = k
   ·subst hk; simp [lt_of_get hb,Nat.add_assoc]
   ·simp [hk]
theorem HS.write (H : HS σ h nx w0 B w) {b r base size ty n off m : Nat} {t s : AV} {vs : Array Value} (hs : σ b = some (r,base,size)) (hc : cget HD h b = .cells ty n false t) (hv : RowRel σ m s vs) (ho : off + m ≤ n) :
  ∃ w',(storeCells ⟨r,base + off,none⟩ vs.toList 0).run P w = .ok () w' ∧ HS σ (cput HD h b (.cells ty n false (cblit (lg n) t off m s))) nx w0 B w' := by
 obtain ⟨cs,fr,h1,h2,h3,h4,h5⟩ := H.cellsT hs hc (.inl rfl)
 obtain ⟨h6,h7⟩ := h5 rfl
 have hlen : vs.toList.length = m := by simpa using hv.1
 obtain ⟨w',hr,hw,g1,g2,g3⟩ := run_storeCells (P := P) (off := base + off) vs.toList 0 cs w h1 (by rw [h2]; exact h6) (by rw [hlen]; omega) (fun v hm => by
  obtain ⟨i,hi⟩ := List.mem_iff_getElem?.1 hm
  exact hv.2.1 i v (by simpa using hi))
 refine ⟨w',hr,?_⟩
 obtain ⟨e1,e2⟩ := spl_get vs.toList cs (base + off + 0) (by rw [hlen]; omega)
 have hn := lg_le n
 have hb' : w'.heap[r]? = some (.cells (K.spl cs (base + off + 0) vs.toList) (ty / 2) fr) := by rw [hw]; simp [lt_of_get h1]
 refine H.upd hs (by rw [hc]; rfl) h7 hw g1 g2 g3 ⟨r,base,size,_,fr,ty / 2,hs,hb',by rw [e1]; exact h2,h3,fun i hi => ?_,fun _ => ⟨h6,h7⟩,fun _ => rfl⟩
 rw [e2 (base + i),hlen,cget_cblit om om]
 by_cases hin : off ≤ i ∧ i < off + m
 ·rw [if_pos om,if_pos hin]
  have hlt : i - off < vs.size := by rw [hv.1]; omega
  have hg : vs[i - off]? = some vs[i - off] := Array.getElem?_eq_getElem hlt
  refine ⟨_,?_,hv.2.1 _ _ hg,hv.2.2 _ _ hg⟩
  rw [show base + i - (base + off + 0) = i - off by omega]
  simp
 ·rw [if_neg om,if_neg hin]
  exact h4 i hi
def lenA : AV → Option Nat
 | .sl _ _ n _ _ => some n
 | .nils => some 0
 | .str n _ => some n
 | _ => none
def firstA (h : AV) (sz k : Nat) (y : AV) : Option AV :=
 bif Nat.beq k 0 then some .undef else
 match y with
 | .sl b off len lb sz' => match cget HD h b with
  | .cells _ n _ t => bif Nat.beq sz sz' && (Nat.ble (off + k * sz) n && !(Nat.beq lb 0)) then some (crow (lg n) t off (k * sz)) else none
  | _ => none
 | .str m x => bif Nat.beq sz 1 && Nat.ble k m then some (strN k (x / 256 ^ (m - k))) else none
 | _ => none
theorem lenA_ok {y : AV} {yv : Value} {n : Nat} (hy : Rel σ y yv) (hl : lenA y = some n) : (Builtin.lenOf yv).run P w = .ok n w := by
 cases hy <;> simp only [lenA,Option.some.injEq,reduceCtorEq] at hl
 ·subst hl; rename_i hn _; subst hn; rfl
 ·subst hl; rfl
 ·subst hl; rfl
theorem firstA_ok {sz k n : Nat} {y u : AV} {yv : Value} (H : HS σ h nx w0 B w) (hy : Rel σ y yv) (hl : lenA y = some n) (hk : k ≤ n) (hf : firstA h sz k y = some u) :
  ∃ cs,(∀ w1 : World,w1.heap = w.heap → (Builtin.firstCells sz k yv).run P w1 = .ok cs w1) ∧ RowRel σ (k * sz) u cs := by
 unfold firstA at hf
 cases h0 : Nat.beq k 0 with
 | true =>
  have := beqn_iff.1 h0
  subst this
  simp only [h0,cond_true,Option.some.injEq] at hf
  subst hf
  refine ⟨#[],fun w1 hw1 => ?_,by simp,fun i v hv => by simp at hv,fun i v hv => by simp at hv⟩
  cases hy <;> simp only [lenA,reduceCtorEq] at hl
  ·simp [Builtin.firstCells]
  ·simp [Builtin.firstCells]
  ·simp [Builtin.firstCells,loadCells,loadCellsFrom]
 | false =>
  have hk0 : k ≠ 0 := fun e => by rw [beqn_iff.2 e] at h0; cases h0
  simp only [h0,cond_false] at hf
  split at hf
  ·rename_i b off len lb sz'
   cases hy with
   | sl _ _ _ _ _ r base size o cap hs q1 q2 q3 q4 =>
   split at hf
   ·rename_i ety m ro t hc
    cases hb : (Nat.beq sz sz' && (Nat.ble (off + k * sz) m && !(Nat.beq lb 0))) with
    | false => simp [hb] at hf
    | true =>
     simp only [hb,cond_true,Option.some.injEq] at hf
     simp only [Bool.and_eq_true,Bool.not_eq_true'] at hb
     have e1 := ble_iff.1 hb.2.1
     have e2 : lb ≠ 0 := fun e => by rw [beqn_iff.2 e] at hb; simp at hb
     have e3 := q3 e2
     obtain ⟨cs,fr,tt,h1,h2,h3,h4,h5⟩ := H.cells hs hc
     subst hf
     have hm := lg_le m
     have hex : ∀ i,i < k * sz → ∃ v,(cs.extract o (o + k * sz))[i]? = some v ∧ one v = true ∧ Rel σ (cget (lg (k * sz)) (crow (lg m) t off (k * sz)) i) v := fun i hi => by
      obtain ⟨v,g1,g2,g3⟩ := h4 (off + i) om
      refine ⟨v,?_,g2,?_⟩
      ·rw [Array.getElem?_extract,if_pos om,← g1]; congr 1; omega
      ·rw [cget_crow om hi]; exact g3
     have hsz : (cs.extract o (o + k * sz)).size = k * sz := by simp; omega
     refine ⟨cs.extract o (o + k * sz),fun w1 hw1 => ?_,hsz,fun i v hv => ?_,fun i v hv => ?_⟩
     ·have h1' : w1.heap[r]? = some (.cells cs tt fr) := by rw [hw1]; exact h1
      simp only [Builtin.firstCells]
      exact load_cells h1' om
     ·have hi : i < k * sz := by rw [← hsz]; exact (Array.getElem?_eq_some_iff.1 hv).1
      obtain ⟨u,g1,g2,g3⟩ := hex i hi
      rw [hv] at g1; simp only [Option.some.injEq] at g1; rw [g1]; exact g2
     ·have hi : i < k * sz := by rw [← hsz]; exact (Array.getElem?_eq_some_iff.1 hv).1
      obtain ⟨u,g1,g2,g3⟩ := hex i hi
      rw [hv] at g1; simp only [Option.some.injEq] at g1; rw [g1]; exact g3
   ·cases hf
  ·rename_i m x
   cases hy with
   | str t _ _ hn hx =>
   cases hb : (Nat.beq sz 1 && Nat.ble k m) with
   | false => simp [hb] at hf
   | true =>
    simp only [hb,cond_true,Option.some.injEq] at hf
    simp only [Bool.and_eq_true] at hb
    have e1 := beqn_iff.1 hb.1
    have e2 := ble_iff.1 hb.2
    subst e1; subst hn; subst hx; subst hf
    have hd : ((t.extract 0 k).data.map fun b => Value.int .u8 b.toNat).size = k := by
     simp [ByteArray.extract,ByteArray.copySlice]
     show min k t.size = k
     omega
    have hget : ∀ i,i < k → ((t.extract 0 k).data.map fun b => Value.int .u8 b.toNat)[i]? = some (.int .u8 (Int.ofNat (sbyte t.size (val t.data.toList) i))) := fun i hi => by
     have hl : i < t.data.toList.length := by simp; show i < t.size; omega
     have hg := val_get hl
     have hlen : t.data.toList.length = t.size := by simp
     rw [hlen] at hg
     have hi' : i < t.data.size := by show i < t.size; omega
     have hek : (t.extract 0 k).data[i]? = some t.data[i] := by
      simp only [ByteArray.extract,ByteArray.copySlice]
      simp
      rw [Array.getElem?_extract,if_pos om,Nat.zero_add]
      exact Array.getElem?_eq_getElem hi'
     simp only [Array.getElem?_map,hek,Option.map_some,← hg]
     simp
    refine ⟨(t.extract 0 k).data.map fun b => .int .u8 b.toNat,fun w1 hw1 => rfl,by rw [hd]; omega,fun i v hv => ?_,fun i v hv => ?_⟩
    ·have hi : i < k := by rw [← hd]; exact (Array.getElem?_eq_some_iff.1 hv).1
     rw [hget i hi] at hv; simp only [Option.some.injEq] at hv; rw [← hv]; rfl
    ·have hi : i < k := by rw [← hd]; exact (Array.getElem?_eq_some_iff.1 hv).1
     rw [hget i hi] at hv; simp only [Option.some.injEq] at hv; rw [← hv,Nat.mul_one,cget_strN hi,sbyte_take e2 hi]; exact .int _ _
  ·cases hf
end
end I
end Go.Proofs.YtinhinjpfmdfiaaGreatDoor
namespace Go.Proofs.YtinhinjpfmdfiaaGreatDoor
namespace I
open K (one aggB run_underlying' run_sizeOf' add_none run_v cell_cells)
set_option linter.unusedVariables false
def isI : TypeDesc → Bool
 | .int _ => true
 | _ => false
section
variable {P : Program} {σ : Sg} {h : AV} {nx : Nat} {w0 w : World} {B : Fr}
theorem run_append_in {t t2 e oty : TypeId} {d2 : TypeDesc} {inf : TypeInfo} {r o n cap m : Nat} {yv : Value} {new : Array Value} {w' : World} (hu : P.underlying t = some (.slice e)) (hu2 : P.underlying t2 = some d2) (hd : isI d2 = false) (hi : P.info? e = some inf)
  (hl : (Builtin.lenOf yv).run P w = .ok m w) (hf : (Builtin.firstCells inf.size m yv).run P w = .ok new w) (hle : n + m ≤ cap) (hs : (storeCells ⟨r,o + n * inf.size,none⟩ new.toList 0).run P w = .ok () w') :
  (Builtin.append_ #[t,t2] oty #[.slice (some ⟨r,o,none⟩) n cap,yv]).run P w = .ok (.slice (some ⟨r,o,none⟩) (n + m) cap) w' := by
 have hz : (match d2 with | .int _ => true | _ => false) = false := by cases d2 <;> first | rfl | simp [isI] at hd
 simp only [Builtin.append_,Sem.run_bind,run_underlying' hu,run_underlying' hu2,run_sizeOf' hi,Result.andThen_ok,Sem.run_pure,List.getElem?_toArray,List.getElem?_cons_zero,List.getElem?_cons_succ]
 cases d2 <;> first
  | (simp [isI] at hd; done)
  | (simp [hl,hf,hle,add_none,hs])
theorem run_append_nil0 {t t2 e oty : TypeId} {d2 : TypeDesc} {inf : TypeInfo} {yv : Value} {new : Array Value} (hu : P.underlying t = some (.slice e)) (hu2 : P.underlying t2 = some d2) (hd : isI d2 = false) (hi : P.info? e = some inf)
  (hl : (Builtin.lenOf yv).run P w = .ok 0 w) (hf : (Builtin.firstCells inf.size 0 yv).run P w = .ok new w) :
  (Builtin.append_ #[t,t2] oty #[.slice none 0 0,yv]).run P w = .ok (.slice none 0 0) w := by
 simp only [Builtin.append_,Sem.run_bind,run_underlying' hu,run_underlying' hu2,run_sizeOf' hi,Result.andThen_ok,Sem.run_pure,List.getElem?_toArray,List.getElem?_cons_zero,List.getElem?_cons_succ]
 cases d2 <;> first
  | (simp [isI] at hd; done)
  | (simp [hl,hf])
def drawnCap (w : World) (need old : Nat) (e : TypeId) : Nat := (Question.appendCap need old e).cut (w.tape w.drawn (.appendCap need old e))
theorem drawnCap_ge (w : World) (need old : Nat) (e : TypeId) : need ≤ drawnCap w need old e := Nat.le_add_right _ _
theorem run_append_out {t t2 e oty : TypeId} {d2 : TypeDesc} {inf : TypeInfo} {z : Value} {base : Option Addr} {n cap m : Nat} {yv : Value} {old new : Array Value} (hu : P.underlying t = some (.slice e)) (hu2 : P.underlying t2 = some d2) (hd : isI d2 = false) (hi : P.info? e = some inf) (hz : inf.zero = some z)
    (hl : (Builtin.lenOf yv).run P w = .ok m w) (hf : ∀ w1 : World,w1.heap = w.heap → (Builtin.firstCells inf.size m yv).run P w1 = .ok new w1) (ho : ∀ w1 : World,w1.heap = w.heap → (Builtin.firstCells inf.size n (.slice base n cap)).run P w1 = .ok old w1) (hgt : ¬ n + m ≤ cap)
    (h63 : n + m ≤ 9223372036854775807) (hfit : Builtin.nextslicecap (n + m) cap * inf.bytes ≤ 281474976710656) :
    (Builtin.append_ #[t,t2] oty #[.slice base n cap,yv]).run P w = .ok (.slice (some ⟨w.heap.size,0,none⟩) (n + m) (drawnCap w (n + m) cap e))
      ({ w with drawn := w.drawn + 1 }.alloc (.cells (old ++ new ++ Builtin.zeroCells z.cells (drawnCap w (n + m) cap e - (n + m))) e (0,0))) := by
  have hti : ∀ w : World,(typeInfo e).run P w = .ok inf w := fun w => by simp [typeInfo,program,Sem.run,hi]
  have hzv : ∀ w : World,(zeroValue e).run P w = .ok z w := fun w => run_zeroValue (by rw [hi]; exact hz)
  have har : ∀ (k : Nat) (w : World),(askRoom k).run P w = .ok () w := fun k w => by unfold askRoom; split <;> rfl
  have c1 : ¬ (((n + m : Nat) : Int) > IntKind.i64.max ∧ (false = true ∨ inf.bytes = 0)) := by
    rw [show IntKind.i64.max = 9223372036854775807 from rfl]; omega
  have c2 : ¬ (Builtin.nextslicecap (n + m) cap * inf.bytes > 2 ^ 48) := by omega
  simp only [Builtin.append_,Sem.run_bind,run_underlying' hu,run_underlying' hu2,run_sizeOf' hi,Result.andThen_ok,Sem.run_pure,List.getElem?_toArray,List.getElem?_cons_zero,List.getElem?_cons_succ]
  cases d2 <;> first
    | (simp [isI] at hd; done)
    | (simp only [Bool.false_eq_true,if_false,hl,Result.andThen_ok,hgt,hti,Sem.run_bind]
       have c1' : ¬ (((n + m : Nat) : Int) > IntKind.i64.max ∧ (False ∨ inf.bytes = 0)) := by simpa using c1
       simp only [c1',if_false,Sem.run_bind,Result.andThen_ok,hti]
       rw [if_neg c2]
       simp only [Sem.run_bind]
       simp only [choose,Sem.run,Question.forced,Bool.false_eq_true,if_false,Result.andThen_ok,hti,har]
       rw [ho { w with drawn := w.drawn + 1 } rfl]
       simp only [Result.andThen_ok,Bool.not_false,if_true]
       rw [hf { w with drawn := w.drawn + 1 } rfl]
       simp only [Result.andThen_ok,hzv,Sem.run_bind,newRow,newObj,Sem.run,Sem.run_pure]
       rfl)
end
end I
end Go.Proofs.YtinhinjpfmdfiaaGreatDoor
namespace Go.Proofs.YtinhinjpfmdfiaaGreatDoor
namespace I
open K (one aggB run_underlying' run_sizeOf' add_none run_v cell_cells)
set_option linter.unusedVariables false
def noRoom (ety off len m lb sz n : Nat) : Bool := Nat.beq (ety % 2) 1 && Nat.blt n (bif Nat.beq lb 0 then (len + m) * sz else off + (len + m) * sz)
def aappend (P : Program) (e t2 : TypeId) (h : AV) (nx : Nat) (x y : AV) : Option (AV × AV × Nat) :=
 match P.info? e,P.underlying t2,lenA y with
 | some inf,some d2,some m => bif isI d2 || (Nat.beq inf.size 0 || Nat.ble (2 ^ HD) nx) then none else
  match firstA h inf.size m y,rowA (zeroA P e) with
  | some u,some (zn,_) => bif Nat.beq zn inf.size then
   match x with
   | .nils => bif Nat.beq m 0 then some (.nils,h,nx) else
     bif Nat.ble (m * inf.bytes) 140737488355328 && Nat.ble m 9223372036854775807 then
      some (.sl nx 0 m m inf.size,cput HD h nx (.cells (2 * e) (m * inf.size) false u),nx + 1) else none
   | .sl b off len lb sz => bif Nat.beq m 0 then some (.sl b off len lb sz,h,nx) else match cget HD h b with
    | .cells ety n false t => bif Nat.beq sz inf.size && Nat.beq (ety / 2) e then
      bif Nat.ble (len + m) lb && !(Nat.beq lb 0) then
       bif Nat.ble (off + (len + m) * sz) n then
        some (.sl b off (len + m) lb sz,cput HD h b (.cells ety n false (cblit (lg n) t (off + len * sz) (m * sz) u)),nx) else none
      else bif noRoom ety off len m lb sz n then
       bif Nat.ble ((len + m) * inf.bytes) 140737488355328 && (Nat.ble (len + m) 9223372036854775807 && Nat.ble (off + len * sz) n) then
        some (.sl nx 0 (len + m) (len + m) sz,cput HD h nx (.cells (2 * e) ((len + m) * sz) false (catA (len * sz) (crow (lg n) t off (len * sz)) (m * sz) u)),nx + 1) else none
      else
       bif Nat.ble ((len + m) * inf.bytes) 140737488355328 && (Nat.ble (len + m) 9223372036854775807 && (Nat.ble (off + len * sz) n && (Nat.beq off 0 && !(Nat.beq lb 0)))) then
        some (.sl nx 0 (len + m) (len + m) sz,cput HD (cput HD h b .dead) nx (.cells (2 * e) ((len + m) * sz) false (catA (len * sz) (crow (lg n) t off (len * sz)) (m * sz) u)),nx + 1) else none
     else none
    | _ => none
   | _ => none
   else none
  | _,_ => none
 | _,_,_ => none
section
variable {P : Program} {σ : Sg} {h : AV} {nx : Nat} {w0 w : World} {B : Fr}
def SubX (nx : Nat) (σ σ' : Sg) : Prop := Sub σ σ' ∧ ∀ b,b < nx → σ' b = σ b
theorem SubX.refl (nx : Nat) (σ : Sg) : SubX nx σ σ := ⟨fun _ _ h => h,fun _ _ => rfl⟩
theorem SubX.trans {nx nx' : Nat} {σ σ' σ'' : Sg} (h : SubX nx σ σ') (h' : SubX nx' σ' σ'') (hle : nx ≤ nx') : SubX nx σ σ'' :=
 ⟨fun b p hb => h'.1 b p (h.1 b p hb),fun b hb => (h'.2 b om).trans (h.2 b hb)⟩
theorem HS.subX (H : HS σ h nx w0 B w) (p : Pl) : SubX nx σ (ext σ nx p) := ⟨H.sub_ext p,fun b hb => by unfold ext; rw [if_neg (by omega)]⟩
def Dk (nx : Nat) (h h' : AV) : Prop := ∀ b,b < nx → live (cget HD h' b) = true → live (cget HD h b) = true
theorem Dk.refl (nx : Nat) (h : AV) : Dk nx h h := fun _ _ hl => hl
theorem Dk.trans {nx nx' : Nat} {h h1 h2 : AV} (a : Dk nx h h1) (b : Dk nx' h1 h2) (hle : nx ≤ nx') : Dk nx h h2 := fun c hc hl => a c hc (b c (by omega) hl)
theorem HS.dkPut (H : HS σ h nx w0 B w) {b : Nat} {x : AV} {p : Pl} (hb : σ b = some p) (hl : live (cget HD h b) = true) : Dk nx h (cput HD h b x) := fun c hc hlc => by
 have := H.nxle
 rw [cget_cput HD h b c x (H.lt hb) om] at hlc
 by_cases hcb : c = b
 ·rw [hcb]; exact hl
 ·rw [if_neg hcb] at hlc; exact hlc
theorem dkNew {x : AV} (hnx : nx < 2 ^ HD) : Dk nx h (cput HD h nx x) := fun c hc hlc => by
 rw [cget_cput HD h nx c x hnx om,if_neg om] at hlc; exact hlc
theorem HS.dkKill (H : HS σ h nx w0 B w) {b : Nat} {p : Pl} (hb : σ b = some p) : Dk nx h (cput HD h b .dead) := fun c hc hlc => by
 have := H.nxle
 rw [cget_cput HD h b c .dead (H.lt hb) om] at hlc
 by_cases hcb : c = b
 ·rw [if_pos hcb] at hlc; simp [live] at hlc
 ·rw [if_neg hcb] at hlc; exact hlc
def EffOk (P : Program) (σ : Sg) (h : AV) (nx : Nat) (w0 : World) (B : Fr) (w : World) (s : Sem Value) (a h' : AV) (nx' : Nat) : Prop :=
 ∃ σ' v w',SubX nx σ σ' ∧ Dk nx h h' ∧ nx ≤ nx' ∧ s.run P w = .ok v w' ∧ Rel σ' a v ∧ HS σ' h' nx' w0 B w'
theorem Sub.refl (σ : Sg) : Sub σ σ := fun _ _ h => h
theorem Sub.trans {σ σ' σ'' : Sg} (h : Sub σ σ') (h' : Sub σ' σ'') : Sub σ σ'' := fun b p hb => h' b p (h b p hb)
theorem RowRel.cat {n m : Nat} {s u : AV} {cs ds rest : Array Value} (h1 : RowRel σ n s cs) (h2 : RowRel σ m u ds) : ∀ i,i < n + m → ∃ v,(cs ++ ds ++ rest)[i]? = some v ∧ one v = true ∧ Rel σ (cget (lg (n + m)) (catA n s m u) i) v := by
 intro i hi
 rw [cget_catA hi]
 by_cases hin : i < n
 ·rw [if_pos hin]
  have hlt : i < cs.size := by rw [h1.1]; exact hin
  have hg : cs[i]? = some cs[i] := Array.getElem?_eq_getElem hlt
  refine ⟨cs[i],?_,h1.2.1 i _ hg,h1.2.2 i _ hg⟩
  rw [Array.append_assoc,Array.getElem?_append_left hlt]; exact hg
 ·rw [if_neg hin]
  have hlt : i - n < ds.size := by rw [h2.1]; omega
  have hg : ds[i - n]? = some ds[i - n] := Array.getElem?_eq_getElem hlt
  refine ⟨ds[i - n],?_,h2.2.1 _ _ hg,h2.2.2 _ _ hg⟩
  rw [Array.append_assoc,Array.getElem?_append_right (by rw [h1.1]; omega),h1.1,Array.getElem?_append_left hlt]; exact hg
theorem zeroCells_size (z : Array Value) (n : Nat) : (Builtin.zeroCells z n).size = n * z.size := by simp [Builtin.zeroCells]
set_option maxHeartbeats 1000000 in
theorem aappend_ok {t t2 e oty : TypeId} {x y a h' : AV} {nx' : Nat} {xv yv : Value} (H : HS σ h nx w0 B w) (hu : P.underlying t = some (.slice e)) (hx : Rel σ x xv) (hy : Rel σ y yv) (ha : aappend P e t2 h nx x y = some (a,h',nx')) :
  EffOk P σ h nx w0 B w (Builtin.append_ #[t,t2] oty #[xv,yv]) a h' nx' := by
 unfold aappend at ha
 split at ha
 ·rename_i inf d2 m hinf hu2 hlen
  cases hc0 : (isI d2 || (Nat.beq inf.size 0 || Nat.ble (2 ^ HD) nx)) with
  | true => simp [hc0] at ha
  | false =>
   simp only [hc0,cond_false] at ha
   simp only [Bool.or_eq_false_iff] at hc0
   obtain ⟨hd2,hsz0',hnx'⟩ := hc0
   have hsz0 : inf.size ≠ 0 := fun e => by rw [beqn_iff.2 e] at hsz0'; cases hsz0'
   have hnx : nx < 2 ^ HD := by
    apply Nat.lt_of_not_le
    intro hh; rw [ble_iff.2 hh] at hnx'; cases hnx'
   split at ha
   ·rename_i u zn zs hfirst hzero
    cases hzn : Nat.beq zn inf.size with
    | false => simp [hzn] at ha
    | true =>
    simp only [hzn,cond_true] at ha
    have hzn' := beqn_iff.1 hzn
    have hbad : zeroA P e ≠ .bad := fun hb => by rw [hb] at hzero; simp [rowA,scalarA] at hzero
    obtain ⟨z,hzv,hzr⟩ := zeroA_ok (P := P) (t := e) rfl hbad σ
    have hzrow := rowA_ok hzr hzero
    have hz : inf.zero = some z := by rw [hinf] at hzv; exact hzv
    have hl := lenA_ok (P := P) (w := w) hy hlen
    obtain ⟨new,hf,hnew⟩ := firstA_ok (P := P) H hy hlen (Nat.le_refl m) hfirst
    split at ha
    ·-- onto nil
     cases hx
     cases hm : Nat.beq m 0 with
     | true =>
      have := beqn_iff.1 hm
      subst this
      simp only [hm,cond_true,Option.some.injEq,Prod.mk.injEq] at ha
      obtain ⟨rfl,rfl,rfl⟩ := ha
      exact ⟨σ,_,w,SubX.refl nx σ,Dk.refl nx h,Nat.le_refl _,run_append_nil0 hu hu2 hd2 hinf hl (hf w rfl),.nils,H⟩
     | false =>
      have hm0 : m ≠ 0 := fun e => by rw [beqn_iff.2 e] at hm; cases hm
      simp only [hm,cond_false] at ha
      cases hb : (Nat.ble (m * inf.bytes) 140737488355328 && Nat.ble m 9223372036854775807) with
      | false => simp [hb] at ha
      | true =>
       simp only [hb,cond_true,Option.some.injEq,Prod.mk.injEq] at ha
       obtain ⟨rfl,rfl,rfl⟩ := ha
       simp only [Bool.and_eq_true] at hb
       have e1 := ble_iff.1 hb.1
       have e2 := ble_iff.1 hb.2
       have hrun := run_append_out (P := P) (w := w) (oty := oty) (base := none) (n := 0) (cap := 0) (old := #[]) hu hu2 hd2 hinf hz hl hf (fun w1 _ => rfl) om om (growslice_fits om (by rw [Nat.zero_add]; exact e1))
       have hge := drawnCap_ge w (0 + m) 0 e
       generalize drawnCap w (0 + m) 0 e = cp at hrun hge
       rw [Nat.zero_add] at hrun hge
       have hcs : (#[] ++ new ++ Builtin.zeroCells z.cells (cp - m)).size = cp * inf.size := by
        simp only [Array.size_append,zeroCells_size,hzrow.1,hzn',hnew.1]
        simp only [List.size_toArray,List.length_nil,Nat.zero_add]
        rw [← Nat.add_mul]; congr 1; omega
       refine ⟨ext σ nx (w.heap.size,0,(#[] ++ new ++ Builtin.zeroCells z.cells (cp - m)).size),_,_,H.subX _,dkNew hnx,Nat.le_succ _,hrun,?_,?_⟩
       ·refine .sl _ _ _ _ _ w.heap.size 0 (#[] ++ new ++ Builtin.zeroCells z.cells (cp - m)).size 0 _ (by simp [ext]) (Nat.le_refl _) hge (fun _ => rfl) ?_
        rw [hcs,Nat.zero_add]; exact Nat.le_refl _
       ·refine H.drew.row hnx (by rw [even_half]; rfl) (fun h => by omega) rfl rfl rfl ?_ (calm0 _) (fun i hi => ?_)
        ·rw [hcs]
         exact Nat.mul_le_mul_right _ hge
        ·obtain ⟨v,g1,g2,g3⟩ := hnew.all i hi
         refine ⟨v,?_,g2,g3⟩
         rw [Array.empty_append,Array.getElem?_append_left (by rw [hnew.1]; exact hi)]; exact g1
    ·rename_i b off len lb sz
     cases hx with
     | sl _ _ _ _ _ r base size o cap hs q1 q2 q3 q4 =>
     cases hm : Nat.beq m 0 with
     | true =>
      have := beqn_iff.1 hm
      subst this
      simp only [hm,cond_true,Option.some.injEq,Prod.mk.injEq] at ha
      obtain ⟨rfl,rfl,rfl⟩ := ha
      have hn0 : new = #[] := Array.eq_empty_of_size_eq_zero (by rw [hnew.1,Nat.zero_mul])
      subst hn0
      exact ⟨σ,_,w,SubX.refl nx σ,Dk.refl nx h,Nat.le_refl _,run_append_in hu hu2 hd2 hinf hl (hf w rfl) om rfl,.sl _ _ _ _ _ r base size o cap hs q1 q2 q3 q4,H⟩
     | false =>
     simp only [hm,cond_false] at ha
     split at ha
     ·rename_i ety n t hc
      cases hb0 : (Nat.beq sz inf.size && Nat.beq (ety / 2) e) with
      | false => simp [hb0] at ha
      | true =>
       simp only [hb0,cond_true] at ha
       simp only [Bool.and_eq_true] at hb0
       have e0 := beqn_iff.1 hb0.1
       have e0' := beqn_iff.1 hb0.2
       subst e0; subst e0'
       cases hb1 : (Nat.ble (len + m) lb && !(Nat.beq lb 0)) with
       | true =>
        simp only [hb1,cond_true] at ha
        simp only [Bool.and_eq_true,Bool.not_eq_true'] at hb1
        have e1 := ble_iff.1 hb1.1
        have e2 : lb ≠ 0 := fun e => by rw [beqn_iff.2 e] at hb1; simp at hb1
        have e3 := q3 e2
        cases hb2 : Nat.ble (off + (len + m) * inf.size) n with
        | false => simp [hb2] at ha
        | true =>
         simp only [hb2,cond_true,Option.some.injEq,Prod.mk.injEq] at ha
         obtain ⟨rfl,rfl,rfl⟩ := ha
         have e4 := ble_iff.1 hb2
         have e5 : off + len * inf.size + m * inf.size ≤ n := by rw [Nat.add_mul] at e4; omega
         obtain ⟨w',g1,g2⟩ := H.write (P := P) hs hc hnew e5
         have g1' : (storeCells ⟨r,o + len * inf.size,none⟩ new.toList 0).run P w = .ok () w' := by
          rw [e3,Nat.add_assoc]; exact g1
         refine ⟨σ,_,w',SubX.refl nx σ,H.dkPut hs (by rw [hc]; rfl),Nat.le_refl _,run_append_in hu hu2 hd2 hinf hl (hf w rfl) om g1',.sl _ _ _ _ _ r base size o cap hs e1 q2 q3 q4,g2⟩
       | false =>
        simp only [hb1,cond_false] at ha
        cases hnr : noRoom ety off len m lb inf.size n with
        | true =>
         simp only [hnr,cond_true] at ha
         cases hb2 : (Nat.ble ((len + m) * inf.bytes) 140737488355328 && (Nat.ble (len + m) 9223372036854775807 && Nat.ble (off + len * inf.size) n)) with
         | false => simp [hb2] at ha
         | true =>
         simp only [hb2,cond_true,Option.some.injEq,Prod.mk.injEq] at ha
         obtain ⟨rfl,rfl,rfl⟩ := ha
         simp only [Bool.and_eq_true] at hb2
         have e1 := ble_iff.1 hb2.1
         have e2 := ble_iff.1 hb2.2.1
         have e4 := ble_iff.1 hb2.2.2
         obtain ⟨cs,fr,h1,h2,h3,h4,h5⟩ := H.cellsT hs hc (.inl rfl)
         obtain ⟨h6,h7⟩ := h5 rfl
         have hn := lg_le n
         have hmul : len * inf.size ≤ cap * inf.size := Nat.mul_le_mul_right _ om
         have hroom : ¬ len + m ≤ cap := fun hle => by
          have hx : (len + m) * inf.size ≤ cap * inf.size := Nat.mul_le_mul_right _ hle
          unfold noRoom at hnr
          simp only [Bool.and_eq_true] at hnr
          have k1 := h3.2.2 (beqn_iff.1 hnr.1)
          have k2 := blt_iff.1 hnr.2
          cases hl0 : Nat.beq lb 0 with
          | true => simp only [hl0,cond_true] at k2; omega
          | false =>
           simp only [hl0,cond_false] at k2
           have k3 := q3 (fun e => by rw [beqn_iff.2 e] at hl0; cases hl0)
           omega
         -- the old cells
         have hold : RowRel σ (len * inf.size) (crow (lg n) t off (len * inf.size)) (cs.extract o (o + len * inf.size)) := by
          have hsz : (cs.extract o (o + len * inf.size)).size = len * inf.size := by simp; omega
          by_cases hl0 : lb = 0
          ·have : len = 0 := by omega
           subst this
           refine ⟨by simpa using hsz,fun i v hv => ?_,fun i v hv => ?_⟩ <;>
           ·have := (Array.getElem?_eq_some_iff.1 hv).1
            rw [hsz] at this; omega
          ·have e3 := q3 hl0
           have key : ∀ i v,(cs.extract o (o + len * inf.size))[i]? = some v → one v = true ∧ Rel σ (cget (lg (len * inf.size)) (crow (lg n) t off (len * inf.size)) i) v := fun i v hv => by
            have hi : i < len * inf.size := by rw [← hsz]; exact (Array.getElem?_eq_some_iff.1 hv).1
            obtain ⟨u',g1,g2,g3⟩ := h4 (off + i) om
            rw [Array.getElem?_extract,if_pos om,show o + i = base + (off + i) by omega,g1] at hv
            simp only [Option.some.injEq] at hv
            subst hv
            rw [cget_crow om hi]
            exact ⟨g2,g3⟩
           exact ⟨hsz,fun i v hv => (key i v hv).1,fun i v hv => (key i v hv).2⟩
         have hfold : ∀ w1 : World,w1.heap = w.heap → (Builtin.firstCells inf.size len (.slice (some ⟨r,o,none⟩) len cap)).run P w1 = .ok (cs.extract o (o + len * inf.size)) w1 := fun w1 hw1 => by
          simp only [Builtin.firstCells]
          exact load_cells (by rw [hw1]; exact h1) om
         have houtside := hroom
         have hrun := run_append_out (P := P) (w := w) (oty := oty) (base := some ⟨r,o,none⟩) (n := len) (cap := cap) hu hu2 hd2 hinf hz hl hf hfold hroom e2 (growslice_fits om e1)
         have hge := drawnCap_ge w (len + m) cap (ety / 2)
         let cs' := cs.extract o (o + len * inf.size) ++ new ++ Builtin.zeroCells z.cells (drawnCap w (len + m) cap (ety / 2) - (len + m))
         have hcs : cs'.size = drawnCap w (len + m) cap (ety / 2) * inf.size := by
          simp only [cs',Array.size_append,zeroCells_size,hzrow.1,hzn',hnew.1,hold.1]
          rw [← Nat.add_mul,← Nat.add_mul]; congr 1; omega
         refine ⟨ext σ nx (w.heap.size,0,cs'.size),_,_,H.subX _,dkNew hnx,Nat.le_succ _,hrun,.sl _ _ _ _ _ w.heap.size 0 cs'.size 0 _ (by simp [ext]) (Nat.le_refl _) hge (fun _ => rfl) (by rw [hcs]; omega),?_⟩
         refine H.drew.row hnx (by rw [even_half]; rfl) (fun h => by omega) rfl rfl rfl ?_ (calm0 _) (fun i hi => ?_)
         ·show (len + m) * inf.size ≤ cs'.size
          rw [hcs]
          exact Nat.mul_le_mul_right _ hge
         ·have hadd : len * inf.size + m * inf.size = (len + m) * inf.size := by rw [Nat.add_mul]
          rw [← hadd] at hi ⊢
          exact hold.cat hnew i hi
        | false =>
        simp only [hnr,cond_false] at ha
        cases hb2 : (Nat.ble ((len + m) * inf.bytes) 140737488355328 && (Nat.ble (len + m) 9223372036854775807 && (Nat.ble (off + len * inf.size) n && (Nat.beq off 0 && !(Nat.beq lb 0))))) with
        | false => simp [hb2] at ha
        | true =>
         simp only [hb2,cond_true,Option.some.injEq,Prod.mk.injEq] at ha
         obtain ⟨rfl,rfl,rfl⟩ := ha
         simp only [Bool.and_eq_true,Bool.not_eq_true'] at hb2
         have e1 := ble_iff.1 hb2.1
         have e2 := ble_iff.1 hb2.2.1
         have e4 := ble_iff.1 hb2.2.2.1
         have e6 := beqn_iff.1 hb2.2.2.2.1
         have e7 : lb ≠ 0 := fun e => by rw [beqn_iff.2 e] at hb2; simp at hb2
         have e8 := q3 e7
         obtain ⟨cs,fr,h1,h2,h3,h4,h5⟩ := H.cellsT hs hc (.inl rfl)
         obtain ⟨h6,h7⟩ := h5 rfl
         have hn := lg_le n
         have hmul : len * inf.size ≤ cap * inf.size := Nat.mul_le_mul_right _ om
         -- the old cells
         have hold : RowRel σ (len * inf.size) (crow (lg n) t off (len * inf.size)) (cs.extract o (o + len * inf.size)) := by
          have hsz : (cs.extract o (o + len * inf.size)).size = len * inf.size := by simp; omega
          by_cases hl0 : lb = 0
          ·have : len = 0 := by omega
           subst this
           refine ⟨by simpa using hsz,fun i v hv => ?_,fun i v hv => ?_⟩ <;>
           ·have := (Array.getElem?_eq_some_iff.1 hv).1
            rw [hsz] at this; omega
          ·have e3 := q3 hl0
           have key : ∀ i v,(cs.extract o (o + len * inf.size))[i]? = some v → one v = true ∧ Rel σ (cget (lg (len * inf.size)) (crow (lg n) t off (len * inf.size)) i) v := fun i v hv => by
            have hi : i < len * inf.size := by rw [← hsz]; exact (Array.getElem?_eq_some_iff.1 hv).1
            obtain ⟨u',g1,g2,g3⟩ := h4 (off + i) om
            rw [Array.getElem?_extract,if_pos om,show o + i = base + (off + i) by omega,g1] at hv
            simp only [Option.some.injEq] at hv
            subst hv
            rw [cget_crow om hi]
            exact ⟨g2,g3⟩
           exact ⟨hsz,fun i v hv => (key i v hv).1,fun i v hv => (key i v hv).2⟩
         have hfold : ∀ w1 : World,w1.heap = w.heap → (Builtin.firstCells inf.size len (.slice (some ⟨r,o,none⟩) len cap)).run P w1 = .ok (cs.extract o (o + len * inf.size)) w1 := fun w1 hw1 => by
          simp only [Builtin.firstCells]
          exact load_cells (by rw [hw1]; exact h1) om
         by_cases hroom : len + m ≤ cap
         ·-- in place
          have hmul2 : (len + m) * inf.size ≤ cap * inf.size := Nat.mul_le_mul_right _ hroom
          have hadd : len * inf.size + m * inf.size = (len + m) * inf.size := by rw [Nat.add_mul]
          have hnl : new.toList.length = m * inf.size := by simpa using hnew.1
          obtain ⟨w',hr,hw,g1,g2,g3⟩ := run_storeCells (P := P) (off := o + len * inf.size) new.toList 0 cs w h1 (by rw [h2]; exact h6) (by rw [hnl]; omega) (fun v hm => by
           obtain ⟨i,hi⟩ := List.mem_iff_getElem?.1 hm
           exact hnew.2.1 i v (by simpa using hi))
          have hrun := run_append_in (P := P) (w := w) (oty := oty) (o := o) hu hu2 hd2 hinf hl (hf w rfl) hroom hr
          obtain ⟨s1,s2⟩ := spl_get new.toList cs (o + len * inf.size + 0) (by rw [hnl]; omega)
          have hb' : w'.heap[r]? = some (.cells (K.spl cs (o + len * inf.size + 0) new.toList) (ety / 2) fr) := by rw [hw]; simp [lt_of_get h1]
          have hsub := H.sub_ext (r,o,size)
          refine ⟨ext σ nx (r,o,size),_,w',H.subX _,(H.dkKill hs).trans (dkNew hnx) (Nat.le_refl _),Nat.le_succ _,hrun,.sl _ _ _ _ _ r o size o cap (by simp [ext]) (Nat.le_refl _) hroom (fun _ => rfl) q4,?_⟩
          refine H.rename hnx (q := (r,o,size)) hs (by rw [hc]; rfl) h7 rfl hw g1 g2 g3 ⟨r,o,size,_,fr,ety / 2,by simp [ext],hb',by rw [s1]; exact h2,⟨by omega,by omega,fun h => by omega⟩,fun i hi => ?_,fun _ => ⟨h6,h7⟩,fun _ => (even_half _).symm⟩
          rw [← hadd] at hi ⊢
          rw [cget_catA hi,s2 (o + i),hnl]
          by_cases hin : i < len * inf.size
          ·rw [if_pos hin,if_neg om]
           obtain ⟨v,f1,f2,f3⟩ := hold.all i hin
           refine ⟨v,?_,f2,f3.mono hsub⟩
           rw [Array.getElem?_extract] at f1
           split at f1
           ·exact f1
           ·cases f1
          ·rw [if_neg hin,if_pos om]
           obtain ⟨v,f1,f2,f3⟩ := hnew.all (i - len * inf.size) om
           refine ⟨v,?_,f2,f3.mono hsub⟩
           rw [show o + i - (o + len * inf.size + 0) = i - len * inf.size by omega]
           simpa using f1
         ·-- elsewhere
          have hrun := run_append_out (P := P) (w := w) (oty := oty) (base := some ⟨r,o,none⟩) (n := len) (cap := cap) hu hu2 hd2 hinf hz hl hf hfold hroom e2 (growslice_fits om e1)
          have hge := drawnCap_ge w (len + m) cap (ety / 2)
          let cs' := cs.extract o (o + len * inf.size) ++ new ++ Builtin.zeroCells z.cells (drawnCap w (len + m) cap (ety / 2) - (len + m))
          have hcs : cs'.size = drawnCap w (len + m) cap (ety / 2) * inf.size := by
           simp only [cs',Array.size_append,zeroCells_size,hzrow.1,hzn',hnew.1,hold.1]
           rw [← Nat.add_mul,← Nat.add_mul]; congr 1; omega
          have HK := H.kill (H.lt hs)
          refine ⟨ext σ nx (w.heap.size,0,cs'.size),_,_,H.subX _,(H.dkKill hs).trans (dkNew hnx) (Nat.le_refl _),Nat.le_succ _,hrun,.sl _ _ _ _ _ w.heap.size 0 cs'.size 0 _ (by simp [ext]) (Nat.le_refl _) hge (fun _ => rfl) (by rw [hcs]; omega),?_⟩
          refine HK.drew.row hnx (by rw [even_half]; rfl) (fun h => by omega) rfl rfl rfl ?_ (calm0 _) (fun i hi => ?_)
          ·show (len + m) * inf.size ≤ cs'.size
           rw [hcs]
           exact Nat.mul_le_mul_right _ hge
          ·have hadd : len * inf.size + m * inf.size = (len + m) * inf.size := by rw [Nat.add_mul]
           rw [← hadd] at hi ⊢
           exact hold.cat hnew i hi
     ·cases ha
    ·cases ha
   ·cases ha
 ·cases ha
end
end I
end Go.Proofs.YtinhinjpfmdfiaaGreatDoor
namespace Go.Proofs.YtinhinjpfmdfiaaGreatDoor
namespace I
open K (one aggB run_underlying' run_sizeOf' add_none run_v cell_cells)
set_option linter.unusedVariables false
def acopy (P : Program) (e : TypeId) (h : AV) (x y : AV) : Option (AV × AV) :=
 match P.info? e,lenA y with
 | some inf,some ny => match x with
  | .nils => match firstA h inf.size 0 y with
   | some _ => some (.int .i64 0,h)
   | none => none
  | .sl b off len lb sz =>
   let k := bif Nat.ble ny len then ny else len
   match firstA h inf.size k y,cget HD h b with
   | some u,.cells ety n false t => bif Nat.beq sz inf.size && (Nat.ble (off + k * sz) n && !(Nat.beq lb 0)) then
     some (.int .i64 (.ofNat k),cput HD h b (.cells ety n false (cblit (lg n) t off (k * sz) u))) else none
   | _,_ => none
  | _ => none
 | _,_ => none
def amapUpd (P : Program) (h : AV) (nx : Nat) (t : TypeId) (m k x : AV) : Option (AV × AV × Nat) :=
 match P.underlying t,m with
 | some (.map kt _),.map b => match P.underlying kt,cget HD h b with
  | some kd,.mp l => bif fitX P kt kd k then
    match findX P kt kd k l with
    | some (some (i,_)) => some (.undef,cput HD h b (.mp (setI k x i l)),nx)
    | some none => some (.undef,cput HD h b (.mp (pushI k x l)),nx)
    | none => none
   else none
  | _,_ => none
 | _,_ => none
def cntF (c : Nat) : Nat → Nat → Nat → Nat
 | 0,_,a => a
 | n + 1,x,a => cntF c n (x / 256) (bif Nat.beq (x % 256) c then a + 1 else a)
def acountS (h : AV) (nx : Nat) (x y : AV) : Option (AV × AV × Nat) :=
 match x,y with
 | .str n s,.int .u8 (.ofNat c) => bif Nat.blt c 256 then some (.int .i64 (.ofNat (cntF c n s 0)),h,nx) else none
 | _,_ => none
def byteRow (h : AV) : AV → Option (Nat × Nat)
 | .sl b off len lb _ => match cget HD h b with
  | .cells _ n _ t => bif Nat.ble (off + len) n && !(Nat.beq lb 0) then
    match bytesOf (lg n) t len off 0 with
    | some x => some (len,x)
    | none => none
   else none
  | _ => none
 | _ => none
def acmpB (h : AV) (nx : Nat) (x y : AV) : Option (AV × AV × Nat) :=
 match byteRow h x,byteRow h y with
 | some (n,a),some (m,b) => bif Nat.beq n m then some (.int .i64 (bif Nat.blt a b then -1 else bif Nat.beq a b then 0 else 1),h,nx) else none
 | _,_ => none
def acloneM (h : AV) (nx : Nat) (x : AV) : Option (AV × AV × Nat) :=
 match x with
 | .ifc t (.map b) => match cget HD h b with
  | .mp l => bif Nat.blt nx (2 ^ HD) then some (.ifc t (.map nx),cput HD h nx (.mp l),nx + 1) else none
  | _ => none
 | _ => none
def aeff (P : Program) (ρ : Operand → AV) (h : AV) (nx : Nat) (o : Oper) : Option (AV × AV × Nat) :=
 match o.op with
 | .store ty x y => match ρ x,rowA (ρ y),P.info? ty with
  | .ptr b off,some (m,s),some inf => match cget HD h b with
   | .cells ety n false t => bif Nat.beq m inf.size && Nat.ble (off + m) n then some (.undef,cput HD h b (.cells ety n false (cblit (lg n) t off m s)),nx) else none
   | _ => none
  | _,_,_ => none
 | .call ⟨.builtin .append,⟨[x,y]⟩,⟨[t,t2]⟩⟩ => match P.underlying t with
  | some (.slice e) => aappend P e t2 h nx (ρ x) (ρ y)
  | _ => none
 | .call ⟨.builtin .copy,⟨[x,y]⟩,⟨t :: tys⟩⟩ => match P.underlying t with
  | some (.slice e) => match acopy P e h (ρ x) (ρ y) with
   | some r => some (r.1,r.2,nx)
   | none => none
  | _ => none
 | .call ⟨.builtin .unsafeString,⟨[x,y]⟩,⟨[pt,it]⟩⟩ => match ρ x,ρ y with
  | .nilp,.int .i64 (.ofNat 0) => some (.str 0 0,h,nx)
  | .ptr b off,.int .i64 (.ofNat 0) => some (.str 0 0,h,nx)
  | .ptr b off,.int .i64 (.ofNat k) => match cget HD h b,P.underlying pt with
   | .cells ety n false t,some (.pointer e) => bif Nat.beq (ety / 2) e && (Nat.beq (P.cellsOf e) 1 && (Nat.ble (off + k) n && Nat.ble k 9223372036854775807)) then
     match bytesOf (lg n) t k off 0 with
     | some x => some (.str k x,cput HD h b (.cells ety n true t),nx)
     | none => none
    else none
   | _,_ => none
  | _,_ => none
 | .call ⟨.value (.func f),⟨[x]⟩,_⟩ => match P.funcs[f]? with
  | some fn => bif fn.body.isNone && (fn.name == "internal/abi.NoEscape" && fn.origin == "") then some (ρ x,h,nx) else
    bif fn.body.isNone && (fn.name == "maps.clone" && fn.origin == "") then acloneM h nx (ρ x) else none
  | none => none
 | .call ⟨.value (.func f),⟨[x,y]⟩,_⟩ => match P.funcs[f]? with
  | some fn => bif fn.body.isNone && (fn.name == "internal/bytealg.CountString" && fn.origin == "") then acountS h nx (ρ x) (ρ y) else
    bif fn.body.isNone && (fn.name == "internal/bytealg.Compare" && fn.origin == "") then acmpB h nx (ρ x) (ρ y) else none
  | none => none
 | .mapUpdate t m k x => amapUpd P h nx t (ρ m) (ρ k) (ρ x)
 | .insert t m k x => amapUpd P h nx t (ρ m) (ρ k) (ρ x)
 | .call ⟨.builtin .clear,⟨[x]⟩,⟨[t]⟩⟩ => match P.underlying t,ρ x with
  | some _,.map b => match cget HD h b with
   | .mp _ => some (.undef,cput HD h b (.mp .lnil),nx)
   | _ => none
  | some _,.nilm => some (.undef,h,nx)
  | some (.slice _),.nils => some (.undef,h,nx)
  | some (.slice e),.sl b off len lb sz => bif Nat.beq len 0 then some (.undef,h,nx) else
   match rowA (zeroA P e),cget HD h b with
   | some (zs,_),.cells ety n false tr => match zrep P e (len * zs) with
    | some u => bif Nat.ble (off + len * zs) n && !(Nat.beq lb 0) then some (.undef,cput HD h b (.cells ety n false (cblit (lg n) tr off (len * zs) u)),nx) else none
    | none => none
   | _,_ => none
  | _,_ => none
 | .call ⟨.builtin .delete,⟨[x,k]⟩,⟨t :: tys⟩⟩ => match P.underlying t,ρ x with
  | some (.map kt _),.map b => match P.underlying kt,cget HD h b with
   | some kd,.mp l => bif fitX P kt kd (ρ k) then
     match findX P kt kd (ρ k) l with
     | some (some (i,_)) => some (.undef,cput HD h b (.mp (dropI i l)),nx)
     | some none => some (.undef,h,nx)
     | none => none
    else none
   | _,_ => none
  | _,_ => none
 | _ => none
section
variable {P : Program} {σ : Sg} {h : AV} {nx : Nat} {w0 w : World} {B : Fr}
theorem next_noEscape : (Extern.allNextRows.lookup "internal/abi.NoEscape").isNone = true := by kernel_rfl
theorem next_empty : (Extern.allNextRows.lookup "").isNone = true := by kernel_rfl
theorem generic_noEscape : (Extern.allGenericRows.lookup "internal/abi.NoEscape").isNone = true := by kernel_rfl
theorem typed_noEscape : (Extern.allTypedRows.lookup "internal/abi.NoEscape").isNone = true := by kernel_rfl
theorem row_noEscape : Extern.allRows.lookup "internal/abi.NoEscape" = some Extern.AbiNoEscape.same := by kernel_rfl
theorem run_noEscape {f : Nat} {fn : Func} {x : Value} (hf : P.funcs[f]? = some fn) (hb : fn.body.isNone = true) (hn : fn.name = "internal/abi.NoEscape") (ho : fn.origin = "") : (callFunc f #[x]).run P w = .ok (.value x) w := by
 have e1 : Extern.allNextRows.lookup "internal/abi.NoEscape" = none := Option.isNone_iff_eq_none.1 next_noEscape
 have e2 : Extern.allNextRows.lookup "" = none := Option.isNone_iff_eq_none.1 next_empty
 have e3 : Extern.allGenericRows.lookup "internal/abi.NoEscape" = none := Option.isNone_iff_eq_none.1 generic_noEscape
 have e4 : Extern.allTypedRows.lookup "internal/abi.NoEscape" = none := Option.isNone_iff_eq_none.1 typed_noEscape
 have h1 : Extern.findNext fn = none := by
  unfold Extern.findNext
  simp only [hn,ho,e1,e2,Option.map_none]; rfl
 have h2 : Extern.find fn = some Extern.AbiNoEscape.same := by
  unfold Extern.find
  simp only [hn,ho,e3,e4,row_noEscape,Option.map_none]; rfl
 have h3 : (fn.name == "runtime.NumGoroutine") = false := by rw [hn]; decide
 unfold callFunc
 simp only [Sem.run_bind,program,Sem.run,Result.andThen_ok,hf,h3,hb,Bool.false_eq_true,if_false,if_true,mark,h1,h2]
 rfl
theorem run_copy {t e oty : TypeId} {tys : List TypeId} {inf : TypeInfo} {r o dl cap m : Nat} {yv : Value} {new : Array Value} {w' : World} (hu : P.underlying t = some (.slice e)) (hi : P.info? e = some inf)
  (hl : (Builtin.lenOf yv).run P w = .ok m w) (hf : (Builtin.firstCells inf.size (Nat.min m dl) yv).run P w = .ok new w) (hs : (storeCells ⟨r,o,none⟩ new.toList 0).run P w = .ok () w') :
  (Builtin.copy_ ⟨t :: tys⟩ oty #[.slice (some ⟨r,o,none⟩) dl cap,yv]).run P w = .ok (.int .i64 (Nat.min m dl : Nat)) w' := by
 simp only [Builtin.copy_,Sem.run_bind,run_underlying' hu,run_sizeOf' hi,Result.andThen_ok,Sem.run_pure,List.getElem?_toArray,List.getElem?_cons_zero,List.getElem?_cons_succ,hl,hf,hs,goInt]
theorem run_copy_nil {t e oty : TypeId} {tys : List TypeId} {inf : TypeInfo} {m : Nat} {yv : Value} {new : Array Value} (hu : P.underlying t = some (.slice e)) (hi : P.info? e = some inf)
  (hl : (Builtin.lenOf yv).run P w = .ok m w) (hf : (Builtin.firstCells inf.size 0 yv).run P w = .ok new w) :
  (Builtin.copy_ ⟨t :: tys⟩ oty #[.slice none 0 0,yv]).run P w = .ok (.int .i64 0) w := by
 have h0 : Nat.min m 0 = 0 := Nat.min_eq_right (Nat.zero_le m)
 simp only [Builtin.copy_,Sem.run_bind,run_underlying' hu,run_sizeOf' hi,Result.andThen_ok,Sem.run_pure,List.getElem?_toArray,List.getElem?_cons_zero,List.getElem?_cons_succ,hl,h0,hf,goInt]
 rfl
theorem acopy_ok {t e oty : TypeId} {tys : List TypeId} {x y a h' : AV} {xv yv : Value} (H : HS σ h nx w0 B w) (hu : P.underlying t = some (.slice e)) (hx : Rel σ x xv) (hy : Rel σ y yv) (ha : acopy P e h x y = some (a,h')) :
  EffOk P σ h nx w0 B w (Builtin.copy_ ⟨t :: tys⟩ oty #[xv,yv]) a h' nx := by
 unfold acopy at ha
 split at ha
 ·rename_i inf ny hinf hlen
  have hl := lenA_ok (P := P) (w := w) hy hlen
  split at ha
  ·cases hx
   split at ha
   ·rename_i u hf
    simp only [Option.some.injEq,Prod.mk.injEq] at ha
    obtain ⟨rfl,rfl⟩ := ha
    obtain ⟨new,hf',hnew⟩ := firstA_ok (P := P) H hy hlen (Nat.zero_le _) hf
    exact ⟨σ,_,w,SubX.refl nx σ,Dk.refl nx h,Nat.le_refl _,run_copy_nil hu hinf hl (hf' w rfl),.int _ _,H⟩
   ·cases ha
  ·rename_i b off len lb sz
   cases hx with
   | sl _ _ _ _ _ r base size o cap hs q1 q2 q3 q4 =>
   have hk : (bif Nat.ble ny len then ny else len) = Nat.min ny len := by
    cases hb : Nat.ble ny len with
    | true => have := ble_iff.1 hb; simp only [cond_true]; exact (Nat.min_eq_left this).symm
    | false =>
     have : ¬ ny ≤ len := fun hh => by rw [ble_iff.2 hh] at hb; cases hb
     simp only [cond_false]; exact (Nat.min_eq_right om).symm
   simp only [hk] at ha
   split at ha
   ·rename_i u ety n t' hf hc
    cases hb : (Nat.beq sz inf.size && (Nat.ble (off + Nat.min ny len * sz) n && !(Nat.beq lb 0))) with
    | false => simp [hb] at ha
    | true =>
     simp only [hb,cond_true,Option.some.injEq,Prod.mk.injEq] at ha
     obtain ⟨rfl,rfl⟩ := ha
     simp only [Bool.and_eq_true,Bool.not_eq_true'] at hb
     have e0 := beqn_iff.1 hb.1
     have e1 := ble_iff.1 hb.2.1
     have e2 : lb ≠ 0 := fun e => by rw [beqn_iff.2 e] at hb; simp at hb
     have e3 := q3 e2
     subst e0
     obtain ⟨new,hf',hnew⟩ := firstA_ok (P := P) H hy hlen (Nat.min_le_left _ _) hf
     obtain ⟨w',g1,g2⟩ := H.write (P := P) hs hc hnew e1
     rw [← e3] at g1
     exact ⟨σ,_,w',SubX.refl nx σ,H.dkPut hs (by rw [hc]; rfl),Nat.le_refl _,run_copy hu hinf hl (hf' w rfl) g1,.int _ _,g2⟩
   ·cases ha
  ·cases ha
 ·cases ha
theorem liesAt_off {e : TypeId} (hc : P.cellsOf e = 1) (count off n : Nat) (hn : off + n ≤ count) : liesAt P P.depth e count off e n = true := by
 have hd : P.depth = (2 * (P.types.size + Made.depth) + 1) + 1 := rfl
 rw [hd]
 simp only [liesAt,Bool.or_eq_true]
 left
 rw [hd]
 simp [rowAt,hc,hn,sameLayout,Nat.mod_one]
theorem run_unsafeString {pt it ty e : TypeId} (hp : P.underlying pt = some (.pointer e)) (hc : P.cellsOf e = 1) {g off cells : Nat} (hsh : w.shape? g = some (e,cells)) {l : List UInt8} (h0 : l ≠ []) (hn : off + l.length ≤ cells) (h63 : l.length ≤ 9223372036854775807)
  (hcell : ∀ j x,l[j]? = some x → w.cell? ((⟨g,off,none⟩ : Addr).add j) = some (.int .u8 x.toNat)) :
  (Builtin.unsafeString_ #[pt,it] ty #[.pointer (some ⟨g,off,none⟩),.int .i64 l.length]).run P w = .ok (.string ⟨l.toArray⟩) (w.freeze ⟨g,off,none⟩ l.length) := by
 have hl : l.length ≠ 0 := by simpa using h0
 have hlb := Lib.run_loadBytes (P := P) w l ⟨g,off,none⟩ .empty hcell
 have hlies := liesAt_off (P := P) hc (cells / P.cellsOf e) off l.length (by rw [hc]; simpa using hn)
 have h63' : ¬ (9223372036854775807 : Int) < (l.length : Int) := by omega
 refine Eq.trans (b := Sem.run P (Bind.bind (asInt (.int .i64 l.length)) _) w) rfl ?_
 have hmax : IntKind.i64.max = 9223372036854775807 := rfl
 have hneg : ¬ (l.length : Int) < 0 := by omega
 simp [asInt,asIntOf,hmax,h63',hneg,hl,variablesAt,hsh,elemOf,run_underlying' hp,hlies,hlb]
def StepOk (P : Program) (σ : Sg) (h : AV) (nx : Nat) (w0 : World) (B : Fr) (w : World) (s : Sem Next) (a h' : AV) (nx' : Nat) : Prop :=
 ∃ σ' v w',SubX nx σ σ' ∧ Dk nx h h' ∧ nx ≤ nx' ∧ (s.run P w = .ok (.value v) w' ∨ (s.run P w = .ok .skip w' ∧ v = Go.undef)) ∧ Rel σ' a v ∧ HS σ' h' nx' w0 B w'
theorem EffOk.step {s : Sem Value} {s' : Sem Next} {a h' : AV} {nx' : Nat} (hh : EffOk P σ h nx w0 B w s a h' nx') (hs : ∀ v w',s.run P w = .ok v w' → s'.run P w = .ok (.value v) w') : StepOk P σ h nx w0 B w s' a h' nx' := by
 obtain ⟨σ',v,w',h1,h1',h1'',h2,h3,h4⟩ := hh
 exact ⟨σ',v,w',h1,h1',h1'',.inl (hs v w' h2),h3,h4⟩
theorem HS.mp (H : HS σ h nx w0 B w) {b r base size : Nat} {l : AV} (hb : σ b = some (r,base,size)) (hc : cget HD h b = .mp l) : ∃ es clock,w.heap[r]? = some (.map es clock) ∧ EsRel σ l es.toList ∧ (B.wr r ∨ w0.heap.size ≤ r) ∧ Go.MapKept.Stamped es clock := by
 have := H.blk b (H.lt hb)
 rw [hc] at this
 obtain ⟨r',base',size',es,clock,h1,h2,h3,h4⟩ := this
 rw [hb] at h1
 simp only [Option.some.injEq,Prod.mk.injEq] at h1
 obtain ⟨rfl,rfl,rfl⟩ := h1
 exact ⟨es,clock,h2,h3.1,h4,h3.2⟩
theorem HS.setMap (H : HS σ h nx w0 B w) {b r base size : Nat} {l l' : AV} {es' : Array MapEntry} {clock' : Nat} (hb : σ b = some (r,base,size)) (hc : cget HD h b = .mp l) (hl : EsRel σ l' es'.toList) (hst : Go.MapKept.Stamped es' clock') :
  HS σ (cput HD h b (.mp l')) nx w0 B { w with heap := w.heap.setIfInBounds r (.map es' clock') } := by
 obtain ⟨es,clock,h2,h3,h4,_⟩ := H.mp hb hc
 exact H.upd hb (by rw [hc]; rfl) h4 rfl rfl rfl rfl ⟨r,base,size,es',clock',hb,by simp [lt_of_get h2],⟨hl,hst⟩,h4⟩
theorem amapUpd_ok {t : TypeId} {m k x a h' : AV} {nx' : Nat} {mv kv xv : Value} (H : HS σ h nx w0 B w) (hm : Rel σ m mv) (hk : Rel σ k kv) (hx : Rel σ x xv) (ha : amapUpd P h nx t m k x = some (a,h',nx')) :
  ∃ w',(Instr.mapUpdate t mv kv xv).run P w = .ok () w' ∧ a = .undef ∧ nx' = nx ∧ Dk nx h h' ∧ HS σ h' nx w0 B w' := by
 unfold amapUpd at ha
 split at ha
 ·rename_i kt e b hu
  cases hm with
  | map _ r base size hs =>
  split at ha
  ·rename_i kd l hkd hc
   cases hf : fitX P kt kd k with
   | false => simp [hf] at ha
   | true =>
    simp only [hf,cond_true] at ha
    obtain ⟨es,clock,h2,h3,h4,hst⟩ := H.mp hs hc
    have hgo : (getObj r).run P w = .ok (.map es clock) w := by simp [getObj,Sem.run,h2]
    have hso : ∀ o,(setObj r o).run P w = .ok () { w with heap := w.heap.setIfInBounds r o } := fun o => by simp [setObj,Sem.run,h2]
    have hchk := fitX_check (P := P) (w := w) hk hkd hf false
    split at ha
    ·rename_i i v hfi
     simp only [Option.some.injEq,Prod.mk.injEq] at ha
     obtain ⟨rfl,rfl,rfl⟩ := ha
     rcases findX_ok hkd hk h3 hfi with ⟨g,_⟩ | ⟨j,v',en,g1,g2,g3,g5,g7⟩
     ·cases g
     ·simp only [Option.some.injEq,Prod.mk.injEq] at g1
      obtain ⟨rfl,rfl⟩ := g1
      have hget : es[i]? = some en := by simpa using g5
      have hlt : i < es.size := (Array.getElem?_eq_some_iff.1 hget).1
      have hkt : (Instr.keyThatStays (((es[i]?).map (·.key)).getD kv) kv).run P w = .ok kv w := by
       rw [hget]
       simp only [Option.map_some,Option.getD_some,Instr.keyThatStays,g7,bits_self hk hf,if_true]; rfl
      have hmod : es.modify i (fun e => { e with key := kv,val := xv }) = (es.toList.set i { en with key := kv,val := xv }).toArray := by
       apply Array.ext'
       apply List.ext_getElem?
       intro q
       simp only [Array.getElem?_toList,Array.getElem?_modify,List.getElem?_set,Array.length_toList]
       by_cases hq : i = q
       ·subst hq; simp [hlt]; rw [(Array.getElem?_eq_some_iff.1 hget).2]
       ·simp [hq]
      refine ⟨_,?_,rfl,rfl,H.dkPut hs (by rw [hc]; rfl),H.setMap (clock' := clock) (es' := es.modify i (fun e => { e with key := kv,val := xv })) hs hc (by rw [hmod]; exact EsRel.set hk hx h3 g5) (Go.MapKept.stamped_modify hst i _ (fun _ _ => rfl) (fun e _ hge => by rw [hget] at hge; cases hge; exact g7.symm))⟩
      simp only [Instr.mapUpdate,Sem.run_bind,run_underlying' hu,Result.andThen_ok,hgo,hchk,g2 w,hkt,hso]
    ·rename_i hfi
     simp only [Option.some.injEq,Prod.mk.injEq] at ha
     obtain ⟨rfl,rfl,rfl⟩ := ha
     rcases findX_ok hkd hk h3 hfi with ⟨_,g2,g3⟩ | ⟨j,v',u,g1,_⟩
     ·refine ⟨_,?_,rfl,rfl,H.dkPut hs (by rw [hc]; rfl),H.setMap (clock' := clock + 1) (es' := es.push { key := kv,val := xv,born := clock }) hs hc (by rw [Array.toList_push]; exact EsRel.push hk hx h3) (Go.MapKept.stamped_push hst g3)⟩
      simp only [Instr.mapUpdate,Sem.run_bind,run_underlying' hu,Result.andThen_ok,hgo,hchk,g2 w,hso]
     ·cases g1
    ·cases ha
  ·cases ha
 ·cases ha
theorem next_clone : (Extern.allNextRows.lookup "maps.clone").isNone = true := by kernel_rfl
theorem generic_clone : (Extern.allGenericRows.lookup "maps.clone").isNone = true := by kernel_rfl
theorem typed_clone : (Extern.allTypedRows.lookup "maps.clone").isNone = true := by kernel_rfl
theorem row_clone : Extern.allRows.lookup "maps.clone" = some Extern.MapsClone.clone := by kernel_rfl
theorem next_count : (Extern.allNextRows.lookup "internal/bytealg.CountString").isNone = true := by kernel_rfl
theorem generic_count : (Extern.allGenericRows.lookup "internal/bytealg.CountString").isNone = true := by kernel_rfl
theorem typed_count : (Extern.allTypedRows.lookup "internal/bytealg.CountString").isNone = true := by kernel_rfl
theorem row_count : Extern.allRows.lookup "internal/bytealg.CountString" = some Extern.BytealgCount.count := by kernel_rfl
theorem next_cmp : (Extern.allNextRows.lookup "internal/bytealg.Compare").isNone = true := by kernel_rfl
theorem generic_cmp : (Extern.allGenericRows.lookup "internal/bytealg.Compare").isNone = true := by kernel_rfl
theorem typed_cmp : (Extern.allTypedRows.lookup "internal/bytealg.Compare").isNone = true := by kernel_rfl
theorem row_cmp : Extern.allRows.lookup "internal/bytealg.Compare" = some Extern.BytealgCompare.compare := by kernel_rfl
theorem run_extern1 {f : Nat} {fn : Func} {nm : String} {ex : Array Value → Sem Value} {args : Array Value} {v : Value} {w' : World} (hf : P.funcs[f]? = some fn) (hb : fn.body.isNone = true) (hn : fn.name = nm) (ho : fn.origin = "")
  (q1 : (Extern.allNextRows.lookup nm).isNone = true) (q2 : (Extern.allGenericRows.lookup nm).isNone = true) (q3 : (Extern.allTypedRows.lookup nm).isNone = true) (q4 : Extern.allRows.lookup nm = some ex) (q5 : (nm == "runtime.NumGoroutine") = false)
  (hr : (ex args).run P w = .ok v w') : (callFunc f args).run P w = .ok (.value v) w' := by
 have e1 : Extern.allNextRows.lookup nm = none := Option.isNone_iff_eq_none.1 q1
 have e2 : Extern.allNextRows.lookup "" = none := Option.isNone_iff_eq_none.1 next_empty
 have e3 : Extern.allGenericRows.lookup nm = none := Option.isNone_iff_eq_none.1 q2
 have e4 : Extern.allTypedRows.lookup nm = none := Option.isNone_iff_eq_none.1 q3
 have h1 : Extern.findNext fn = none := by
  unfold Extern.findNext
  simp only [hn,ho,e1,e2,Option.map_none]; rfl
 have h2 : Extern.find fn = some ex := by
  unfold Extern.find
  simp only [hn,ho,e3,e4,q4,Option.map_none]; rfl
 have h3 : (fn.name == "runtime.NumGoroutine") = false := by rw [hn]; exact q5
 unfold callFunc
 simp only [Sem.run_bind,program,Sem.run,Result.andThen_ok,hf,h3,hb,Bool.false_eq_true,if_false,if_true,mark,h1,h2]
 rw [hr]
 rfl
theorem cntF_rev (c : Nat) (hc : c < 256) : ∀ (r : List UInt8) (a : Nat),cntF c r.length (val r.reverse) a = a + r.count c.toUInt8
 | [],a => rfl
 | b :: r,a => by
  rw [List.reverse_cons,List.length_cons,val_append,List.length_singleton,show val [b] = b.toNat by simp [val,strOf],Nat.pow_one,cntF]
  have hb := b.toNat_lt
  rw [show (val r.reverse * 256 + b.toNat) / 256 = val r.reverse by omega,show (val r.reverse * 256 + b.toNat) % 256 = b.toNat by omega,cntF_rev c hc r,List.count_cons]
  have hcc : Nat.beq b.toNat c = (b == c.toUInt8) := by
   rw [Bool.eq_iff_iff,beqn_iff,beq_iff_eq]
   constructor
   ·intro h; rw [← h]; simp
   ·intro h; rw [h]; simp; omega
  rw [hcc]
  cases b == c.toUInt8 <;> simp <;> omega
theorem cntF_eq (c : Nat) (l : List UInt8) (a : Nat) (hc : c < 256) : cntF c l.length (val l) a = a + l.count c.toUInt8 := by
 have := cntF_rev c hc l.reverse a
 rwa [List.length_reverse,List.reverse_reverse,List.count_reverse] at this
theorem cmp_find : ∀ (l l' : List UInt8),l.length = l'.length → (match (List.range l.length).find? (fun i => l.getD i 0 != l'.getD i 0) with | some i => if l.getD i 0 < l'.getD i 0 then (-1 : Int) else 1 | none => 0) = if val l < val l' then -1 else if val l = val l' then 0 else 1
 | [],[],_ => by simp
 | x :: l,y :: l',h => by
  have hl : l.length = l'.length := by simpa using h
  have ih := cmp_find l l' hl
  have e1 : val (x :: l) = x.toNat * 256 ^ l.length + val l := by
   show strOf (x :: l) 0 = _
   simp only [strOf]
   rw [strOf_eq]; simp
  have e2 : val (y :: l') = y.toNat * 256 ^ l.length + val l' := by
   show strOf (y :: l') 0 = _
   simp only [strOf]
   rw [strOf_eq,hl]; simp
  have b1 := val_lt l
  have b2 := val_lt l'
  rw [← hl] at b2
  rw [List.length_cons,List.range_succ_eq_map,List.find?_cons]
  simp only [List.getD_cons_zero]
  by_cases hxy : x = y
  ·subst hxy
   simp only [bne_self_eq_false,List.find?_map]
   have e3 : ((fun i => (x :: l).getD i 0 != (x :: l').getD i 0) ∘ Nat.succ) = fun i => l.getD i 0 != l'.getD i 0 := by
    funext i
    simp
   rw [e3]
   rw [e1,e2]
   generalize hf : (List.range l.length).find? (fun i => l.getD i 0 != l'.getD i 0) = r at ih
   have e4 : (x.toNat * 256 ^ l.length + val l < x.toNat * 256 ^ l.length + val l') = (val l < val l') := by simp
   have e5 : (x.toNat * 256 ^ l.length + val l = x.toNat * 256 ^ l.length + val l') = (val l = val l') := by simp
   simp only [e4,e5]
   rw [← ih]
   cases r with
   | none => simp
   | some i => simp
  ·have hb : (x != y) = true := by simpa using hxy
   simp only [hb,List.getD_cons_zero]
   rw [e1,e2]
   have hn : x.toNat ≠ y.toNat := fun e => hxy (UInt8.toNat_inj.1 e)
   by_cases hlt : x < y
   ·have : x.toNat < y.toNat := hlt
    have h3 : (x.toNat + 1) * 256 ^ l.length ≤ y.toNat * 256 ^ l.length := Nat.mul_le_mul_right _ this
    rw [Nat.add_mul] at h3
    rw [if_pos hlt,if_pos om]
   ·have : ¬ x.toNat < y.toNat := hlt
    have h3 : (y.toNat + 1) * 256 ^ l.length ≤ x.toNat * 256 ^ l.length := Nat.mul_le_mul_right _ om
    rw [Nat.add_mul] at h3
    rw [if_neg hlt,if_neg om,if_neg om]
theorem cmp_val (l l' : List UInt8) (h : l.length = l'.length) : Extern.BytealgCompare.cmp ⟨l.toArray⟩ ⟨l'.toArray⟩ = if val l < val l' then -1 else if val l = val l' then 0 else 1 := by
 rw [← cmp_find l l' h]
 unfold Extern.BytealgCompare.cmp
 have e1 : (⟨l.toArray⟩ : ByteArray).size = l.length := by simp [ByteArray.size]
 have e2 : (⟨l'.toArray⟩ : ByteArray).size = l.length := by simp [ByteArray.size,h]
 simp only [K.at_row,e1,e2,Nat.min_self,Nat.lt_irrefl,if_false,gt_iff_lt]
 cases List.find? (fun i => l.getD i 0 != l'.getD i 0) (List.range l.length) <;> rfl
theorem byteRow_ok {x : AV} {xv : Value} {n a : Nat} (H : HS σ h nx w0 B w) (hx : Rel σ x xv) (ha : byteRow h x = some (n,a)) : ∃ l : List UInt8,l.length = n ∧ a = val l ∧ (Extern.Bytes.bytesOf xv).run P w = .ok ⟨l.toArray⟩ w := by
 unfold byteRow at ha
 split at ha
 ·rename_i b off len lb sz
  cases hx with
  | sl _ _ _ _ _ r base size o cap hs h1 h2 h3 h4 =>
  split at ha
  ·rename_i ety m ro t hc
   cases hb : (Nat.ble (off + len) m && !(Nat.beq lb 0)) with
   | false => simp [hb] at ha
   | true =>
    simp only [hb,cond_true] at ha
    simp only [Bool.and_eq_true,Bool.not_eq_true'] at hb
    have hle := ble_iff.1 hb.1
    have h0 : lb ≠ 0 := fun e => by have := hb.2; rw [beqn_iff.2 e] at this; cases this
    have ho := h3 h0
    obtain ⟨cs,fr,tt,g1,g2,g3,g4,g5⟩ := H.cells hs hc
    split at ha
    ·rename_i y hy
     simp only [Option.some.injEq,Prod.mk.injEq] at ha
     obtain ⟨rfl,rfl⟩ := ha
     obtain ⟨l,k1,k2,k3⟩ := bytesOf_ok (cs := cs) (base := base) (σ := σ) hy (fun j hj hj' => by
      obtain ⟨v,q1,_,q3⟩ := g4 j om
      exact ⟨v,q1,q3⟩)
     refine ⟨l,k1,k2,?_⟩
     unfold Extern.Bytes.bytesOf
     rw [← k1,K.run_loadBytes l o ByteArray.empty (fun j hj => by rw [cell_cells g1,ho,Nat.add_assoc]; exact k3 j om)]
     congr 1
     apply ByteArray.ext
     simp [ByteArray.empty,ByteArray.emptyWithCapacity]
     rfl
    ·cases ha
  ·cases ha
 ·cases ha
theorem acmpB_ok {x y a h' : AV} {nx' : Nat} {xv yv : Value} (H : HS σ h nx w0 B w) (hx : Rel σ x xv) (hy : Rel σ y yv) (ha : acmpB h nx x y = some (a,h',nx')) : EffOk P σ h nx w0 B w (Extern.BytealgCompare.compare #[xv,yv]) a h' nx' := by
 unfold acmpB at ha
 split at ha
 ·rename_i n p m q e1 e2
  obtain ⟨l,k1,rfl,k3⟩ := byteRow_ok (P := P) H hx e1
  obtain ⟨l',j1,rfl,j3⟩ := byteRow_ok (P := P) H hy e2
  cases hb : Nat.beq n m with
  | false => simp [hb] at ha
  | true =>
   have hnm := beqn_iff.1 hb
   simp only [hb,cond_true,Option.some.injEq,Prod.mk.injEq] at ha
   obtain ⟨rfl,rfl,rfl⟩ := ha
   refine ⟨σ,.int .i64 (Extern.BytealgCompare.cmp ⟨l.toArray⟩ ⟨l'.toArray⟩),w,SubX.refl nx σ,Dk.refl nx h,Nat.le_refl _,?_,?_,H⟩
   ·refine Eq.trans (b := Sem.run P (Bind.bind (Extern.Bytes.bytesOf xv) fun u => Bind.bind (Extern.Bytes.bytesOf yv) fun v => pure (goInt (Extern.BytealgCompare.cmp u v))) w) rfl ?_
    simp only [Sem.run_bind,k3,j3,Result.andThen_ok,Sem.run_pure,goInt]
   ·rw [cmp_val l l' om]
    have e : (bif Nat.blt (val l) (val l') then (-1 : Int) else bif Nat.beq (val l) (val l') then 0 else 1) = if val l < val l' then -1 else if val l = val l' then 0 else 1 := by
     by_cases c1 : val l < val l'
     ·rw [if_pos c1,blt_iff.2 c1,cond_true]
     ·rw [if_neg c1,blt_false.2 om,cond_false]
      by_cases c2 : val l = val l'
      ·rw [if_pos c2,beqn_iff.2 c2,cond_true]
      ·rw [if_neg c2]
       cases hq : Nat.beq (val l) (val l') with
       | true => exact absurd (beqn_iff.1 hq) c2
       | false => rfl
    rw [e]
    exact .int _ _
 ·cases ha
theorem acountS_ok {x y a h' : AV} {nx' : Nat} {xv yv : Value} (H : HS σ h nx w0 B w) (hx : Rel σ x xv) (hy : Rel σ y yv) (ha : acountS h nx x y = some (a,h',nx')) : EffOk P σ h nx w0 B w (Extern.BytealgCount.count #[xv,yv]) a h' nx' := by
 unfold acountS at ha
 split at ha
 ·rename_i n s c
  cases hx with
  | str t _ _ hn hs =>
  cases hy with
  | int _ _ =>
  cases hc : Nat.blt c 256 with
  | false => simp [hc] at ha
  | true =>
   simp only [hc,cond_true,Option.some.injEq,Prod.mk.injEq] at ha
   obtain ⟨rfl,rfl,rfl⟩ := ha
   have hr := Lib.run_countString (P := P) t (.ofNat c) w
   refine ⟨σ,_,w,SubX.refl nx σ,Dk.refl nx h,Nat.le_refl _,hr,?_,H⟩
   have e : cntF c n s 0 = Lib.countByte t.data.toList c.toUInt8 := by
    have hl : n = t.data.toList.length := by rw [hn]; simp
    rw [hs,hl,cntF_eq c _ _ (blt_iff.1 hc),Nat.zero_add]; rfl
   rw [e]
   exact .int _ _
 ·cases ha
theorem acloneM_ok {x a h' : AV} {nx' : Nat} {xv : Value} (H : HS σ h nx w0 B w) (hx : Rel σ x xv) (ha : acloneM h nx x = some (a,h',nx')) : EffOk P σ h nx w0 B w (Extern.MapsClone.clone #[xv]) a h' nx' := by
 unfold acloneM at ha
 split at ha
 ·rename_i t b
  cases hx with
  | ifc _ _ vv hv =>
  cases hv with
  | map _ r base size hs =>
  split at ha
  ·rename_i l hc
   cases hn : Nat.blt nx (2 ^ HD) with
   | false => simp [hn] at ha
   | true =>
    simp only [hn,cond_true,Option.some.injEq,Prod.mk.injEq] at ha
    obtain ⟨rfl,rfl,rfl⟩ := ha
    obtain ⟨es,clock,h2,h3,h4,hst⟩ := H.mp hs hc
    have hgo : (getObj r).run P w = .ok (.map es clock) w := by simp [getObj,Sem.run,h2]
    have H' := H.new (blt_iff.1 hn) (p := (w.heap.size,0,0)) (x := .mp l) (w' := w.alloc (.map es clock)) rfl rfl rfl rfl rfl
     ⟨w.heap.size,0,0,es,clock,by simp [ext],K.get_alloc w _,⟨h3.mono (H.sub_ext _),hst⟩,.inr H.size⟩
    refine ⟨ext σ nx (w.heap.size,0,0),.iface t (.map (some w.heap.size)),_,H.subX _,dkNew (blt_iff.1 hn),by omega,?_,.ifc _ _ _ (.map _ w.heap.size 0 0 (by simp [ext])),H'⟩
    refine Eq.trans (b := Sem.run P (Bind.bind (getObj r) _) w) rfl ?_
    simp only [Sem.run_bind,hgo,Result.andThen_ok]
    rfl
  ·cases ha
 ·cases ha
theorem aeff_ok {ρ : Operand → AV} {ev : Operand → Value} {o : Oper} {a h' : AV} {nx' : Nat} (H : HS σ h nx w0 B w) (hfv : ∀ f,ev (.func f) = .func (.func f) #[] #[]) (hρ : ∀ x,Rel σ (ρ x) (ev x)) (ha : aeff P ρ h nx o = some (a,h',nx')) :
  StepOk P σ h nx w0 B w (execOp ev o) a h' nx' := by
 obtain ⟨dst,op,oty,pos,after,guard⟩ := o
 unfold aeff at ha
 dsimp only at ha
 split at ha
 ·rename_i ty x y
  split at ha
  ·rename_i b off m s inf he hr hinf
   split at ha
   ·rename_i ety n t hc
    cases hb : (Nat.beq m inf.size && Nat.ble (off + m) n) with
    | false => simp [hb] at ha
    | true =>
     simp only [hb,cond_true,Option.some.injEq,Prod.mk.injEq] at ha
     obtain ⟨rfl,rfl,rfl⟩ := ha
     simp only [Bool.and_eq_true] at hb
     have e0 := beqn_iff.1 hb.1
     have e1 := ble_iff.1 hb.2
     have hx := hρ x
     rw [he] at hx
     generalize hxv : ev x = xv at hx
     cases hx with
     | ptr _ _ r base size o hs ho =>
     have hrow := rowA_ok (hρ y) hr
     obtain ⟨w',g1,g2⟩ := H.write (P := P) hs hc hrow e1
     refine ⟨σ,Go.undef,w',SubX.refl nx σ,H.dkPut hs (by rw [hc]; rfl),Nat.le_refl _,.inr ⟨?_,rfl⟩,.undef,g2⟩
     rw [← ho] at g1
     have e2 : ¬ ((ev y).cells.size ≠ inf.size) := by rw [hrow.1]; omega
     simp [execOp,hxv,Instr.storeAt,Instr.sureAddr,storeVar,run_sizeOf' hinf,hrow.1,e0,g1]
   ·cases ha
  ·cases ha
 ·rename_i x y t t2
  split at ha
  ·rename_i e hu
   exact (aappend_ok (oty := oty) H hu (hρ x) (hρ y) ha).step (fun v w' hv => by simp [execOp,resolve,invoke,builtin,hv])
  ·cases ha
 ·rename_i x y t tys
  split at ha
  ·rename_i e hu
   split at ha
   ·rename_i r hr
    simp only [Option.some.injEq,Prod.mk.injEq] at ha
    obtain ⟨rfl,rfl,rfl⟩ := ha
    exact (acopy_ok (oty := oty) (tys := tys) H hu (hρ x) (hρ y) hr).step (fun v w' hv => by simp [execOp,resolve,invoke,builtin,hv])
   ·cases ha
  ·cases ha
 ·rename_i x y pt it
  have hx := hρ x
  have hy := hρ y
  generalize hxv : ev x = xv at hx
  generalize hyv : ev y = yv at hy
  have hrun : ∀ v w',(Builtin.unsafeString_ #[pt,it] oty #[xv,yv]).run P w = .ok v w' → (execOp ev ⟨dst,.call ⟨.builtin .unsafeString,⟨[x,y]⟩,⟨[pt,it]⟩⟩,oty,pos,after,guard⟩).run P w = .ok (.value v) w' := by
   intro v w' hv
   simp [execOp,resolve,invoke,builtin,hxv,hyv,hv]
  split at ha
  ·rename_i he1 he2
   simp only [Option.some.injEq,Prod.mk.injEq] at ha
   obtain ⟨rfl,rfl,rfl⟩ := ha
   rw [he1] at hx; rw [he2] at hy
   cases hx; cases hy
   exact ⟨σ,_,w,SubX.refl nx σ,Dk.refl nx h,Nat.le_refl _,.inl (hrun _ _ (Lib.run_unsafeString_none w pt it oty none)),.str _ _ _ rfl rfl,H⟩
  ·rename_i b off he1 he2
   simp only [Option.some.injEq,Prod.mk.injEq] at ha
   obtain ⟨rfl,rfl,rfl⟩ := ha
   rw [he1] at hx; rw [he2] at hy
   cases hx; cases hy
   exact ⟨σ,_,w,SubX.refl nx σ,Dk.refl nx h,Nat.le_refl _,.inl (hrun _ _ (Lib.run_unsafeString_none w pt it oty _)),.str _ _ _ rfl rfl,H⟩
  ·rename_i b off k hk0 he1 he2
   split at ha
   ·rename_i ety n t e hc hu
    cases hb : (Nat.beq (ety / 2) e && (Nat.beq (P.cellsOf e) 1 && (Nat.ble (off + k) n && Nat.ble k 9223372036854775807))) with
    | false => simp [hb] at ha
    | true =>
     simp only [hb,cond_true] at ha
     simp only [Bool.and_eq_true] at hb
     have e0 := beqn_iff.1 hb.1
     have e1 := beqn_iff.1 hb.2.1
     have e2 := ble_iff.1 hb.2.2.1
     have e3 := ble_iff.1 hb.2.2.2
     have ek : k ≠ 0 := hk0
     subst e0
     split at ha
     ·rename_i z hz
      simp only [Option.some.injEq,Prod.mk.injEq] at ha
      obtain ⟨rfl,rfl,rfl⟩ := ha
      rw [he1] at hx; rw [he2] at hy
      cases hy
      cases hx with
      | ptr _ _ r base size o hs ho =>
      obtain ⟨cs,fr,h1,h2,h3,h4,h5⟩ := H.cellsT hs hc (.inl rfl)
      obtain ⟨h6,h7⟩ := h5 rfl
      obtain ⟨l,g1,g2,g3⟩ := bytesOf_ok (cs := cs) (base := base) (σ := σ) hz (fun j hj hj' => by
       obtain ⟨v,f1,f2,f3⟩ := h4 j om
       exact ⟨v,f1,f3⟩)
      have hl0 : l ≠ [] := fun e => by rw [e] at g1; exact ek (by simpa using g1.symm)
      have hsh : w.shape? r = some (ety / 2,size) := by simp [World.shape?,h1,h2]
      have hrs := run_unsafeString (P := P) (w := w) (it := it) (ty := oty) hu e1 hsh (off := o) hl0 om om (fun j x hj => by
       have hjl := (List.getElem?_eq_some_iff.1 hj).1
       rw [add_none,cell_cells h1,ho,Nat.add_assoc,g3 j om,List.getD_eq_getElem?_getD,hj]; rfl)
      rw [g1] at hrs
      let w2 := w.freeze ⟨r,o,none⟩ k
      have hw2 : ∃ fr',w2.heap = w.heap.setIfInBounds r (.cells cs (ety / 2) fr') := by
       refine ⟨if fr.1 == fr.2 then (o,o + k) else (min fr.1 o,max fr.2 (o + k)),?_⟩
       simp only [w2,World.freeze]
       rw [if_neg (fun e => by rw [e] at g1; exact hl0 (List.eq_nil_of_length_eq_zero g1))]
       apply Array.ext_getElem?
       intro i
       simp only [Array.getElem?_modify]
       have hlt := lt_of_get h1
       by_cases hi : r = i
       ·subst hi
        rw [if_pos rfl,h1]
        simp only [Option.map_some,Array.getElem?_setIfInBounds,hlt,if_true]
       ·simp [hi]
      obtain ⟨fr',hw2⟩ := hw2
      refine ⟨σ,.string ⟨l.toArray⟩,w2,SubX.refl nx σ,H.dkPut hs (by rw [hc]; rfl),Nat.le_refl _,.inl (hrun _ _ hrs),.str _ _ _ (by show k = l.toArray.size; simp [g1]) (by simpa [val] using g2),?_⟩
      have hg2 : w2.heap[r]? = some (.cells cs (ety / 2) fr') := by rw [hw2]; simp [lt_of_get h1]
      have hos : w2.os = w.os ∧ w2.tape = w.tape ∧ w2.output = w.output := by
       simp only [w2,World.freeze]
       split <;> exact ⟨rfl,rfl,rfl⟩
      exact H.upd hs (by rw [hc]; rfl) h7 hw2 hos.1 hos.2.1 hos.2.2 ⟨r,base,size,cs,fr',ety / 2,hs,hg2,h2,h3,h4,(fun hh => by cases hh),fun _ => rfl⟩
     ·cases ha
   ·cases ha
  ·cases ha
 ·rename_i f x tys
  split at ha
  ·rename_i fn hf
   cases hb : (fn.body.isNone && (fn.name == "internal/abi.NoEscape" && fn.origin == "")) with
   | false =>
    simp only [hb,cond_false] at ha
    cases hb2 : (fn.body.isNone && (fn.name == "maps.clone" && fn.origin == "")) with
    | false => simp [hb2] at ha
    | true =>
     simp only [hb2,cond_true] at ha
     simp only [Bool.and_eq_true,beq_iff_eq] at hb2
     have hxx := hρ x
     refine (acloneM_ok H hxx ha).step fun v w' hr => ?_
     simp only [execOp,resolve,hfv f,Deferred.ofValue,Sem.run_bind,Sem.run_pure,Result.andThen_ok,invoke]
     have e : (#[] ++ Array.map ev { toList := [x] } ++ #[] : Array Value) = #[ev x] := by simp
     rw [e,run_extern1 hf hb2.1 hb2.2.1 hb2.2.2 next_clone generic_clone typed_clone row_clone (by decide) hr]
   | true =>
    simp only [hb,cond_true,Option.some.injEq,Prod.mk.injEq] at ha
    obtain ⟨rfl,rfl,rfl⟩ := ha
    simp only [Bool.and_eq_true,beq_iff_eq] at hb
    have hr := run_noEscape (P := P) (w := w) (x := ev x) hf hb.1 hb.2.1 hb.2.2
    have hfn := hρ (.func f)
    refine ⟨σ,ev x,w,SubX.refl nx σ,Dk.refl nx h,Nat.le_refl _,.inl ?_,hρ x,H⟩
    simp only [execOp,resolve,hfv f,Deferred.ofValue,Sem.run_bind,Sem.run_pure,Result.andThen_ok,invoke]
    have e : (#[] ++ Array.map ev { toList := [x] } ++ #[] : Array Value) = #[ev x] := by simp
    rw [e]; exact hr
  ·cases ha
 ·rename_i f x y tys
  split at ha
  ·rename_i fn hf
   cases hb : (fn.body.isNone && (fn.name == "internal/bytealg.CountString" && fn.origin == "")) with
   | false =>
    simp only [hb,cond_false] at ha
    cases hb2 : (fn.body.isNone && (fn.name == "internal/bytealg.Compare" && fn.origin == "")) with
    | false => simp [hb2] at ha
    | true =>
     simp only [hb2,cond_true] at ha
     simp only [Bool.and_eq_true,beq_iff_eq] at hb2
     refine (acmpB_ok H (hρ x) (hρ y) ha).step fun v w' hr => ?_
     simp only [execOp,resolve,hfv f,Deferred.ofValue,Sem.run_bind,Sem.run_pure,Result.andThen_ok,invoke]
     have e : (#[] ++ Array.map ev { toList := [x,y] } ++ #[] : Array Value) = #[ev x,ev y] := by simp
     rw [e,run_extern1 hf hb2.1 hb2.2.1 hb2.2.2 next_cmp generic_cmp typed_cmp row_cmp (by decide) hr]
   | true =>
    simp only [hb,cond_true] at ha
    simp only [Bool.and_eq_true,beq_iff_eq] at hb
    refine (acountS_ok H (hρ x) (hρ y) ha).step fun v w' hr => ?_
    simp only [execOp,resolve,hfv f,Deferred.ofValue,Sem.run_bind,Sem.run_pure,Result.andThen_ok,invoke]
    have e : (#[] ++ Array.map ev { toList := [x,y] } ++ #[] : Array Value) = #[ev x,ev y] := by simp
    rw [e,run_extern1 hf hb.1 hb.2.1 hb.2.2 next_count generic_count typed_count row_count (by decide) hr]
  ·cases ha
 ·rename_i t m k x
  obtain ⟨w',g1,rfl,rfl,g4,g5⟩ := amapUpd_ok (P := P) H (hρ m) (hρ k) (hρ x) ha
  refine ⟨σ,Go.undef,w',SubX.refl _ σ,g4,Nat.le_refl _,.inr ⟨?_,rfl⟩,.undef,g5⟩
  simp only [execOp,Sem.run_bind,g1,Result.andThen_ok,Sem.run_pure]
 ·rename_i t m k x
  obtain ⟨w',g1,rfl,rfl,g4,g5⟩ := amapUpd_ok (P := P) H (hρ m) (hρ k) (hρ x) ha
  refine ⟨σ,Go.undef,w',SubX.refl _ σ,g4,Nat.le_refl _,.inr ⟨?_,rfl⟩,.undef,g5⟩
  simp only [execOp,Sem.run_bind,g1,Result.andThen_ok,Sem.run_pure]
 ·rename_i x t
  have hx := hρ x
  generalize hxv : ev x = xv at hx
  have hrun : ∀ v w',(Builtin.clear_ #[t] oty #[xv]).run P w = .ok v w' → (execOp ev ⟨dst,.call ⟨.builtin .clear,⟨[x]⟩,⟨[t]⟩⟩,oty,pos,after,guard⟩).run P w = .ok (.value v) w' := by
   intro v w' hv
   simp [execOp,resolve,invoke,builtin,hxv,hv]
  split at ha
  ·rename_i d0 b hu he
   rw [he] at hx
   cases hx with
   | map _ r base size hs =>
   split at ha
   ·rename_i l hc
    simp only [Option.some.injEq,Prod.mk.injEq] at ha
    obtain ⟨rfl,rfl,rfl⟩ := ha
    obtain ⟨es,clock,h2,h3,h4,hst⟩ := H.mp hs hc
    have hgo : (getObj r).run P w = .ok (.map es clock) w := by simp [getObj,Sem.run,h2]
    have hso : ∀ o,(setObj r o).run P w = .ok () { w with heap := w.heap.setIfInBounds r o } := fun o => by simp [setObj,Sem.run,h2]
    refine ⟨σ,Go.undef,_,SubX.refl _ σ,H.dkPut hs (by rw [hc]; rfl),Nat.le_refl _,.inl (hrun _ _ ?_),.undef,H.setMap (es' := #[]) (clock' := clock) hs hc trivial (Go.MapKept.stamped_empty clock)⟩
    simp only [Builtin.clear_,Sem.run_bind,run_underlying' hu,Result.andThen_ok,hgo,hso,Sem.run_pure,List.getElem?_toArray,List.getElem?_cons_zero]
    rfl
   ·cases ha
  ·rename_i d0 hu he
   rw [he] at hx
   cases hx
   simp only [Option.some.injEq,Prod.mk.injEq] at ha
   obtain ⟨rfl,rfl,rfl⟩ := ha
   refine ⟨σ,Go.undef,w,SubX.refl _ σ,Dk.refl _ _,Nat.le_refl _,.inl (hrun _ _ ?_),.undef,H⟩
   simp only [Builtin.clear_,Sem.run_bind,run_underlying' hu,Result.andThen_ok,Sem.run_pure,List.getElem?_toArray,List.getElem?_cons_zero]
   rfl
  ·rename_i e hu he
   rw [he] at hx
   cases hx
   simp only [Option.some.injEq,Prod.mk.injEq] at ha
   obtain ⟨rfl,rfl,rfl⟩ := ha
   refine ⟨σ,Go.undef,w,SubX.refl _ σ,Dk.refl _ _,Nat.le_refl _,.inl (hrun _ _ ?_),.undef,H⟩
   simp only [Builtin.clear_,Sem.run_bind,run_underlying' hu,Result.andThen_ok,Sem.run_pure,List.getElem?_toArray,List.getElem?_cons_zero]
   rfl
  ·rename_i e b off len lb sz hu he
   rw [he] at hx
   cases hx with
   | sl _ _ _ _ _ r base size o cap hs q1 q2 q3 q4 =>
   cases h0 : Nat.beq len 0 with
   | true =>
    have := beqn_iff.1 h0
    subst this
    simp only [h0,cond_true,Option.some.injEq,Prod.mk.injEq] at ha
    obtain ⟨rfl,rfl,rfl⟩ := ha
    refine ⟨σ,Go.undef,w,SubX.refl _ σ,Dk.refl _ _,Nat.le_refl _,.inl (hrun _ _ ?_),.undef,H⟩
    simp only [Builtin.clear_,Sem.run_bind,run_underlying' hu,Result.andThen_ok,Sem.run_pure,List.getElem?_toArray,List.getElem?_cons_zero]
    rfl
   | false =>
    simp only [h0,cond_false] at ha
    split at ha
    ·rename_i zs zt ety n tr hzr hc
     split at ha
     ·rename_i u hu2
      cases hb : (Nat.ble (off + len * zs) n && !(Nat.beq lb 0)) with
      | false => simp [hb] at ha
      | true =>
       simp only [hb,cond_true,Option.some.injEq,Prod.mk.injEq] at ha
       obtain ⟨rfl,rfl,rfl⟩ := ha
       simp only [Bool.and_eq_true,Bool.not_eq_true'] at hb
       have e1 := ble_iff.1 hb.1
       have e2 : lb ≠ 0 := fun e => by rw [beqn_iff.2 e] at hb; simp at hb
       have e3 := q3 e2
       obtain ⟨zv,hzv,hzp,hrow⟩ := zrep_ok (P := P) hu2 σ
       have hbad : zeroA P e ≠ .bad := fun hb => by rw [hb] at hzr; simp [rowA,scalarA] at hzr
       obtain ⟨z2,hz2,hz3⟩ := zeroA_ok (P := P) (t := e) rfl hbad σ
       have hzs := (rowA_ok hz3 hzr).1
       rw [hzv] at hz2
       simp only [Option.some.injEq] at hz2
       subst hz2
       have hr := hrow (Builtin.zeroCells zv.cells len) (by simp [Builtin.zeroCells,hzs]) (fun i hi => by simp [Builtin.zeroCells,hzs,hi])
       obtain ⟨w',g1,g2⟩ := H.write (P := P) hs hc hr e1
       rw [← e3] at g1
       have hl0 : len ≠ 0 := fun e => by rw [beqn_iff.2 e] at h0; cases h0
       obtain ⟨k,rfl⟩ : ∃ k,len = k + 1 := ⟨len - 1,by omega⟩
       refine ⟨σ,Go.undef,w',SubX.refl _ σ,H.dkPut hs (by rw [hc]; rfl),Nat.le_refl _,.inl (hrun _ _ ?_),.undef,g2⟩
       simp only [Builtin.clear_,Sem.run_bind,run_underlying' hu,Result.andThen_ok,run_zeroValue hzv,Sem.run_pure,List.getElem?_toArray,List.getElem?_cons_zero,g1]
       rfl
     ·cases ha
    ·cases ha
  ·cases ha
 ·rename_i x k t tys
  have hx := hρ x
  generalize hxv : ev x = xv at hx
  have hrun : ∀ v w',(Builtin.delete_ ⟨t :: tys⟩ oty #[xv,ev k]).run P w = .ok v w' → (execOp ev ⟨dst,.call ⟨.builtin .delete,⟨[x,k]⟩,⟨t :: tys⟩⟩,oty,pos,after,guard⟩).run P w = .ok (.value v) w' := by
   intro v w' hv
   simp [execOp,resolve,invoke,builtin,hxv,hv]
  split at ha
  ·rename_i kt e b hu he
   rw [he] at hx
   cases hx with
   | map _ r base size hs =>
   split at ha
   ·rename_i kd l hkd hc
    cases hf : fitX P kt kd (ρ k) with
    | false => simp [hf] at ha
    | true =>
     simp only [hf,cond_true] at ha
     obtain ⟨es,clock,h2,h3,h4,hst⟩ := H.mp hs hc
     have hgo : (getObj r).run P w = .ok (.map es clock) w := by simp [getObj,Sem.run,h2]
     have hso : ∀ o,(setObj r o).run P w = .ok () { w with heap := w.heap.setIfInBounds r o } := fun o => by simp [setObj,Sem.run,h2]
     have hchk := fun em => fitX_check (P := P) (w := w) (hρ k) hkd hf em
     split at ha
     ·rename_i i v hfi
      simp only [Option.some.injEq,Prod.mk.injEq] at ha
      obtain ⟨rfl,rfl,rfl⟩ := ha
      rcases findX_ok hkd (hρ k) h3 hfi with ⟨g,_⟩ | ⟨j,v',en,g1,g2,g3,g5,g7⟩
      ·cases g
      ·simp only [Option.some.injEq,Prod.mk.injEq] at g1
       obtain ⟨rfl,rfl⟩ := g1
       have hlt : i < es.size := by
        have := (List.getElem?_eq_some_iff.1 g5).1
        simpa using this
       refine ⟨σ,Go.undef,_,SubX.refl _ σ,H.dkPut hs (by rw [hc]; rfl),Nat.le_refl _,.inl (hrun _ _ ?_),.undef,H.setMap (es' := es.eraseIdxIfInBounds i) (clock' := clock) hs hc (by
        rw [show (es.eraseIdxIfInBounds i).toList = es.toList.eraseIdx i by rw [Array.eraseIdxIfInBounds_eq]; simp [hlt]]
        exact EsRel.drop h3 (by simpa using hlt)) (Go.MapKept.stamped_erase hst i)⟩
       simp only [Builtin.delete_,Sem.run_bind,run_underlying' hu,Result.andThen_ok,hgo,hchk,g2 w,hso,Sem.run_pure,List.getElem?_toArray,List.getElem?_cons_zero,List.getElem?_cons_succ]
       rfl
     ·rename_i hfi
      simp only [Option.some.injEq,Prod.mk.injEq] at ha
      obtain ⟨rfl,rfl,rfl⟩ := ha
      rcases findX_ok hkd (hρ k) h3 hfi with ⟨_,g2,_⟩ | ⟨j,v',u,g1,_⟩
      ·have hsame : (HS σ (cput HD h b (.mp l)) nx w0 B { w with heap := w.heap.setIfInBounds r (.map es clock) }) := H.setMap hs hc h3 hst
       have hw : ({ w with heap := w.heap.setIfInBounds r (.map es clock) } : World) = w := by
        have : w.heap.setIfInBounds r (.map es clock) = w.heap := by
         apply Array.ext_getElem?
         intro q
         by_cases hq : r = q
         ·subst hq; rw [h2]; simp [lt_of_get h2]
         ·simp [hq]
        rw [this]
       refine ⟨σ,Go.undef,w,SubX.refl _ σ,Dk.refl _ _,Nat.le_refl _,.inl (hrun _ _ ?_),.undef,H⟩
       simp only [Builtin.delete_,Sem.run_bind,run_underlying' hu,Result.andThen_ok,hgo,hchk,g2 w,hso,Sem.run_pure,List.getElem?_toArray,List.getElem?_cons_zero,List.getElem?_cons_succ,hw]
       rfl
      ·cases g1
     ·cases ha
   ·cases ha
  ·cases ha
 ·cases ha
end
end I
end Go.Proofs.YtinhinjpfmdfiaaGreatDoor
namespace Go.Proofs.YtinhinjpfmdfiaaGreatDoor
set_option linter.unusedVariables false
abbrev Dg := { l : List UInt8 // l.length = 32 }
def dlt (x y : Dg) : Bool := decide (I.val x.1 < I.val y.1)
theorem dlt_total {x y : Dg} (h1 : dlt x y = false) (h2 : dlt y x = false) : x = y := by
 simp only [dlt,decide_eq_false_iff_not] at h1 h2
 exact Subtype.ext (I.val_inj (x.2.trans y.2.symm) om)
def askL (all : List Dg) : List Dg → List Dg
 | [] => all
 | d :: l => askL (if d ∈ all then all else all ++ [d]) l
theorem mem_askL {x : Dg} : ∀ (l all : List Dg),x ∈ askL all l ↔ x ∈ all ∨ x ∈ l
 | [],all => by simp [askL]
 | d :: l,all => by
  rw [askL,mem_askL l]
  by_cases h : d ∈ all
  ·rw [if_pos h,List.mem_cons]
   constructor
   ·rintro (h1 | h1)
    ·exact .inl h1
    ·exact .inr (.inr h1)
   ·rintro (h1 | rfl | h1)
    ·exact .inl h1
    ·exact .inl h
    ·exact .inr h1
  ·rw [if_neg h,List.mem_append,List.mem_singleton,List.mem_cons,or_assoc]
theorem askL_nodup : ∀ (l : List Dg) {all : List Dg},all.Nodup → (askL all l).Nodup
 | [],all,h => h
 | d :: l,all,h => by
  rw [askL]
  apply askL_nodup l
  by_cases hd : d ∈ all
  ·rw [if_pos hd]; exact h
  ·rw [if_neg hd]
   refine List.nodup_append.2 ⟨h,by simp,?_⟩
   intro a ha b hb
   rw [List.mem_singleton.1 hb]
   exact fun e => hd (e ▸ ha)
theorem askL_get : ∀ (l all : List Dg) {i : Nat},i < all.length → (askL all l)[i]? = all[i]?
 | [],all,i,h => rfl
 | d :: l,all,i,h => by
  rw [askL]
  by_cases hd : d ∈ all
  ·rw [if_pos hd,askL_get l all h]
  ·rw [if_neg hd,askL_get l _ (by rw [List.length_append]; omega),List.getElem?_append_left h]
theorem askL_len (l all : List Dg) : all.length ≤ (askL all l).length := by
 induction l generalizing all with
 | nil => exact Nat.le_refl _
 | cons d l ih =>
  rw [askL]
  split
  ·exact ih all
  ·have := ih (all ++ [d])
   rw [List.length_append,List.length_singleton] at this
   omega
def stp (G : Dg → List Dg) (all : List Dg) : Nat → List Dg
 | 0 => all
 | k + 1 => match (stp G all k)[k]? with
  | some d => askL (stp G all k) (G d)
  | none => stp G all k
section
variable {G : Dg → List Dg} {all : List Dg}
theorem stp_nodup (h : all.Nodup) : ∀ k,(stp G all k).Nodup
 | 0 => h
 | k + 1 => by
  rw [stp]
  split
  ·exact askL_nodup _ (stp_nodup h k)
  ·exact stp_nodup h k
theorem stp_step {k : Nat} {d : Dg} (h : (stp G all k)[k]? = some d) : stp G all (k + 1) = askL (stp G all k) (G d) := by rw [stp,h]
theorem stp_len (k : Nat) : (stp G all k).length ≤ (stp G all (k + 1)).length := by
 rw [stp]
 split
 ·exact askL_len _ _
 ·exact Nat.le_refl _
theorem stp_get {k i : Nat} (h : i < (stp G all k).length) : ∀ n,(stp G all (k + n))[i]? = (stp G all k)[i]? ∧ (stp G all k).length ≤ (stp G all (k + n)).length
 | 0 => ⟨rfl,Nat.le_refl _⟩
 | n + 1 => by
  obtain ⟨h1,h2⟩ := stp_get h n
  have h3 := stp_len (G := G) (all := all) (k + n)
  refine ⟨?_,by rw [← Nat.add_assoc]; omega⟩
  rw [← h1,← Nat.add_assoc,stp]
  split
  ·exact askL_get _ _ om
  ·rfl
theorem stp_mem {x : Dg} {k : Nat} (h : x ∈ stp G all k) (n : Nat) : x ∈ stp G all (k + n) := by
 induction n with
 | zero => exact h
 | succ n ih =>
  rw [← Nat.add_assoc,stp]
  split
  ·exact (mem_askL _ _).2 (.inl ih)
  ·exact ih
end
structure Clo (G : Dg → List Dg) (first all : List Dg) : Prop where
 nodup : all.Nodup
 has : ∀ d ∈ first,d ∈ all
 shut : ∀ d ∈ all,∀ e ∈ G d,e ∈ all
 least : ∀ S : Dg → Prop,(∀ d ∈ first,S d) → (∀ d,S d → ∀ e ∈ G d,S e) → ∀ d ∈ all,S d
theorem stp_clo {G : Dg → List Dg} {first : List Dg} {K : Nat} (hK : ∀ k,k < K → k < (stp G (askL [] first) k).length) (hend : (stp G (askL [] first) K).length ≤ K) : Clo G first (stp G (askL [] first) K) := by
 refine ⟨stp_nodup (askL_nodup _ List.nodup_nil) K,fun d hd => ?_,fun d hd e he => ?_,fun S h1 h2 => ?_⟩
 ·have := stp_mem (G := G) (all := askL [] first) (k := 0) ((mem_askL first []).2 (.inr hd)) K
  rwa [Nat.zero_add] at this
 ·obtain ⟨j,hj,rfl⟩ := List.mem_iff_getElem.1 hd
  have hjK : j < K := by omega
  have hjl := hK j hjK
  have hg := (stp_get (G := G) (all := askL [] first) hjl (K - j)).1
  rw [show j + (K - j) = K by omega,List.getElem?_eq_getElem hj] at hg
  have hs := stp_step hg.symm
  have h3 : e ∈ stp G (askL [] first) (j + 1) := by rw [hs]; exact (mem_askL _ _).2 (.inr he)
  have := stp_mem h3 (K - (j + 1))
  rwa [show j + 1 + (K - (j + 1)) = K by omega] at this
 ·have h0 : ∀ k d,d ∈ stp G (askL [] first) k → S d := by
   intro k
   induction k with
   | zero =>
    intro d hd
    rcases (mem_askL first []).1 hd with h | h
    · cases h
    · exact h1 d h
   | succ k ih =>
    intro d hd
    rw [stp] at hd
    split at hd
    ·rename_i x hx
     rcases (mem_askL _ _).1 hd with h | h
     ·exact ih d h
     ·exact h2 x (ih x (List.mem_of_getElem? hx)) d h
    ·exact ih d hd
  exact h0 K
def dsrt (l : List Dg) : List Dg := l.mergeSort fun x y => !dlt y x
theorem dsrt_perm (l : List Dg) : (dsrt l).Perm l := List.mergeSort_perm l _
theorem mem_dsrt {x : Dg} {l : List Dg} : x ∈ dsrt l ↔ x ∈ l := (dsrt_perm l).mem_iff
theorem dsrt_len (l : List Dg) : (dsrt l).length = l.length := (dsrt_perm l).length_eq
theorem dsrt_sorted (l : List Dg) : (dsrt l).Pairwise fun x y => I.val x.1 ≤ I.val y.1 := by
 have h := List.pairwise_mergeSort (le := fun x y : Dg => !dlt y x) (fun a b c h1 h2 => by
  simp only [dlt,Bool.not_eq_true',decide_eq_false_iff_not] at *
  omega) (fun a b => by
  simp only [dlt,Bool.or_eq_true,Bool.not_eq_true',decide_eq_false_iff_not]
  omega) l
 refine h.imp fun {x y} hxy => ?_
 simp only [dlt,Bool.not_eq_true',decide_eq_false_iff_not] at hxy
 omega
theorem sorted_eq : ∀ {a b : List Dg},a.Perm b → a.Pairwise (fun x y => I.val x.1 ≤ I.val y.1) → b.Pairwise (fun x y => I.val x.1 ≤ I.val y.1) → a = b
 | [],b,hp,_,_ => by rw [List.nil_perm.1 hp]
 | x :: a,b,hp,ha,hb => by
  cases b with
  | nil => exact absurd hp.length_eq (by simp)
  | cons y b =>
   have hxy : x = y := by
    have h1 : x ∈ y :: b := hp.mem_iff.1 (List.mem_cons_self ..)
    have h2 : y ∈ x :: a := hp.mem_iff.2 (List.mem_cons_self ..)
    rcases List.mem_cons.1 h1 with e | h1
    ·exact e
    ·rcases List.mem_cons.1 h2 with e | h2
     ·exact e.symm
     ·have g1 := (List.pairwise_cons.1 ha).1 y h2
      have g2 := (List.pairwise_cons.1 hb).1 x h1
      exact Subtype.ext (I.val_inj (x.2.trans y.2.symm) om)
   subst hxy
   rw [sorted_eq ((List.perm_cons x).1 hp) (List.pairwise_cons.1 ha).2 (List.pairwise_cons.1 hb).2]
theorem dsrt_eq {a b : List Dg} (h : a.Perm b) : dsrt a = dsrt b := sorted_eq ((dsrt_perm a).trans (h.trans (dsrt_perm b).symm)) (dsrt_sorted a) (dsrt_sorted b)
theorem perm_of {a b : List Dg} (ha : a.Nodup) (hb : b.Nodup) (h : ∀ x,x ∈ a ↔ x ∈ b) : a.Perm b := (List.perm_ext_iff_of_nodup ha hb).2 h
section
variable {G : Dg → List Dg} {x y : Dg} {a p q c : List Dg}
theorem clo_again (ha : Clo G [x,y] a) (hc : Clo G (dsrt a) c) : dsrt c = dsrt a := by
 refine dsrt_eq (perm_of hc.nodup ha.nodup fun d => ⟨hc.least (· ∈ a) (fun d hd => mem_dsrt.1 hd) (fun d hd e he => ha.shut d hd e he) d,fun hd => hc.has d (mem_dsrt.2 hd)⟩)
theorem clo_in (ha : Clo G [x,y] a) (hp : Clo G [x] p) (hq : Clo G [y] q) {d : Dg} (hd : d ∈ a) : d ∈ p ∨ d ∈ q := by
 refine ha.least (fun d => d ∈ p ∨ d ∈ q) (fun d hd => ?_) (fun d hd e he => ?_) d hd
 ·rcases List.mem_cons.1 hd with rfl | hd
  ·exact .inl (hp.has _ (List.mem_cons_self ..))
  ·exact .inr (hq.has _ hd)
 ·rcases hd with hd | hd
  ·exact .inl (hp.shut d hd e he)
  ·exact .inr (hq.shut d hd e he)
theorem clo_sub1 (ha : Clo G [x,y] a) (hp : Clo G [x] p) : ∀ d ∈ p,d ∈ a := hp.least (· ∈ a) (fun d hd => ha.has d (by rw [List.mem_singleton.1 hd]; exact List.mem_cons_self ..)) ha.shut
theorem clo_sub2 (ha : Clo G [x,y] a) (hq : Clo G [y] q) : ∀ d ∈ q,d ∈ a := hq.least (· ∈ a) (fun d hd => ha.has d (by rw [List.mem_singleton.1 hd]; exact List.mem_cons_of_mem _ (List.mem_cons_self ..))) ha.shut
theorem clo_len (ha : Clo G [x,y] a) (hp : Clo G [x] p) (hq : Clo G [y] q) : a.length ≤ p.length + q.length ∧ p.length ≤ a.length ∧ q.length ≤ a.length := by
 refine ⟨?_,?_,?_⟩
 ·have := List.Nodup.length_le_of_subset ha.nodup (l₂ := p ++ q) fun d hd => List.mem_append.2 (clo_in ha hp hq hd)
  rwa [List.length_append] at this
 ·exact List.Nodup.length_le_of_subset hp.nodup (clo_sub1 ha hp)
 ·exact List.Nodup.length_le_of_subset hq.nodup (clo_sub2 ha hq)
end
end Go.Proofs.YtinhinjpfmdfiaaGreatDoor
namespace Go.Proofs.YtinhinjpfmdfiaaGreatDoor
namespace K
open Go.MapKept
structure MapOk (es : Array MapEntry) (ck : Nat) (W : List (Int × Value)) : Prop where
 rel : es.toList.map (fun e => (e.key,e.val)) = W.map fun p => (Value.int .i64 p.1,p.2)
 st : Stamped es ck
section
variable {P : Program} {w : World}
end
section
variable {C : Cx} {R O : List (Nat × Obj)} {Γ : Env} {op : Oper}
theorem Eff.mapNew {t : TypeId} (ho : op.op = .makeMap t none) : Eff C R O Γ op Nat (fun b => .map (some b)) (fun b => (b,.map #[] 0) :: O) (fun b => C.w0.heap.size ≤ b ∧ b ∉ O.map (·.1)) := by
 refine Eff.of_run fun a w hs hp => ⟨w.heap.size,w.alloc (.map #[] 0),⟨hp.ext.size,hp.fresh (Nat.le_refl _)⟩,?_,hp.alloc _⟩
 simp [execOp,ho,Instr.makeMap,newObj,Sem.run]
theorem MapOk.empty (ck : Nat) : MapOk #[] ck [] := ⟨rfl,stamped_empty ck⟩
end
end K
end Go.Proofs.YtinhinjpfmdfiaaGreatDoor
namespace Go.Proofs.YtinhinjpfmdfiaaGreatDoor
namespace K
open Go.MapKept
structure DMapOk (n : Nat) (es : Array MapEntry) (ck : Nat) (W : List (List UInt8 × Value)) : Prop where
 rel : es.toList.map (fun e => (e.key,e.val)) = W.map fun p => (Value.agg (bv p.1),p.2)
 st : Stamped es ck
 len : ∀ p ∈ W,p.1.length = n
def dfind (k : List UInt8) : List (List UInt8 × Value) → Nat → Option (Nat × Value)
 | [],_ => none
 | p :: W,i => if k = p.1 then some (i,p.2) else dfind k W (i + 1)
def dget (W : List (List UInt8 × Value)) (k : List UInt8) : Option Value := match W with
 | [] => none
 | p :: W => if k = p.1 then some p.2 else dget W k
def dset (W : List (List UInt8 × Value)) (k : List UInt8) (v : Value) : List (List UInt8 × Value) := match W with
 | [] => [(k,v)]
 | p :: W => if k = p.1 then (k,v) :: W else p :: dset W k v
theorem dfind_get (k : List UInt8) : ∀ (W : List (List UInt8 × Value)) (i : Nat),(dfind k W i).map (·.2) = dget W k
 | [],_ => rfl
 | p :: W,i => by
  unfold dfind dget
  split
  ·rfl
  ·exact dfind_get k W (i + 1)
theorem dset_keys {W : List (List UInt8 × Value)} {k : List UInt8} {v : Value} : ∀ p ∈ dset W k v,p.1 = k ∨ p ∈ W := by
 induction W with
 | nil => intro p hp; rw [dset] at hp; rw [List.mem_singleton.1 hp]; exact .inl rfl
 | cons q W ih =>
  intro p hp
  unfold dset at hp
  split at hp
  ·rcases List.mem_cons.1 hp with rfl | hp
   ·exact .inl rfl
   ·exact .inr (List.mem_cons_of_mem _ hp)
  ·rcases List.mem_cons.1 hp with rfl | hp
   ·exact .inr (List.mem_cons_self ..)
   ·rcases ih p hp with h | h
    ·exact .inl h
    ·exact .inr (List.mem_cons_of_mem _ h)
theorem dfind_some {k : List UInt8} : ∀ {W : List (List UInt8 × Value)} {i j : Nat} {v : Value},dfind k W i = some (j,v) → i ≤ j ∧ W[j - i]? = some (k,v)
 | [],_,_,_,h => by cases h
 | p :: W,i,j,v,h => by
  unfold dfind at h
  split at h
  ·rename_i hk
   simp only [Option.some.injEq,Prod.mk.injEq] at h
   obtain ⟨rfl,rfl⟩ := h
   refine ⟨Nat.le_refl _,?_⟩
   rw [Nat.sub_self,List.getElem?_cons_zero,hk]
  ·obtain ⟨h1,h2⟩ := dfind_some h
   refine ⟨by omega,?_⟩
   rw [show j - i = (j - (i + 1)) + 1 by omega,List.getElem?_cons_succ]; exact h2
theorem dfind_set {k : List UInt8} (u : Value) : ∀ {W : List (List UInt8 × Value)} {i j : Nat} {v : Value},dfind k W i = some (j,v) → dset W k u = W.set (j - i) (k,u)
 | [],_,_,_,h => by cases h
 | p :: W,i,j,v,h => by
  unfold dfind at h
  unfold dset
  split at h
  ·rename_i hk
   simp only [Option.some.injEq,Prod.mk.injEq] at h
   obtain ⟨rfl,rfl⟩ := h
   rw [if_pos hk,Nat.sub_self,List.set_cons_zero]
  ·rename_i hk
   have h1 := (dfind_some h).1
   rw [if_neg hk,dfind_set u h,show j - i = (j - (i + 1)) + 1 by omega,List.set_cons_succ]
theorem dfind_none {k : List UInt8} (u : Value) : ∀ {W : List (List UInt8 × Value)} {i : Nat},dfind k W i = none → dset W k u = W ++ [(k,u)] ∧ ∀ p ∈ W,p.1 ≠ k
 | [],_,_ => ⟨rfl,fun p h => by cases h⟩
 | p :: W,i,h => by
  unfold dfind at h
  unfold dset
  split at h
  ·cases h
  ·rename_i hk
   obtain ⟨h1,h2⟩ := dfind_none u h
   rw [if_neg hk,h1]
   refine ⟨rfl,fun q hq => ?_⟩
   rcases List.mem_cons.1 hq with rfl | hq
   ·exact fun e => hk e.symm
   ·exact h2 q hq
theorem dset_d {n : Nat} {W : List (List UInt8 × Value)} {k : List UInt8} {v : Value} (hk : k.length = n) (h : ∀ p ∈ W,p.1.length = n) : ∀ p ∈ dset W k v,p.1.length = n := fun p hp => by
 rcases dset_keys p hp with e | e
 ·rw [e]; exact hk
 ·exact h p e
theorem bv_inj {a b : List UInt8} (h : bv a = bv b) : a = b := by
 have hlen : a.length = b.length := by rw [← bv_size a,← bv_size b,h]
 refine List.ext_getElem hlen fun i h1 h2 => ?_
 have e3 := congrArg (fun z : Array Value => z[i]?) h
 simp only [bv,List.getElem?_toArray,List.getElem?_map,List.getElem?_eq_getElem h1,List.getElem?_eq_getElem h2,Option.map_some,Option.some.injEq,Value.int.injEq,true_and] at e3
 exact UInt8.toNat_inj.1 om
structure DKey (P : Program) (kt e : TypeId) (n : Nat) : Prop where
 arr : P.underlying kt = some (.array n e)
 byte : P.underlying e = some (.int .u8)
 size : (P.info? e).map (·.size) = some 1
section
variable {P : Program} {w : World} {kt el : TypeId} {n : Nat}
theorem dkey_check (hd : DKey P kt el n) {xs : List UInt8} (hx : xs.length = n) (em : Bool) : (Instr.checkKey em 10000 kt (.agg (bv xs))).run P w = .ok () w := by
 obtain ⟨ht,he,hsz⟩ := hd
 obtain ⟨inf,hi,hs⟩ := Option.map_eq_some_iff.1 hsz
 have hz : ∀ w,(sizeOf el).run P w = .ok 1 w := fun w => by rw [run_sizeOf' hi,hs]
 show (Instr.checkKey em (9999 + 1) kt _).run P w = _
 rw [Instr.checkKey]
 simp only [Sem.run_bind,run_underlying' ht,Result.andThen_ok,Std.Legacy.Range.forIn_eq_forIn_range',Std.Legacy.Range.size,Nat.sub_zero,Nat.add_sub_cancel,Nat.div_one]
 have hl : ∀ i ∈ List.range' 0 n 1,i < n := fun i hi => by simpa using (List.mem_range'_1.1 hi).2
 generalize List.range' 0 n 1 = l at hl ⊢
 induction l with
 | nil => simp
 | cons i l ih =>
  have hi : i < n := hl i (by simp)
  have px : (part el (bv xs) (i * 1)).run P w = .ok (.int .u8 ((xs.getD i 0).toNat : Int)) w := by
   simp [part,isAgg,run_underlying' he,bv,List.getD,List.getElem?_eq_getElem (show i < xs.length by omega)]
  have pe : (Instr.checkKey em 9999 el (.int .u8 ((xs.getD i 0).toNat : Int))).run P w = .ok () w := by
   show (Instr.checkKey em (9998 + 1) el _).run P w = _
   rw [Instr.checkKey]
   simp only [Sem.run_bind,run_underlying' he,Result.andThen_ok]
   rfl
  simp only [List.forIn_cons,Sem.run_bind,hz,px,pe,Result.andThen_ok,Sem.run_pure]
  exact ih fun j hj => hl j (by simp [hj])
theorem dbits_self (l : List UInt8) : Instr.sameBits 10000 (.agg (bv l)) (.agg (bv l)) = true := by
 show Instr.sameBits (9999 + 1) _ _ = true
 unfold Instr.sameBits
 simp only [beq_self_eq_true,Bool.true_and,bv]
 induction l with
 | nil => rfl
 | cons b l ih =>
  simp only [List.map_cons,List.zip_cons_cons,List.all_cons] at ih ⊢
  rw [Bool.and_eq_true]
  exact ⟨by simp [Instr.sameBits],ih⟩
theorem dfind_of (hd : DKey P kt el n) {k : List UInt8} (hk : k.length = n) : ∀ (es : List MapEntry) (W : List (List UInt8 × Value)) (i : Nat),es.map (fun e => (e.key,e.val)) = W.map (fun p => (Value.agg (bv p.1),p.2)) → (∀ p ∈ W,p.1.length = n) →
  (Instr.findAsking kt (.agg (bv k)) es i).run P w = .ok (dfind k W i) w
 | [],[],_,_,_ => by
  unfold Instr.findAsking
  simp only [Sem.run_pure]; rfl
 | [],_ :: _,_,h,_ => by simp at h
 | _ :: _,[],_,h,_ => by simp at h
 | e :: es,p :: W,i,h,hl => by
  simp only [List.map_cons,List.cons.injEq,Prod.mk.injEq] at h
  obtain ⟨⟨h1,h2⟩,h3⟩ := h
  have heq : (Op.equal kt (.agg (bv k)) e.key).run P w = .ok (k == p.1) w := by
   rw [h1]; exact equal_bv hd.arr hd.byte hd.size hk (hl p (List.mem_cons_self ..))
  unfold Instr.findAsking dfind
  by_cases hkp : k = p.1
  ·rw [if_pos hkp]
   simp only [Sem.run_bind,heq,Result.andThen_ok,show (k == p.1) = true from beq_iff_eq.2 hkp,if_true,Sem.run_pure,h2]
  ·rw [if_neg hkp]
   simp only [Sem.run_bind,heq,Result.andThen_ok,show (k == p.1) = false from beq_eq_false_iff_ne.2 hkp,Bool.false_eq_true,if_false]
   exact dfind_of hd hk es W (i + 1) h3 fun q hq => hl q (List.mem_cons_of_mem _ hq)
theorem dkey_find (hd : DKey P kt el n) {k : List UInt8} (hk : k.length = n) {es : Array MapEntry} {ck : Nat} {W : List (List UInt8 × Value)} (h : DMapOk n es ck W) : (Instr.findKey kt (.agg (bv k)) es.toList).run P w = .ok (dfind k W 0) w := by
 have h1 := dfind_of (w := w) hd hk es.toList W 0 h.rel h.len
 unfold Instr.findKey
 simp only [Sem.run_bind,run_underlying' hd.arr,Result.andThen_ok]
 rw [← h1]
 generalize es.toList = l
 cases l with
 | nil => unfold Instr.findAsking; simp only [Instr.findNow]
 | cons en es => simp only [Instr.findNow,Instr.sameNow]
theorem drun_lookup {t kt e : TypeId} {k : List UInt8} {r : Nat} {es : Array MapEntry} {ck : Nat} {W : List (List UInt8 × Value)} {z : Value} (hm : P.underlying t = some (.map kt e)) (hd : DKey P kt el n) (hkn : k.length = n) (hz0 : (P.info? e).bind (·.zero) = some z) (hb : w.heap[r]? = some (.map es ck)) (h : DMapOk n es ck W) (ok : Bool) :
  (Instr.lookup t (.map (some r)) (.agg (bv k)) ok).run P w = .ok (if ok then .tuple #[(dget W k).getD z,.bool (dget W k).isSome] else (dget W k).getD z) w := by
 obtain ⟨inf,hi,hz⟩ := Option.bind_eq_some_iff.1 hz0
 have hzv : (zeroValue e).run P w = .ok z w := by simp [zeroValue,typeInfo,program,Sem.run,hi,hz]
 unfold Instr.lookup
 simp only [Sem.run_bind,run_underlying' hm,Result.andThen_ok,Go.MapKept.run_getObj_map hb,Sem.run_pure,dkey_check hd hkn,dkey_find hd hkn h]
 rw [← dfind_get k W 0]
 cases dfind k W 0 with
 | none => simp only [Sem.run_bind,hzv,Result.andThen_ok,Sem.run_pure]; cases ok <;> rfl
 | some p => cases ok <;> rfl
theorem drun_mapUpdate {t kt e : TypeId} {k : List UInt8} {v : Value} {r : Nat} {es : Array MapEntry} {ck : Nat} {W : List (List UInt8 × Value)} (hm : P.underlying t = some (.map kt e)) (hd : DKey P kt el n) (hkn : k.length = n) (hb : w.heap[r]? = some (.map es ck)) (h : DMapOk n es ck W) :
  ∃ es' ck',DMapOk n es' ck' (dset W k v) ∧ (Instr.mapUpdate t (.map (some r)) (.agg (bv k)) v).run P w = .ok () { w with heap := w.heap.setIfInBounds r (.map es' ck') } := by
 cases hf : dfind k W 0 with
 | none =>
  obtain ⟨h1,h2⟩ := dfind_none v hf
  refine ⟨es.push { key := .agg (bv k),val := v,born := ck },ck + 1,⟨?_,stamped_push h.st ?_,dset_d hkn h.len⟩,?_⟩
  ·rw [Array.toList_push,List.map_append,h.rel,h1,List.map_append]; rfl
  ·intro x hx hk
   have hx2 : (x.key,x.val) ∈ W.map fun p => (Value.agg (bv p.1),p.2) := by rw [← h.rel]; exact List.mem_map.2 ⟨x,hx,rfl⟩
   obtain ⟨p,hp,he⟩ := List.mem_map.1 hx2
   simp only [Prod.mk.injEq] at he
   rw [hk] at he
   have := he.1
   simp only [Value.agg.injEq] at this
   exact h2 p hp (bv_inj this)
  ·simp only [Instr.mapUpdate,Sem.run_bind,run_underlying' hm,Result.andThen_ok,Go.MapKept.run_getObj_map hb,dkey_check hd hkn,dkey_find hd hkn h,hf,Go.MapKept.run_setObj_map _ hb]
 | some jp =>
  obtain ⟨j,u⟩ := jp
  obtain ⟨_,hW⟩ := dfind_some hf
  rw [Nat.sub_zero] at hW
  have hlen : es.toList.length = W.length := by have := congrArg List.length h.rel; simpa using this
  have hjW : j < W.length := (List.getElem?_eq_some_iff.1 hW).1
  have hj : j < es.size := by rw [← Array.length_toList]; omega
  have hej : (es[j].key,es[j].val) = (Value.agg (bv k),u) := by
   have h3 : (es.toList.map (fun e => (e.key,e.val)))[j]? = (W.map fun p => (Value.agg (bv p.1),p.2))[j]? := by rw [h.rel]
   rw [List.getElem?_map,List.getElem?_map,hW,Array.getElem?_toList,Array.getElem?_eq_getElem hj] at h3
   simpa using h3
  simp only [Prod.mk.injEq] at hej
  have hkt : (Instr.keyThatStays (((es[j]?).map (·.key)).getD (.agg (bv k))) (.agg (bv k))).run P w = .ok (.agg (bv k)) w := by
   rw [Array.getElem?_eq_getElem hj,Option.map_some,Option.getD_some,hej.1]
   simp only [Instr.keyThatStays,dbits_self,if_true]; rfl
  refine ⟨es.modify j (fun e => { e with key := .agg (bv k),val := v }),ck,⟨?_,stamped_modify h.st j _ (fun _ _ => rfl) (fun e _ hge => by rw [Array.getElem?_eq_getElem hj] at hge; cases hge; exact hej.1.symm),dset_d hkn h.len⟩,?_⟩
  ·rw [dfind_set v hf,Nat.sub_zero,List.map_set,← h.rel]
   apply List.ext_getElem?
   intro q
   simp only [List.getElem?_map,Array.getElem?_toList,Array.getElem?_modify,List.getElem?_set,List.length_map,Array.length_toList]
   by_cases hq : j = q
   ·subst hq; simp [hj]
   ·simp [hq]
  ·simp only [Instr.mapUpdate,Sem.run_bind,run_underlying' hm,Result.andThen_ok,Go.MapKept.run_getObj_map hb,dkey_check hd hkn,dkey_find hd hkn h,hf,hkt,Go.MapKept.run_setObj_map _ hb]
end
section
variable {C : Cx} {R O : List (Nat × Obj)} {Γ : Env} {op : Oper} {el : TypeId} {n : Nat}
theorem Eff.dGet {t kt e : TypeId} {x y : Operand} {ok : Bool} (ho : op.op = .lookup t x y ok) (hm : C.P.underlying t = some (.map kt e)) (hd : DKey C.P kt el n) {z : Value} (hz0 : (C.P.info? e).bind (·.zero) = some z) {r : Nat} {k : List UInt8} (hkn : k.length = n) (hx : opd Γ [] x = some (.map (some r))) (hy : opd Γ [] y = some (.agg (bv k)))
  {es : Array MapEntry} {ck : Nat} {W : List (List UInt8 × Value)} (h : DMapOk n es ck W) (hb : ∀ w,HP C.w0 C.M R O w → w.heap[r]? = some (.map es ck)) :
  Eff C R O Γ op Unit (fun _ => if ok then .tuple #[(dget W k).getD z,.bool (dget W k).isSome] else (dget W k).getD z) (fun _ => O) (fun _ => True) :=
 Eff.of_run fun a w hs hp => ⟨(),w,trivial,by
  simp only [execOp,ho]
  refine run_v ?_
  rw [opd_ok hs (holds_nil _) hx,opd_ok hs (holds_nil _) hy]
  exact drun_lookup hm hd hkn hz0 (hb w hp) h ok,hp⟩
theorem Eff.dSet {t kt e : TypeId} {x y v : Operand} (ho : op.op = .mapUpdate t x y v) (hm : C.P.underlying t = some (.map kt e)) (hd : DKey C.P kt el n) {r : Nat} {k : List UInt8} {u : Value} (hkn : k.length = n) (hx : opd Γ [] x = some (.map (some r))) (hy : opd Γ [] y = some (.agg (bv k))) (hv : opd Γ [] v = some u)
  {es : Array MapEntry} {ck : Nat} {W : List (List UInt8 × Value)} (h : DMapOk n es ck W) (i : Nat) (hO : O[i]? = some (r,.map es ck)) :
  Eff C R O Γ op (Array MapEntry × Nat) (fun _ => undef) (fun x => O.set i (r,.map x.1 x.2)) (fun x => DMapOk n x.1 x.2 (dset W k u)) := by
 refine Eff.of_skip fun a w hs hp => ?_
 obtain ⟨es',ck',h1,h2⟩ := drun_mapUpdate (v := u) (k := k) hm hd hkn (hp.own _ (List.mem_of_getElem? hO)) h
 refine ⟨(es',ck'),_,h1,?_,hp.set i (.map es' ck') hO (w' := { w with heap := w.heap.setIfInBounds r (.map es' ck') }) rfl rfl rfl rfl⟩
 have e1 := opd_ok hs (holds_nil _) hx
 have e2 := opd_ok hs (holds_nil _) hy
 have e3 := opd_ok hs (holds_nil _) hv
 simp [execOp,ho,e1,e2,e3,h2]
theorem DMapOk.empty (n ck : Nat) : DMapOk n #[] ck [] := ⟨rfl,stamped_empty ck,fun _ h => by cases h⟩
end
end K
end Go.Proofs.YtinhinjpfmdfiaaGreatDoor
namespace Go.Proofs.YtinhinjpfmdfiaaGreatDoor
open K
set_option linter.unusedVariables false
def dgd (d : Dg) : List Value := dgc d.1
def dgz : Dg := ⟨d0,d0_len⟩
theorem dgd_len (d : Dg) : (dgd d).length = 32 := dgc_len d.2
theorem all_dgd (d : Dg) : ∀ v ∈ dgd d,K.one v = true := all_dgc d.1
theorem dgd_byte (d : Dg) {j : Nat} (hj : j < 32) : (dgd d)[j]? = some (.int .u8 ((d.1.getD j 0).toNat : Int)) := dg_byte d.2 hj
def dpos (d : Dg) : List Dg → Nat → Nat
 | [],_ => 0
 | x :: l,k => if d = x then k + 1 else dpos d l (k + 1)
theorem dpos_zero {d : Dg} : ∀ {l : List Dg} (k : Nat),dpos d l k = 0 ↔ d ∉ l
 | [],k => by simp [dpos]
 | x :: l,k => by
  rw [dpos]
  by_cases h : d = x
  ·rw [if_pos h,h]; simp
  ·rw [if_neg h,dpos_zero (k + 1),List.mem_cons]; simp [h]
def lw : List Dg → Nat → List (List UInt8 × Value)
 | [],_ => []
 | d :: l,k => (d.1,.int .i64 ((k + 1 : Nat) : Int)) :: lw l (k + 1)
theorem dget_lw (d : Dg) : ∀ (l : List Dg) (k : Nat),(dget (lw l k) d.1).getD (.int .i64 0) = .int .i64 ((dpos d l k : Nat) : Int)
 | [],_ => rfl
 | x :: l,k => by
  rw [lw,dget,dpos]
  by_cases h : d = x
  ·rw [if_pos h,if_pos (congrArg Subtype.val h)]; rfl
  ·rw [if_neg h,if_neg (fun e => h (Subtype.ext e))]; exact dget_lw d l (k + 1)
theorem dset_lw {d : Dg} : ∀ {l : List Dg} (k : Nat),d ∉ l → dset (lw l k) d.1 (.int .i64 ((k + l.length + 1 : Nat) : Int)) = lw (l ++ [d]) k
 | [],k,_ => rfl
 | x :: l,k,h => by
  have h1 : ¬ d.1 = x.1 := fun e => h (by rw [Subtype.ext e]; exact List.mem_cons_self ..)
  have h2 : d ∉ l := fun e => h (List.mem_cons_of_mem _ e)
  have h3 := dset_lw (k + 1) h2
  rw [lw,dset,if_neg h1,List.cons_append,lw,← h3,List.length_cons]
  congr 4
  omega
abbrev MX2 := Array MapEntry × Nat
def lC (mb : Nat) (ow : K.Own) (all : List Dg) : Array Value := #[.map (some mb),.slice (Own.a ow) all.length (Own.c ow)]
def lO (ln mb : Nat) (x : MX2) (ow : K.Own) (all : List Dg) : List (Nat × Obj) := [(ln,.cells (lC mb ow all) 70 (0,0)),(mb,.map x.1 x.2)] ++ Own.o 35 (all.flatMap dgd) ow
theorem ask_step {all more : List Dg} {i : Nat} (hi : i < more.length) : askL all (more.take (i + 1)) = if more.getD i dgz ∈ askL all (more.take i) then askL all (more.take i) else askL all (more.take i) ++ [more.getD i dgz] := by
 have h : more.take (i + 1) = more.take i ++ [more.getD i dgz] := by
  rw [List.take_succ_eq_append_getElem hi,List.getD_eq_getElem?_getD,List.getElem?_eq_getElem hi]; rfl
 rw [h]
 generalize more.getD i dgz = d
 generalize more.take i = l
 induction l generalizing all with
 | nil => rfl
 | cons x l ih => rw [List.cons_append,askL,ih,askL]
theorem askL_max (l all : List Dg) : (askL all l).length ≤ all.length + l.length := by
 induction l generalizing all with
 | nil => exact Nat.le_refl _
 | cons d l ih =>
  rw [askL]
  have := ih (if d ∈ all then all else all ++ [d])
  split at this
  ·rw [if_pos (by assumption)]; simp only [List.length_cons]; omega
  ·rw [if_neg (by assumption)]; simp only [List.length_append,List.length_cons,List.length_nil] at *; omega
theorem zdg_size : (bv (List.replicate 32 0)).size = 32 := by kernel_rfl
theorem flat_dgd (l : List Dg) : (l.flatMap dgd).length = l.length * 32 := flat_len (fun x _ => dgd_len x)
theorem dKey : DKey Tryz.prog 35 5 32 := ⟨Tryz.underlying35,Tryz.underlying5,by kernel_rfl⟩
theorem askGet {C : Cx} {R O : List (Nat × Obj)} {Γ : Env} {op : Oper} {t kt el : TypeId} {x y : Operand} {d : Dg} {l : List Dg} {e : TypeId} (ho : op.op = .lookup t x y false) (hm : C.P.underlying t = some (.map kt e)) (hd : DKey C.P kt el 32) (hz0 : (C.P.info? e).bind (·.zero) = some (.int .i64 0)) {r : Nat} (hx : opd Γ [] x = some (.map (some r))) (hy : opd Γ [] y = some (.agg (bv d.1)))
  {es : Array MapEntry} {ck : Nat} (h : DMapOk 32 es ck (lw l 0)) (hb : ∀ w,HP C.w0 C.M R O w → w.heap[r]? = some (.map es ck)) : Eff C R O Γ op Unit (fun _ => .int .i64 ((dpos d l 0 : Nat) : Int)) (fun _ => O) (fun _ => True) := by
 have h1 := Eff.dGet (z := .int .i64 0) ho hm hd hz0 d.2 hx hy h hb
 rw [dget_lw] at h1
 exact h1
set_option maxRecDepth 100000 in
set_option maxHeartbeats 4000000 in
theorem lAsk (ln mb : Nat) (x : MX2) (ow : K.Own) (all : List Dg) (la : Option Addr) (ca : Nat) (more : List Dg) (Rl : List (Nat × Obj)) (w : World) (hI : InF dgd 32 Rl la more) (hok0 : OwnOk ow 32 all.length (all.flatMap dgd)) (hm0 : DMapOk 32 x.1 x.2 (lw all 0)) (hR : Has w Rl) (hA : Has w (lO ln mb x ow all)) (hd : ((lO ln mb x ow all).map (·.1)).Nodup) (hnr : ∀ e ∈ Rl,e.1 ∉ (lO ln mb x ow all).map (·.1)) (hn : all.length + more.length ≤ 1000000) :
  Calls Tryz.prog 15 #[.pointer (some ⟨ln,0,none⟩),.slice la more.length ca] w fun e w' => ∃ (x2 : MX2) (ow2 : K.Own),OwnOk ow2 32 (askL all more).length ((askL all more).flatMap dgd) ∧ DMapOk 32 x2.1 x2.2 (lw (askL all more) 0) ∧ e = .returned (.tuple #[]) ∧ ∃ R1,HP w ((lO ln mb x ow all).map (·.1)) R1 (lO ln mb x2 ow2 (askL all more)) w' := by
 refine enter (vs := [.pointer (some ⟨ln,0,none⟩),.slice la more.length ca]) ((lO ln mb x ow all).map (·.1)) Rl ([(ln,.cells #[.map (some mb),.slice (Own.a ow) all.length (Own.c ow)] 70 (0,0)),(mb,.map x.1 x.2)] ++ (Own.o 35 (all.flatMap dgd) ow ++ [])) Tryz.func15 rfl kr (by rw [List.append_nil]; exact HP.ofL hA hd hR hnr) ?_
 refine Rg [0,6,7,8] [] n0 trivial ?_
 refine Cfg.loop rfl (ι := Nat × MX2 × K.Own) (fun (xz : Nat × MX2 × K.Own) => match xz with | (i,y,oz) => [(8,[],.int .i64 (i : Int)),(7,[],.int .i64 (more.length : Int)),(6,[],.slice la more.length ca),(0,[],.pointer (some ⟨ln,0,none⟩))]) (fun (xz : Nat × MX2 × K.Own) => match xz with | (i,y,oz) => ([(ln,.cells #[.map (some mb),.slice (Own.a oz) ((askL all (more.take i)).length) (Own.c oz)] 70 (0,0)),(mb,.map y.1 y.2)] ++ (Own.o 35 ((askL all (more.take i)).flatMap dgd) oz ++ []))) (fun (xz : Nat × MX2 × K.Own) => match xz with | (i,y,oz) => (i ≤ more.length) ∧ (OwnOk oz 32 (askL all (more.take i)).length ((askL all (more.take i)).flatMap dgd)) ∧ (DMapOk 32 y.1 y.2 (lw (askL all (more.take i)) 0))) (fun (xz : Nat × MX2 × K.Own) => match xz with | (i,y,oz) => more.length - i) (0,x,ow) ?_ (Conv.mk kr) (List.Sublist.refl _) ?_
 ·exact ⟨Nat.zero_le _,hok0,hm0⟩
 ·rintro ⟨i,y,oz⟩ ⟨hi,hok,hm⟩
  refine Rg [0,6,7,8,9] [] n0 trivial ?_
  refine Cfg.cond rfl (b := (decide ((i : Int) < (more.length : Int)))) kr (fun c1r => ?_) (fun c1r => ?_)
  ·have c1 := (of_decide_eq_true c1r)
   obtain ⟨sa,offa,csa,tea,frea,rfl,hma,hca⟩ := hI om
   refine Conv.cfg (Γ' := [(9,[],.bool (decide ((i : Int) < (more.length : Int)))),(8,[],.int .i64 (i : Int)),(7,[],.int .i64 (more.length : Int)),(6,[],.slice (some ⟨sa,offa,none⟩) more.length ca),(0,[],.pointer (some ⟨ln,0,none⟩))]) (Conv.mk kr) ?_
   refine Cfg.begL rfl ?_
   refine Lp 2 [dZ,(0,false,some (.agg (bv (more.getD i dgz).1)))] (some [0,6,7,8,11]) (fun S => [(0 ≤ (i : Int) ∧ (i : Int) < (more.length : Int)),(∀ w1,S w1 → (loadVar 35 ⟨sa,(addO offa (i * 32)),none⟩).run Tryz.prog w1 = .ok (.agg (bv (more.getD i dgz).1)) w1)]) ⟨om,(fun w1 h => load_bytes Tryz.underlying35 rfl kr (more.getD i dgz).2 (fun j hj => by rw [addO_eq]; exact (cell_cells (h.ro _ hma)).trans (fl_cell dgz (fun x _ => dgd_len x) hca om (dgd_byte (more.getD i dgz) hj)))),trivial⟩ ?_
   refine Le (Eff.alloc (z := (.agg (bv (List.replicate 32 0)))) rfl kr) ?_
   rintro db ⟨hdb,ndb⟩
   refine Le (Eff.storeN (b := db) (off := 0) (vs := (bv (more.getD i dgz).1)) (n := 32) rfl kr kr kr ((bv_size _).trans (more.getD i dgz).2) (all_bv _) 0 (cs := (bv (List.replicate 32 0))) (e := 35) kr (by rw [zdg_size]; omega)) ?_
   rintro ⟨⟩ -
   refine CfgL.setO (congrArg (fun (xq : Array Value) => (([(db,.cells xq 35 (0,0)),(ln,.cells #[.map (some mb),.slice (Own.a oz) ((askL all (more.take i)).length) (Own.c oz)] 70 (0,0)),(mb,.map y.1 y.2)] ++ (Own.o 35 ((askL all (more.take i)).flatMap dgd) oz ++ [])) : List (Nat × Obj))) (show _ = (bv ((more.getD i dgz).1)) from spl_all (((bv_size _).trans (more.getD i dgz).2).trans zdg_size.symm))) ?_
   refine CfgL.done rfl ?_
   refine Cg (Γ' := [(5,[],.pointer (some ⟨db,0,none⟩)),(8,[],.int .i64 (i : Int)),(7,[],.int .i64 (more.length : Int)),(6,[],.slice (some ⟨sa,offa,none⟩) more.length ca),(0,[],.pointer (some ⟨ln,0,none⟩))]) ?_
   refine Cfg.begA rfl kr [(db,.cells (bv ((more.getD i dgz).1)) 35 (0,0))] ?_
   refine Ap [0,1,2,4] [dZ,dZ,dZ,(0,false,some (.agg (bv ((more.getD i dgz).1))))] (some [0,5,6,7,8,14,16]) #[true,true,true,false,true,false,false] (.cons_cons _ (.cons _ (.cons _ (List.nil_sublist _)))) 3 (fun S => [(∀ w1,S w1 → (loadVar 35 ⟨db,0,none⟩).run Tryz.prog w1 = .ok (.agg (bv ((more.getD i dgz).1))) w1)]) ⟨(fun w1 h => h.oload 0 rfl Tryz.underlying35 rfl (n := 32) kr ((bv_size _).trans (more.getD i dgz).2)),trivial⟩ ?_
   refine Ae 3 rfl 2  (Eff.quiet (raw := false) (orc := some (.map (some mb))) (v := .map (some mb)) (nd := (fun S => [(∀ w1,S w1 → w1.cell? ⟨ln,0,none⟩ = some (.map (some mb)))])) (fun _ => kr) ⟨(fun w1 h => h.ocell 1 rfl rfl),trivial⟩ kr) (fun _ _ => (.cons_cons _ (.cons _ (.cons _ (List.nil_sublist _))))) ?_
   rintro ⟨⟩ -
   refine Ae 5 rfl 1  (askGet (r := mb) (d := (more.getD i dgz)) (l := (askL all (more.take i))) (es := y.1) (ck := y.2) rfl Tryz.underlying68 dKey kr kr kr hm (fun w1 h => h.own (mb,Obj.map y.1 y.2) (by simp))) (fun _ _ => (.cons_cons _ (.cons _ (.cons _ (List.nil_sublist _))))) ?_
   rintro ⟨⟩ -
   refine Ap [6] [] (some [0,5,6,7,8,18]) #[true,true,true,true,true,true,true] (.cons_cons _ (.cons _ (.cons _ (List.nil_sublist _)))) 0 n0 trivial ?_
   refine CfgA.done kr ?_
   refine Cfg.cond rfl (b := (((dpos (more.getD i dgz) (askL all (more.take i)) 0) : Int) == (0 : Int))) kr (fun c2r => ?_) (fun c2r => ?_)
   ·have c2 := (beq_iff_eq.1 c2r)
    refine Cfg.begA rfl kr [(db,.cells (bv ((more.getD i dgz).1)) 35 (0,0))] ?_
    refine Ap [0,1,2,3,5] [dZ,dZ,dZ,dZ,(0,false,some (.agg (bv ((more.getD i dgz).1))))] (some [0,5,6,7,8,19,22,24]) #[true,true,true,true,false,true,false,false,false,false,false] (.cons_cons _ (.cons _ (.cons _ (List.nil_sublist _)))) 6 (fun S => [(∀ w1,S w1 → (loadVar 35 ⟨db,0,none⟩).run Tryz.prog w1 = .ok (.agg (bv ((more.getD i dgz).1))) w1)]) ⟨(fun w1 h => h.oload 0 rfl Tryz.underlying35 rfl (n := 32) kr ((bv_size _).trans (more.getD i dgz).2)),trivial⟩ ?_
    refine CfgA.two 4 6 kr (fuel' := 5) rfl ?_ ?_
    ·
     refine Ie rfl  (Eff.quiet (raw := false) (orc := some (.slice (Own.a oz) ((askL all (more.take i)).length) (Own.c oz))) (v := .slice (Own.a oz) ((askL all (more.take i)).length) (Own.c oz)) (nd := (fun S => [(∀ w1,S w1 → w1.cell? ⟨ln,1,none⟩ = some (.slice (Own.a oz) ((askL all (more.take i)).length) (Own.c oz)))])) (fun _ => kr) ⟨(fun w1 h => h.ocell 1 rfl rfl),trivial⟩ kr) (fun _ _ => (.cons_cons _ (.cons _ (.cons _ (List.nil_sublist _))))) ?_
     rintro ⟨⟩ -
     refine Ae 6 rfl 4  (Eff.buildAgg (vs := (bv ((more.getD i dgz).1))) (n := 32) rfl kr Tryz.underlying31 kr (z := (.agg (bv (List.replicate 32 0)))) kr ((bv_size _).trans (more.getD i dgz).2) (by decide) (by decide)) (fun _ _ => (.cons _ (.cons_cons _ (.cons _ (.cons _ (List.nil_sublist _)))))) ?_
     rintro lb ⟨hlb,nlb⟩
     refine Ae 7 rfl 3  (Eff.appendF rfl 32 32 Tryz.underlying31 kr (z := (.agg (bv (List.replicate 32 0)))) kr kr oz (xs := ((askL all (more.take i)).flatMap dgd)) hok kr (b2 := lb) (off2 := 0) (m := 1) (c2 := 1) kr (dgd (more.getD i dgz)) (dgd_len _) (all_dgd _) [(lb,.cells (bv ((more.getD i dgz).1)) 35 (0,0)),(db,.cells (bv ((more.getD i dgz).1)) 35 (0,0)),(ln,.cells #[.map (some mb),.slice (Own.a oz) ((askL all (more.take i)).length) (Own.c oz)] 70 (0,0)),(mb,.map y.1 y.2)] [] (by rfl) (fun w1 h j v hj => by rw [Nat.zero_add]; exact h.ocell 0 rfl (by rw [← Array.getElem?_toList]; exact hj)) (by have := askL_max (more.take i) all; have := List.length_take_le i more; omega) (by have := askL_max (more.take i) all; have := List.length_take_le i more; omega)) (fun _ _ => (.cons _ (.cons_cons _ (.cons _ (.cons _ (List.nil_sublist _)))))) ?_
     rintro o1 ko1
     refine Ap [8,9] [] (some [0,5,6,7,8,26,28]) #[true,true,true,true,true,true,true,true,true,true,false] (.cons _ (.cons_cons _ (.cons _ (.cons _ (List.nil_sublist _))))) 1 n0 trivial ?_
     refine Ae 10 rfl 0  (Eff.store1 (b := ln) (off := 1) (v := .slice (Own.a o1) (((askL all (more.take i)).length + 1)) (Own.c o1)) rfl kr kr rfl kr 2 (cs := #[.map (some mb),.slice (Own.a oz) ((askL all (more.take i)).length) (Own.c oz)]) (e := 70) kr (by simp)) (fun _ _ => (.cons _ (.cons_cons _ (.cons _ (.cons _ (List.nil_sublist _)))))) ?_
     rintro ⟨⟩ -
     refine CfgA.done kr ?_
     refine Cg (Γ' := [(5,[],.pointer (some ⟨db,0,none⟩)),(8,[],.int .i64 (i : Int)),(7,[],.int .i64 (more.length : Int)),(6,[],.slice (some ⟨sa,offa,none⟩) more.length ca),(0,[],.pointer (some ⟨ln,0,none⟩))]) ?_
     refine Cfg.begA rfl kr [(lb,.cells (bv ((more.getD i dgz).1)) 35 (0,0)),(db,.cells (bv ((more.getD i dgz).1)) 35 (0,0))] ?_
     refine Ap [0,1,2,4,5,6,7] [dZ,dZ,dZ,(0,false,some (.agg (bv ((more.getD i dgz).1))))] (some [0,6,7,8,31,33,36]) #[true,true,true,false,true,true,true,true,false,false,false] (.cons_cons _ (.cons_cons _ (.cons _ (.cons _ (List.nil_sublist _))))) 4 (fun S => [(∀ w1,S w1 → (loadVar 35 ⟨db,0,none⟩).run Tryz.prog w1 = .ok (.agg (bv ((more.getD i dgz).1))) w1)]) ⟨(fun w1 h => h.oload 1 rfl Tryz.underlying35 rfl (n := 32) kr ((bv_size _).trans (more.getD i dgz).2)),trivial⟩ ?_
     refine CfgA.two 3 8 kr (fuel' := 3) rfl ?_ ?_
     ·
      refine Ie rfl  (Eff.quiet (raw := false) (orc := some (.map (some mb))) (v := .map (some mb)) (nd := (fun S => [(∀ w1,S w1 → w1.cell? ⟨ln,0,none⟩ = some (.map (some mb)))])) (fun _ => kr) ⟨(fun w1 h => h.ocell 2 rfl rfl),trivial⟩ kr) (fun _ _ => (.cons_cons _ (.cons_cons _ (.cons _ (.cons _ (List.nil_sublist _)))))) ?_
      rintro ⟨⟩ -
      refine Ae 8 rfl 2  (Eff.quiet (raw := false) (orc := some (.slice (Own.a o1) (((askL all (more.take i)).length + 1)) (Own.c o1))) (v := .slice (Own.a o1) (((askL all (more.take i)).length + 1)) (Own.c o1)) (nd := (fun S => [(∀ w1,S w1 → w1.cell? ⟨ln,1,none⟩ = some (.slice (Own.a o1) (((askL all (more.take i)).length + 1)) (Own.c o1)))])) (fun _ => kr) ⟨(fun w1 h => h.ocell 2 rfl rfl),trivial⟩ kr) (fun _ _ => (.cons_cons _ (.cons_cons _ (.cons _ (.cons _ (List.nil_sublist _)))))) ?_
      rintro ⟨⟩ -
      refine Ap [9] [] (some [0,6,7,8,32,33,38]) #[true,true,true,true,true,true,true,true,true,true,false] (.cons_cons _ (.cons_cons _ (.cons _ (.cons _ (List.nil_sublist _))))) 1 n0 trivial ?_
      refine Ae 10 rfl 0  (Eff.dSet (r := mb) (k := (more.getD i dgz).1) (u := .int .i64 (((askL all (more.take i)).length + 1 : Nat) : Int)) (es := y.1) (ck := y.2) (n := 32) (el := 5) rfl Tryz.underlying68 dKey (more.getD i dgz).2 kr kr kr hm 3 kr) (fun _ _ => (.cons_cons _ (.cons_cons _ (.cons _ (.cons _ (List.nil_sublist _)))))) ?_
      rintro xm hxm
      refine CfgA.done kr ?_
      refine Cg (Γ' := [(8,[],.int .i64 (i : Int)),(7,[],.int .i64 (more.length : Int)),(6,[],.slice (some ⟨sa,offa,none⟩) more.length ca),(0,[],.pointer (some ⟨ln,0,none⟩))]) ?_
      refine Rg [0,6,7,8] [] (fun _ => [((-9223372036854775808 : Int) ≤ ((i : Int) + 1) ∧ ((i : Int) + 1) ≤ 9223372036854775807)]) ⟨om,trivial⟩ ?_
      have hnm : (more.getD i dgz) ∉ (askL all (more.take i)) := (dpos_zero 0).1 om
      have hpk : (askL all (more.take (i + 1))) = (askL all (more.take i)) ++ [(more.getD i dgz)] := by rw [ask_step om,if_neg hnm]
      refine Cfg.setO (congrArg (fun (xq : Array Value) => (([(lb,.cells (bv ((more.getD i dgz).1)) 35 (0,0)),(db,.cells (bv ((more.getD i dgz).1)) 35 (0,0)),(ln,.cells xq 70 (0,0)),(mb,.map xm.1 xm.2)] ++ (Own.o 35 (((askL all (more.take i)).flatMap dgd) ++ (dgd (more.getD i dgz))) o1 ++ [])) : List (Nat × Obj))) (show _ = #[.map (some mb),.slice (Own.a o1) ((askL all (more.take (i + 1))).length) (Own.c o1)] from by rw [hpk,List.length_append]; rfl)) ?_
      refine Cfg.setO (congrArg (fun (xq : List Value) => (([(lb,.cells (bv ((more.getD i dgz).1)) 35 (0,0)),(db,.cells (bv ((more.getD i dgz).1)) 35 (0,0)),(ln,.cells #[.map (some mb),.slice (Own.a o1) ((askL all (more.take (i + 1))).length) (Own.c o1)] 70 (0,0)),(mb,.map xm.1 xm.2)] ++ (Own.o 35 xq o1 ++ [])) : List (Nat × Obj))) (show _ = ((askL all (more.take (i + 1))).flatMap dgd) from by rw [hpk,List.flatMap_append,List.flatMap_singleton])) ?_
      refine Cfg.again rfl (i + 1,xm,o1) ⟨by omega,by rw [hpk,List.flatMap_append,List.flatMap_singleton,List.length_append]; exact ko1,by rw [hpk,← dset_lw 0 hnm,Nat.zero_add]; exact hxm⟩ (by show more.length - (i + 1) < more.length - i; omega) (Conv.mk kr) (.cons _ (.cons _ (.cons_cons _ (.cons_cons _ (List.Sublist.refl _)))))
     ·
      refine Ie rfl  (Eff.quiet (raw := false) (orc := some (.slice (Own.a o1) (((askL all (more.take i)).length + 1)) (Own.c o1))) (v := .slice (Own.a o1) (((askL all (more.take i)).length + 1)) (Own.c o1)) (nd := (fun S => [(∀ w1,S w1 → w1.cell? ⟨ln,1,none⟩ = some (.slice (Own.a o1) (((askL all (more.take i)).length + 1)) (Own.c o1)))])) (fun _ => kr) ⟨(fun w1 h => h.ocell 2 rfl rfl),trivial⟩ kr) (fun _ _ => (.cons_cons _ (.cons_cons _ (.cons _ (.cons _ (List.nil_sublist _)))))) ?_
      rintro ⟨⟩ -
      refine Ap [9] [] (some [0,6,7,8,31,33,38]) #[true,true,true,false,true,true,true,true,true,true,false] (.cons_cons _ (.cons_cons _ (.cons _ (.cons _ (List.nil_sublist _))))) 2 n0 trivial ?_
      refine Ae 3 rfl 1  (Eff.quiet (raw := false) (orc := some (.map (some mb))) (v := .map (some mb)) (nd := (fun S => [(∀ w1,S w1 → w1.cell? ⟨ln,0,none⟩ = some (.map (some mb)))])) (fun _ => kr) ⟨(fun w1 h => h.ocell 2 rfl rfl),trivial⟩ kr) (fun _ _ => (.cons_cons _ (.cons_cons _ (.cons _ (.cons _ (List.nil_sublist _)))))) ?_
      rintro ⟨⟩ -
      refine Ae 10 rfl 0  (Eff.dSet (r := mb) (k := (more.getD i dgz).1) (u := .int .i64 (((askL all (more.take i)).length + 1 : Nat) : Int)) (es := y.1) (ck := y.2) (n := 32) (el := 5) rfl Tryz.underlying68 dKey (more.getD i dgz).2 kr kr kr hm 3 kr) (fun _ _ => (.cons_cons _ (.cons_cons _ (.cons _ (.cons _ (List.nil_sublist _)))))) ?_
      rintro xm hxm
      refine CfgA.done kr ?_
      refine Cg (Γ' := [(8,[],.int .i64 (i : Int)),(7,[],.int .i64 (more.length : Int)),(6,[],.slice (some ⟨sa,offa,none⟩) more.length ca),(0,[],.pointer (some ⟨ln,0,none⟩))]) ?_
      refine Rg [0,6,7,8] [] (fun _ => [((-9223372036854775808 : Int) ≤ ((i : Int) + 1) ∧ ((i : Int) + 1) ≤ 9223372036854775807)]) ⟨om,trivial⟩ ?_
      have hnm : (more.getD i dgz) ∉ (askL all (more.take i)) := (dpos_zero 0).1 om
      have hpk : (askL all (more.take (i + 1))) = (askL all (more.take i)) ++ [(more.getD i dgz)] := by rw [ask_step om,if_neg hnm]
      refine Cfg.setO (congrArg (fun (xq : Array Value) => (([(lb,.cells (bv ((more.getD i dgz).1)) 35 (0,0)),(db,.cells (bv ((more.getD i dgz).1)) 35 (0,0)),(ln,.cells xq 70 (0,0)),(mb,.map xm.1 xm.2)] ++ (Own.o 35 (((askL all (more.take i)).flatMap dgd) ++ (dgd (more.getD i dgz))) o1 ++ [])) : List (Nat × Obj))) (show _ = #[.map (some mb),.slice (Own.a o1) ((askL all (more.take (i + 1))).length) (Own.c o1)] from by rw [hpk,List.length_append]; rfl)) ?_
      refine Cfg.setO (congrArg (fun (xq : List Value) => (([(lb,.cells (bv ((more.getD i dgz).1)) 35 (0,0)),(db,.cells (bv ((more.getD i dgz).1)) 35 (0,0)),(ln,.cells #[.map (some mb),.slice (Own.a o1) ((askL all (more.take (i + 1))).length) (Own.c o1)] 70 (0,0)),(mb,.map xm.1 xm.2)] ++ (Own.o 35 xq o1 ++ [])) : List (Nat × Obj))) (show _ = ((askL all (more.take (i + 1))).flatMap dgd) from by rw [hpk,List.flatMap_append,List.flatMap_singleton])) ?_
      refine Cfg.again rfl (i + 1,xm,o1) ⟨by omega,by rw [hpk,List.flatMap_append,List.flatMap_singleton,List.length_append]; exact ko1,by rw [hpk,← dset_lw 0 hnm,Nat.zero_add]; exact hxm⟩ (by show more.length - (i + 1) < more.length - i; omega) (Conv.mk kr) (.cons _ (.cons _ (.cons_cons _ (.cons_cons _ (List.Sublist.refl _)))))
    ·
     refine Ie rfl  (Eff.buildAgg (vs := (bv ((more.getD i dgz).1))) (n := 32) rfl kr Tryz.underlying31 kr (z := (.agg (bv (List.replicate 32 0)))) kr ((bv_size _).trans (more.getD i dgz).2) (by decide) (by decide)) (fun _ _ => (.cons _ (.cons_cons _ (.cons _ (.cons _ (List.nil_sublist _)))))) ?_
     rintro lb ⟨hlb,nlb⟩
     refine Ae 4 rfl 4  (Eff.quiet (raw := false) (orc := some (.slice (Own.a oz) ((askL all (more.take i)).length) (Own.c oz))) (v := .slice (Own.a oz) ((askL all (more.take i)).length) (Own.c oz)) (nd := (fun S => [(∀ w1,S w1 → w1.cell? ⟨ln,1,none⟩ = some (.slice (Own.a oz) ((askL all (more.take i)).length) (Own.c oz)))])) (fun _ => kr) ⟨(fun w1 h => h.ocell 2 rfl rfl),trivial⟩ kr) (fun _ _ => (.cons _ (.cons_cons _ (.cons _ (.cons _ (List.nil_sublist _)))))) ?_
     rintro ⟨⟩ -
     refine Ae 7 rfl 3  (Eff.appendF rfl 32 32 Tryz.underlying31 kr (z := (.agg (bv (List.replicate 32 0)))) kr kr oz (xs := ((askL all (more.take i)).flatMap dgd)) hok kr (b2 := lb) (off2 := 0) (m := 1) (c2 := 1) kr (dgd (more.getD i dgz)) (dgd_len _) (all_dgd _) [(lb,.cells (bv ((more.getD i dgz).1)) 35 (0,0)),(db,.cells (bv ((more.getD i dgz).1)) 35 (0,0)),(ln,.cells #[.map (some mb),.slice (Own.a oz) ((askL all (more.take i)).length) (Own.c oz)] 70 (0,0)),(mb,.map y.1 y.2)] [] (by rfl) (fun w1 h j v hj => by rw [Nat.zero_add]; exact h.ocell 0 rfl (by rw [← Array.getElem?_toList]; exact hj)) (by have := askL_max (more.take i) all; have := List.length_take_le i more; omega) (by have := askL_max (more.take i) all; have := List.length_take_le i more; omega)) (fun _ _ => (.cons _ (.cons_cons _ (.cons _ (.cons _ (List.nil_sublist _)))))) ?_
     rintro o2 ko2
     refine Ap [8,9] [] (some [0,5,6,7,8,26,28]) #[true,true,true,true,true,true,true,true,true,true,false] (.cons _ (.cons_cons _ (.cons _ (.cons _ (List.nil_sublist _))))) 1 n0 trivial ?_
     refine Ae 10 rfl 0  (Eff.store1 (b := ln) (off := 1) (v := .slice (Own.a o2) (((askL all (more.take i)).length + 1)) (Own.c o2)) rfl kr kr rfl kr 2 (cs := #[.map (some mb),.slice (Own.a oz) ((askL all (more.take i)).length) (Own.c oz)]) (e := 70) kr (by simp)) (fun _ _ => (.cons _ (.cons_cons _ (.cons _ (.cons _ (List.nil_sublist _)))))) ?_
     rintro ⟨⟩ -
     refine CfgA.done kr ?_
     refine Cg (Γ' := [(5,[],.pointer (some ⟨db,0,none⟩)),(8,[],.int .i64 (i : Int)),(7,[],.int .i64 (more.length : Int)),(6,[],.slice (some ⟨sa,offa,none⟩) more.length ca),(0,[],.pointer (some ⟨ln,0,none⟩))]) ?_
     refine Cfg.begA rfl kr [(lb,.cells (bv ((more.getD i dgz).1)) 35 (0,0)),(db,.cells (bv ((more.getD i dgz).1)) 35 (0,0))] ?_
     refine Ap [0,1,2,4,5,6,7] [dZ,dZ,dZ,(0,false,some (.agg (bv ((more.getD i dgz).1))))] (some [0,6,7,8,31,33,36]) #[true,true,true,false,true,true,true,true,false,false,false] (.cons_cons _ (.cons_cons _ (.cons _ (.cons _ (List.nil_sublist _))))) 4 (fun S => [(∀ w1,S w1 → (loadVar 35 ⟨db,0,none⟩).run Tryz.prog w1 = .ok (.agg (bv ((more.getD i dgz).1))) w1)]) ⟨(fun w1 h => h.oload 1 rfl Tryz.underlying35 rfl (n := 32) kr ((bv_size _).trans (more.getD i dgz).2)),trivial⟩ ?_
     refine CfgA.two 3 8 kr (fuel' := 3) rfl ?_ ?_
     ·
      refine Ie rfl  (Eff.quiet (raw := false) (orc := some (.map (some mb))) (v := .map (some mb)) (nd := (fun S => [(∀ w1,S w1 → w1.cell? ⟨ln,0,none⟩ = some (.map (some mb)))])) (fun _ => kr) ⟨(fun w1 h => h.ocell 2 rfl rfl),trivial⟩ kr) (fun _ _ => (.cons_cons _ (.cons_cons _ (.cons _ (.cons _ (List.nil_sublist _)))))) ?_
      rintro ⟨⟩ -
      refine Ae 8 rfl 2  (Eff.quiet (raw := false) (orc := some (.slice (Own.a o2) (((askL all (more.take i)).length + 1)) (Own.c o2))) (v := .slice (Own.a o2) (((askL all (more.take i)).length + 1)) (Own.c o2)) (nd := (fun S => [(∀ w1,S w1 → w1.cell? ⟨ln,1,none⟩ = some (.slice (Own.a o2) (((askL all (more.take i)).length + 1)) (Own.c o2)))])) (fun _ => kr) ⟨(fun w1 h => h.ocell 2 rfl rfl),trivial⟩ kr) (fun _ _ => (.cons_cons _ (.cons_cons _ (.cons _ (.cons _ (List.nil_sublist _)))))) ?_
      rintro ⟨⟩ -
      refine Ap [9] [] (some [0,6,7,8,32,33,38]) #[true,true,true,true,true,true,true,true,true,true,false] (.cons_cons _ (.cons_cons _ (.cons _ (.cons _ (List.nil_sublist _))))) 1 n0 trivial ?_
      refine Ae 10 rfl 0  (Eff.dSet (r := mb) (k := (more.getD i dgz).1) (u := .int .i64 (((askL all (more.take i)).length + 1 : Nat) : Int)) (es := y.1) (ck := y.2) (n := 32) (el := 5) rfl Tryz.underlying68 dKey (more.getD i dgz).2 kr kr kr hm 3 kr) (fun _ _ => (.cons_cons _ (.cons_cons _ (.cons _ (.cons _ (List.nil_sublist _)))))) ?_
      rintro xm hxm
      refine CfgA.done kr ?_
      refine Cg (Γ' := [(8,[],.int .i64 (i : Int)),(7,[],.int .i64 (more.length : Int)),(6,[],.slice (some ⟨sa,offa,none⟩) more.length ca),(0,[],.pointer (some ⟨ln,0,none⟩))]) ?_
      refine Rg [0,6,7,8] [] (fun _ => [((-9223372036854775808 : Int) ≤ ((i : Int) + 1) ∧ ((i : Int) + 1) ≤ 9223372036854775807)]) ⟨om,trivial⟩ ?_
      have hnm : (more.getD i dgz) ∉ (askL all (more.take i)) := (dpos_zero 0).1 om
      have hpk : (askL all (more.take (i + 1))) = (askL all (more.take i)) ++ [(more.getD i dgz)] := by rw [ask_step om,if_neg hnm]
      refine Cfg.setO (congrArg (fun (xq : Array Value) => (([(lb,.cells (bv ((more.getD i dgz).1)) 35 (0,0)),(db,.cells (bv ((more.getD i dgz).1)) 35 (0,0)),(ln,.cells xq 70 (0,0)),(mb,.map xm.1 xm.2)] ++ (Own.o 35 (((askL all (more.take i)).flatMap dgd) ++ (dgd (more.getD i dgz))) o2 ++ [])) : List (Nat × Obj))) (show _ = #[.map (some mb),.slice (Own.a o2) ((askL all (more.take (i + 1))).length) (Own.c o2)] from by rw [hpk,List.length_append]; rfl)) ?_
      refine Cfg.setO (congrArg (fun (xq : List Value) => (([(lb,.cells (bv ((more.getD i dgz).1)) 35 (0,0)),(db,.cells (bv ((more.getD i dgz).1)) 35 (0,0)),(ln,.cells #[.map (some mb),.slice (Own.a o2) ((askL all (more.take (i + 1))).length) (Own.c o2)] 70 (0,0)),(mb,.map xm.1 xm.2)] ++ (Own.o 35 xq o2 ++ [])) : List (Nat × Obj))) (show _ = ((askL all (more.take (i + 1))).flatMap dgd) from by rw [hpk,List.flatMap_append,List.flatMap_singleton])) ?_
      refine Cfg.again rfl (i + 1,xm,o2) ⟨by omega,by rw [hpk,List.flatMap_append,List.flatMap_singleton,List.length_append]; exact ko2,by rw [hpk,← dset_lw 0 hnm,Nat.zero_add]; exact hxm⟩ (by show more.length - (i + 1) < more.length - i; omega) (Conv.mk kr) (.cons _ (.cons _ (.cons_cons _ (.cons_cons _ (List.Sublist.refl _)))))
     ·
      refine Ie rfl  (Eff.quiet (raw := false) (orc := some (.slice (Own.a o2) (((askL all (more.take i)).length + 1)) (Own.c o2))) (v := .slice (Own.a o2) (((askL all (more.take i)).length + 1)) (Own.c o2)) (nd := (fun S => [(∀ w1,S w1 → w1.cell? ⟨ln,1,none⟩ = some (.slice (Own.a o2) (((askL all (more.take i)).length + 1)) (Own.c o2)))])) (fun _ => kr) ⟨(fun w1 h => h.ocell 2 rfl rfl),trivial⟩ kr) (fun _ _ => (.cons_cons _ (.cons_cons _ (.cons _ (.cons _ (List.nil_sublist _)))))) ?_
      rintro ⟨⟩ -
      refine Ap [9] [] (some [0,6,7,8,31,33,38]) #[true,true,true,false,true,true,true,true,true,true,false] (.cons_cons _ (.cons_cons _ (.cons _ (.cons _ (List.nil_sublist _))))) 2 n0 trivial ?_
      refine Ae 3 rfl 1  (Eff.quiet (raw := false) (orc := some (.map (some mb))) (v := .map (some mb)) (nd := (fun S => [(∀ w1,S w1 → w1.cell? ⟨ln,0,none⟩ = some (.map (some mb)))])) (fun _ => kr) ⟨(fun w1 h => h.ocell 2 rfl rfl),trivial⟩ kr) (fun _ _ => (.cons_cons _ (.cons_cons _ (.cons _ (.cons _ (List.nil_sublist _)))))) ?_
      rintro ⟨⟩ -
      refine Ae 10 rfl 0  (Eff.dSet (r := mb) (k := (more.getD i dgz).1) (u := .int .i64 (((askL all (more.take i)).length + 1 : Nat) : Int)) (es := y.1) (ck := y.2) (n := 32) (el := 5) rfl Tryz.underlying68 dKey (more.getD i dgz).2 kr kr kr hm 3 kr) (fun _ _ => (.cons_cons _ (.cons_cons _ (.cons _ (.cons _ (List.nil_sublist _)))))) ?_
      rintro xm hxm
      refine CfgA.done kr ?_
      refine Cg (Γ' := [(8,[],.int .i64 (i : Int)),(7,[],.int .i64 (more.length : Int)),(6,[],.slice (some ⟨sa,offa,none⟩) more.length ca),(0,[],.pointer (some ⟨ln,0,none⟩))]) ?_
      refine Rg [0,6,7,8] [] (fun _ => [((-9223372036854775808 : Int) ≤ ((i : Int) + 1) ∧ ((i : Int) + 1) ≤ 9223372036854775807)]) ⟨om,trivial⟩ ?_
      have hnm : (more.getD i dgz) ∉ (askL all (more.take i)) := (dpos_zero 0).1 om
      have hpk : (askL all (more.take (i + 1))) = (askL all (more.take i)) ++ [(more.getD i dgz)] := by rw [ask_step om,if_neg hnm]
      refine Cfg.setO (congrArg (fun (xq : Array Value) => (([(lb,.cells (bv ((more.getD i dgz).1)) 35 (0,0)),(db,.cells (bv ((more.getD i dgz).1)) 35 (0,0)),(ln,.cells xq 70 (0,0)),(mb,.map xm.1 xm.2)] ++ (Own.o 35 (((askL all (more.take i)).flatMap dgd) ++ (dgd (more.getD i dgz))) o2 ++ [])) : List (Nat × Obj))) (show _ = #[.map (some mb),.slice (Own.a o2) ((askL all (more.take (i + 1))).length) (Own.c o2)] from by rw [hpk,List.length_append]; rfl)) ?_
      refine Cfg.setO (congrArg (fun (xq : List Value) => (([(lb,.cells (bv ((more.getD i dgz).1)) 35 (0,0)),(db,.cells (bv ((more.getD i dgz).1)) 35 (0,0)),(ln,.cells #[.map (some mb),.slice (Own.a o2) ((askL all (more.take (i + 1))).length) (Own.c o2)] 70 (0,0)),(mb,.map xm.1 xm.2)] ++ (Own.o 35 xq o2 ++ [])) : List (Nat × Obj))) (show _ = ((askL all (more.take (i + 1))).flatMap dgd) from by rw [hpk,List.flatMap_append,List.flatMap_singleton])) ?_
      refine Cfg.again rfl (i + 1,xm,o2) ⟨by omega,by rw [hpk,List.flatMap_append,List.flatMap_singleton,List.length_append]; exact ko2,by rw [hpk,← dset_lw 0 hnm,Nat.zero_add]; exact hxm⟩ (by show more.length - (i + 1) < more.length - i; omega) (Conv.mk kr) (.cons _ (.cons _ (.cons_cons _ (.cons_cons _ (List.Sublist.refl _)))))
   ·have c2 := (beq_eq_false_iff_ne.1 c2r)
    refine Rg [0,6,7,8] [] (fun _ => [((-9223372036854775808 : Int) ≤ ((i : Int) + 1) ∧ ((i : Int) + 1) ≤ 9223372036854775807)]) ⟨om,trivial⟩ ?_
    have hpk : (askL all (more.take (i + 1))) = (askL all (more.take i)) := by rw [ask_step om,if_pos (Decidable.not_not.1 (fun h => c2 ((dpos_zero 0).2 h |> fun e => by omega)))]
    refine Cfg.setO (congrArg (fun (xq : Array Value) => (([(db,.cells (bv ((more.getD i dgz).1)) 35 (0,0)),(ln,.cells xq 70 (0,0)),(mb,.map y.1 y.2)] ++ (Own.o 35 ((askL all (more.take i)).flatMap dgd) oz ++ [])) : List (Nat × Obj))) (show _ = #[.map (some mb),.slice (Own.a oz) ((askL all (more.take (i + 1))).length) (Own.c oz)] from by rw [hpk])) ?_
    refine Cfg.setO (congrArg (fun (xq : List Value) => (([(db,.cells (bv ((more.getD i dgz).1)) 35 (0,0)),(ln,.cells #[.map (some mb),.slice (Own.a oz) ((askL all (more.take (i + 1))).length) (Own.c oz)] 70 (0,0)),(mb,.map y.1 y.2)] ++ (Own.o 35 xq oz ++ [])) : List (Nat × Obj))) (show _ = ((askL all (more.take (i + 1))).flatMap dgd) from by rw [hpk])) ?_
    refine Cfg.again rfl (i + 1,y,oz) ⟨by omega,by rw [hpk]; exact hok,by rw [hpk]; exact hm⟩ (by show more.length - (i + 1) < more.length - i; omega) (Conv.mk kr) (.cons _ (.cons_cons _ (.cons_cons _ (List.Sublist.refl _))))
  ·have c1 := (of_decide_eq_false c1r)
   refine Cfg.fin rfl (rs := []) rfl [] trivial (fun w1 hp => ?_)
   have hii : i = more.length := by omega
   subst hii
   have h9 : HP w ((lO ln mb x ow all).map (·.1)) Rl ([(ln,.cells (lC mb oz (askL all (more.take more.length))) 70 (0,0)),(mb,.map y.1 y.2)] ++ (Own.o 35 ((askL all (more.take more.length)).flatMap dgd) oz ++ [])) w1 := hp
   rw [List.take_length] at hok hm h9
   rw [List.append_nil] at h9
   exact ⟨y,oz,hok,hm,rfl,_,h9⟩
end Go.Proofs.YtinhinjpfmdfiaaGreatDoor
namespace Go.Proofs.YtinhinjpfmdfiaaGreatDoor
open K
set_option linter.unusedVariables false
def toDg (l : List (List UInt8)) : List Dg := l.filterMap fun x => if h : x.length = 32 then some ⟨x,h⟩ else none
theorem toDg_val : ∀ {l : List (List UInt8)},D32 l → (toDg l).flatMap dgd = l.flatMap dgc ∧ (toDg l).length = l.length
 | [],_ => ⟨rfl,rfl⟩
 | x :: l,h => by
  have hx : x.length = 32 := h x (List.mem_cons_self ..)
  obtain ⟨h1,h2⟩ := toDg_val (l := l) fun y hy => h y (List.mem_cons_of_mem _ hy)
  have e : toDg (x :: l) = ⟨x,hx⟩ :: toDg l := by unfold toDg; rw [List.filterMap_cons,dif_pos hx]
  rw [e,List.flatMap_cons,List.flatMap_cons,h1,List.length_cons,List.length_cons,h2]
  exact ⟨rfl,rfl⟩
def gOf (T : List Th) (d : Dg) : List Dg := match tfind d.1 T with
 | some t => toDg (lk t.o)
 | none => []
theorem gOf_some {T : List Th} {d : Dg} {t : Th} (h : tfind d.1 T = some t) : gOf T d = toDg (lk t.o) := by unfold gOf; rw [h]
theorem lk_d32 {Rl : List (Nat × Obj)} {o : OM} (h : InO Rl o) : D32 (lk o) := by
 unfold lk
 split
 ·intro x hx
  rcases List.mem_cons.1 hx with rfl | hx
  ·exact h.c.d
  ·exact h.c.w x hx
 ·split
  ·intro x hx
   rw [List.mem_singleton.1 hx]; exact h.t
  ·intro x hx; cases hx
theorem inf_toDg {Rl : List (Nat × Obj)} {la : Option Addr} {l : List (List UInt8)} (hI : InF dgc 32 Rl la l) (h : D32 l) : InF dgd 32 Rl la (toDg l) := by
 obtain ⟨h1,h2⟩ := toDg_val h
 intro hn
 rw [h2] at hn
 obtain ⟨b,off,cs,t,fr,g1,g2,g3⟩ := hI hn
 refine ⟨b,off,cs,t,fr,g1,g2,fun j hj => ?_⟩
 rw [h1]
 exact g3 j (by rw [← h2]; exact hj)
set_option maxRecDepth 100000 in
set_option maxHeartbeats 4000000 in
theorem lNew (la : Option Addr) (ca : Nat) (first : List Dg) (Rl : List (Nat × Obj)) (w : World) (hI : InF dgd 32 Rl la first) (hR : Has w Rl) (hn : first.length ≤ 1000000) :
  Calls Tryz.prog 14 #[.slice la first.length ca] w fun e w' => ∃ (ln mb : Nat) (x : MX2) (ow : K.Own),OwnOk ow 32 (askL [] first).length ((askL [] first).flatMap dgd) ∧ DMapOk 32 x.1 x.2 (lw (askL [] first) 0) ∧ e = .returned (.pointer (some ⟨ln,0,none⟩)) ∧ ∃ R1,HP w [] R1 (lO ln mb x ow (askL [] first)) w' := by
 refine enter (vs := [.slice la first.length ca]) [] Rl [] Tryz.func14 rfl kr (HP.ofHas hR) ?_
 refine Rg [0] [] n0 trivial ?_
 refine Cfg.begL rfl ?_
 refine Le (Eff.mapNew rfl) ?_
 rintro mb ⟨hmb,nmb⟩
 refine Lp 1 [(0,false,some (.agg #[.map (some mb),.slice none 0 0]))] (some [0,5]) (fun S => [(∀ w1,S w1 → (Instr.build 70 #[(0,.map (some mb))]).run Tryz.prog w1 = .ok (.agg #[.map (some mb),.slice none 0 0]) w1)]) ⟨(fun _ _ => kr),trivial⟩ ?_
 refine Le (Eff.box (v := .agg #[.map (some mb),.slice none 0 0]) rfl kr) ?_
 rintro ln ⟨hln,nln⟩
 refine Lp 1 [] (some [0,3]) n0 trivial ?_
 refine CfgL.done rfl ?_
 refine Cfg.begL rfl ?_
 refine Lp 2 [] (some [3,7,8]) n0 trivial ?_
 refine Le (Eff.callH (vs := [.pointer (some ⟨ln,0,none⟩),.slice la first.length ca]) (fun _ : MX2 × K.Own => .tuple #[]) (lO ln mb (#[],0) none []) (fun xq => lO ln mb xq.1 xq.2 (askL [] first)) (fun xq => OwnOk xq.2 32 (askL [] first).length ((askL [] first).flatMap dgd) ∧ DMapOk 32 xq.1.1 xq.1.2 (lw (askL [] first) 0)) [] [] rfl rfl Tryz.func15 rfl rfl kr (fun w1 h hA hd => (lAsk ln mb (#[],0) none [] la ca first Rl w1 hI (OwnOk.none 32) (DMapOk.empty 32 0) (h.hasR (fun e he => he)) hA hd (fun e he hm => by obtain ⟨e2,h2,h3⟩ := List.mem_map.1 hm; exact h.away h2 he h3) (by simpa using hn)).mono fun _ _ ⟨x2,ow2,a1,a2,a3,a4⟩ => ⟨(x2,ow2),⟨a1,a2⟩,a3,a4⟩)) ?_
 rintro xq ⟨hok,hm⟩
 refine CfgL.done rfl ?_
 refine Cg (Γ' := [(3,[],.pointer (some ⟨ln,0,none⟩))]) ?_
 refine Rg [2] [] n0 trivial ?_
 refine Cfg.ret rfl (rs := [.tmp 2]) rfl [.pointer (some ⟨ln,0,none⟩)] ⟨kr,trivial⟩ (fun w1 hp => ?_)
 have h9 : HP w [] Rl (lO ln mb xq.1 xq.2 (askL [] first)) w1 := hp.sub (by simp)
 exact ⟨ln,mb,xq.1,xq.2,hok,hm,rfl,_,h9⟩
end Go.Proofs.YtinhinjpfmdfiaaGreatDoor
