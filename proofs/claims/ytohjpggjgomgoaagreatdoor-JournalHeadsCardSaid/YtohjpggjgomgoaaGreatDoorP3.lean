/- Texts on which the proof of this claim stands: I21, I22, IS, IT, K17, K12, K13, K18, K19, K20, K21, K22. -/
import Derived.Test.YtohjpggjgomgoaaGreatDoorP2
import Derived.TacticsIn
import Derived.Lib.SlKeysI
import Derived.Below
import Derived.Shelf.SlIterI.Nil
import Derived.Test.YtohjpggjgomgoaaGreatDoorP1
import Derived.RangeFuncNested
import Derived.Lib.AppendStr
import Derived.Lib.UnsafeStr
import Derived.Lib.Builder
import Derived.Lib.Overlaps
import Derived.MapKept
namespace Go.Proofs.YtohjpggjgomgoaaGreatDoor
namespace I
open K (one aggB run_underlying' run_sizeOf' add_none run_v cell_cells run_callFunc)
set_option linter.unusedVariables false
abbrev St := AV × AV × Nat
inductive Ex where
 | normal
 | exit (id : Nat)
 | ret
def Ex.to : Ex → Exit
 | .normal => .normal
 | .exit id => .exit id
 | .ret => .ret
def opsA (P : Program) (G n d : Nat) (K : KF) (ops : Array Oper) : List Oper → AV → AV → Nat → Option St
 | [],tm,h,nx => some (tm,h,nx)
 | o :: l,tm,h,nx => match wantA n d ops tm o with
  | none => none
  | some false => opsA P G n d K ops l (putA n d tm o.dst .undef) h nx
  | some true => match astep P (opndA G n d tm) h nx o with
   | some (.val v h' nx') => opsA P G n d K ops l (putA n d tm o.dst v) h' nx'
   | some (.call f args) => match K f args h nx with
    | some (v,h',nx') => opsA P G n d K ops l (putA n d tm o.dst v) h' nx'
    | none => none
   | none => none
def edgesOk (ops : Array Oper) : Bool := ops.all fun o => o.after.all fun e => Nat.blt e.on ops.size
def regA (P : Program) (G n d : Nat) (K : KF) (ops : Array Oper) (tm h : AV) (nx : Nat) : Option St :=
 bif P.follows .mixedOrders && (edgesOk ops && Nat.ble (nx + ops.size) (2 ^ HD)) then
  match schedF ops with
  | some is => match runS ⟨P,G,n,d,K,ops,nx,lg ops.size⟩ is ⟨tm,h,nx + ops.size,unid (lg ops.size) .undef,unid (lg ops.size) .undef⟩ with
   | some s => some (s.tm,(merge (lg ops.size) nx (List.range ops.size) s.h s.pt).1,s.nx)
   | none => none
  | none => none
 else none
abbrev SD := List Nat × St
def loopI (f : SD → Option (Ex × SD)) : Nat → SD → Option (Ex × SD)
 | 0,_ => none
 | k + 1,st => match f st with
  | some (.normal,st') => loopI f k st'
  | r => r
def enterA (n rd : Nat) (ps : List Nat) (assign body : Code) (tm h : AV) (nx : Nat) : Option (Nat × List Nat × AV × Nat) :=
 match rd with
 | 0 => bif Nat.blt (nx + 1) (2 ^ HD) then some (nx + 1,[nx],cput HD (cput HD h nx .df) (nx + 1) (.lp n ps assign body tm 0 0 nx),nx + 2) else none
 | b + 1 => match cget HD h b with
  | .lp _ _ _ _ _ _ _ db => bif Nat.blt nx (2 ^ HD) then some (nx,[],cput HD h nx (.lp n ps assign body tm 0 0 db),nx + 1) else none
  | _ => none
def exOf : Nat → Ex
 | 0 => .normal
 | 1 => .ret
 | id + 2 => .exit id
def execC (P : Program) (G n d : Nat) (K : KF) (N rd : Nat) : Code → SD → Option (Ex × SD)
 | .skip,st => some (.normal,st)
 | .label _,st => some (.normal,st)
 | .region _ ops draw,st => bif draw then
   match regA P G n d K ops st.2.1 st.2.2.1 st.2.2.2 with
   | some st' => some (.normal,st.1,st')
   | none => none
  else match opsA P G n d K ops ops.toList st.2.1 st.2.2.1 st.2.2.2 with
   | some st' => some (.normal,st.1,st')
   | none => none
 | .seq a b,st => match execC P G n d K N rd a st with
  | some (.normal,st') => execC P G n d K N rd b st'
  | r => r
 | .cond c a b,st => match opndA G n d st.2.1 c with
  | .bool true => execC P G n d K N rd a st
  | .bool false => execC P G n d K N rd b st
  | _ => none
 | .block id b,st => match execC P G n d K N rd b st with
  | some (.exit j,st') => bif Nat.beq j id then some (.normal,st') else some (.exit j,st')
  | r => r
 | .loop b,st => loopI (fun s => execC P G n d K N rd b s) N st
 | .exit id,st => some (.exit id,st)
 | .ret,st => some (.ret,st)
 | .rangeFunc g ps assign body,st => match opndA G n d st.2.1 g with
  | .fn f first caps => match enterA n rd ps.toList assign body st.2.1 st.2.2.1 st.2.2.2 with
   | some (b,dl,h1,nx1) => match K (2 * f) (toList first ++ (.yld b :: toList caps)) h1 nx1 with
    | some (_,h2,nx2) => match cget HD h2 b with
     | .lp _ _ _ _ _ st' pend _ => bif Nat.beq st' 1 then none else some (exOf pend,dl ++ st.1,st.2.1,cput HD h2 b .dead,nx2)
     | _ => none
    | none => none
   | none => none
  | _ => none
 | _,_ => none
section
variable {P : Program} {ds : List Deferred} {ro : Option Nat} {G n d N rd : Nat} {K : KF} {w0 : World} {B : Fr}
def KOk' (P : Program) (G : Nat) (K : KF) : Prop := ∀ f args h nx v h' nx',K f args h nx = some (v,h',nx') → CallOk P G f args h nx v h' nx'
structure Sim (ds : List Deferred) (n d G : Nat) (w0 : World) (B : Fr) (σ : Sg) (st : St) (a : Act) (w : World) : Prop where
 sl : SlotRel ds σ n d st.1 a
 g : GRel σ G
 hs : HS σ st.2.1 st.2.2 w0 B w
def Then (σ : Sg) (st st' : St) (σ' : Sg) : Prop := SubX st.2.2 σ σ' ∧ Dk st.2.2 st.2.1 st'.2.1 ∧ st.2.2 ≤ st'.2.2
theorem Then.refl (σ : Sg) (st : St) : Then σ st st σ := ⟨SubX.refl _ _,Dk.refl _ _,Nat.le_refl _⟩
theorem Then.trans {σ σ1 σ2 : Sg} {s s1 s2 : St} (a : Then σ s s1 σ1) (b : Then σ1 s1 s2 σ2) : Then σ s s2 σ2 := ⟨a.1.trans b.1 a.2.2,a.2.1.trans b.2.1 a.2.2,Nat.le_trans a.2.2 b.2.2⟩
theorem opsA_ok (hK : KOk' P G K) {ops : Array Oper} {Q : Exit → Act → World → Prop} : ∀ (l : List Oper) (tm h : AV) (nx : Nat) (st' : St) (σ : Sg) (a : Act) (w : World),opsA P G n d K ops l tm h nx = some st' → Sim ds n d G w0 B σ (tm,h,nx) a w →
  (∀ σ' a' w',Then σ (tm,h,nx) st' σ' → Sim ds n d G w0 B σ' st' a' w' → Q .normal a' w') → wpListIn (fen ro) 0 P ops Q l a w
 | [],tm,h,nx,st',σ,a,w,hh,S,hQ => by
  simp only [opsA,Option.some.injEq] at hh
  subst hh
  exact hQ σ a w (Then.refl _ _) S
 | o :: l,tm,h,nx,st',σ,a,w,hh,S,hQ => by
  unfold opsA at hh
  unfold wpListIn
  split at hh
  ·cases hh
  ·rename_i hw
   rw [wantA_ok S.sl hw]
   simp only [Bool.false_eq_true,if_false]
   exact ⟨fun _ _ => trivial,opsA_ok hK l _ h nx st' σ _ w hh ⟨put_ok S.sl .undef,S.g,S.hs⟩ (fun σ' a' w' ht S' => hQ σ' a' w' ht S')⟩
  ·rename_i hw
   rw [wantA_ok S.sl hw]
   simp only [if_true]
   have hρ := opnd_ok S.sl S.g
   split at hh
   ·rename_i v h' nx' hs
    obtain ⟨σ1,u,w1,g1,g2,g3,g4,g5,g6⟩ := astep_ok S.hs (fun _ => rfl) hρ hs
    have S1 : Sim ds n d G w0 B σ1 (putA n d tm o.dst v,h',nx') (a.put o.dst u) w1 := ⟨put_ok (S.sl.mono g1.1) g5,S.g.mono g1.1,g6⟩
    have T1 : Then σ (tm,h,nx) (putA n d tm o.dst v,h',nx') σ1 := ⟨g1,g2,g3⟩
    have := opsA_ok hK l _ h' nx' st' σ1 _ w1 hh S1 (fun σ' a' w' ht S' => hQ σ' a' w' (T1.trans ht) S')
    rcases g4 with g4 | ⟨g4,rfl⟩
    ·exact wpIn_value g4 this
    ·exact wpIn_skipOp g4 this
   ·rename_i f args hs
    split at hh
    ·rename_i v h' nx' hk
     refine wpIn_callOp hρ (astep_call hs) (fun vs g1 => hK f args h nx v h' nx' hk σ w0 B w vs S.hs S.g g1) ?_
     rintro e w1 ⟨σ1,u,k1,k2,k3,rfl,k5,k6⟩
     have S1 : Sim ds n d G w0 B σ1 (putA n d tm o.dst v,h',nx') (a.put o.dst u) w1 := ⟨put_ok (S.sl.mono k1.1) k5,S.g.mono k1.1,k6⟩
     have T1 : Then σ (tm,h,nx) (putA n d tm o.dst v,h',nx') σ1 := ⟨k1,k2,k3⟩
     exact ⟨u,rfl,opsA_ok hK l _ h' nx' st' σ1 _ w1 hh S1 (fun σ' a' w' ht S' => hQ σ' a' w' (T1.trans ht) S')⟩
    ·cases hh
   ·cases hh
theorem regA_ok (hK : KOk' P G K) (hn : n ≤ 2 ^ d) {id : Nat} {ops : Array Oper} {Q : Exit → Act → World → Prop} {tm h : AV} {nx : Nat} {st' : St} {σ : Sg} {a : Act} {w : World} (hh : regA P G n d K ops tm h nx = some st') (S : Sim ds n d G w0 B σ (tm,h,nx) a w)
  (hQ : ∀ σ' a' w',Then σ (tm,h,nx) st' σ' → Sim ds n d G w0 B σ' st' a' w' → Q .normal a' w') : (Code.region id ops true).wpIn (fen ro) 0 P Q a w := by
 unfold regA at hh
 cases hb : (P.follows .mixedOrders && (edgesOk ops && Nat.ble (nx + ops.size) (2 ^ HD))) with
 | false => simp [hb] at hh
 | true =>
  simp only [hb,cond_true] at hh
  simp only [Bool.and_eq_true] at hb
  obtain ⟨hm,hed,hle⟩ := hb
  have hle := ble_iff.1 hle
  split at hh
  ·rename_i is his
   split at hh
   case h_2 => cases hh
   rename_i F hF
   simp only [Option.some.injEq] at hh
   subst hh
   let C : DC := ⟨P,G,n,d,K,ops,nx,lg ops.size⟩
   have hpd : C.ops.size ≤ 2 ^ C.pd := lg_le _
   have hedge : ∀ (j : Nat) o,C.ops[j]? = some o → ∀ e ∈ o.after,e.on < C.ops.size := fun j o ho e he => by
    have h1 := Array.all_eq_true_iff_forall_mem.1 hed o (Array.mem_of_getElem? ho)
    exact blt_iff.1 (Array.all_eq_true_iff_forall_mem.1 h1 e he)
   have hclean : CleanAll C (Array.replicate ops.size false) ⟨tm,h,nx + ops.size,unid (lg ops.size) .undef,unid (lg ops.size) .undef⟩ := fun k hk _ => ⟨cget_unid _ _ _,cget_unid _ _ _⟩
   have hgood := sched_good (C := C) (F := F) hn hpd his hclean hF
   have hH := (S.hs.skip (Nat.le_add_right nx ops.size) hle).drew
   have S0 : DSim ds C w0 B h σ ⟨tm,h,nx + ops.size,unid (lg ops.size) .undef,unid (lg ops.size) .undef⟩ (Array.replicate ops.size false) a { w with drawn := w.drawn + 1 } := by
    refine ⟨S.sl,S.g,⟨hH,Nat.le_refl _,fun k hk hl => ?_,fun k k' p p' hk hk' hne hl => ?_⟩,fun k hk _ => ?_,Dk.refl _ _⟩
    ·rw [cget_unid] at hl; simp [live] at hl
    ·rw [cget_unid] at hl; simp [live] at hl
    ·cases hx : σ (nx + k) with
     | none => rfl
     | some p => have := S.hs.dom _ p hx; simp only at this; omega
   refine wpIn_region_any hm (good_wp (C := C) (F := F) hK hpd hedge ops.size _ _ σ a _ hgood S0 ?_)
   intro σ' l' a' w' hx SF
   have M := SF.m.merge hpd (l := List.range ops.size) (fun j hj => List.mem_range.1 hj)
   refine hQ σ' a' w' ⟨⟨hx.1,fun b hb => hx.2 b hb⟩,?_,?_⟩ ⟨SF.sl,SF.g,M.hs⟩
   ·exact SF.dk.trans (merge_dk hle (fun j hj => List.mem_range.1 hj)) (Nat.le_refl _)
   ·have := SF.m.nx
    show nx ≤ F.nx
    have h2 : nx + ops.size ≤ F.nx := this
    omega
  ·cases hh
def MarksRel (σ : Sg) (dl : List Nat) (ds : List Deferred) : Prop := dl.length = ds.length ∧ ∀ (i : Nat) b x,dl[i]? = some b → ds[i]? = some x → ∃ r base size,σ b = some (r,base,size) ∧ x = { target := .collected r,args := #[] }
theorem MarksRel.mono {σ σ' : Sg} {dl : List Nat} {ds : List Deferred} (h : MarksRel σ dl ds) (hs : Sub σ σ') : MarksRel σ' dl ds := ⟨h.1,fun i b x hb hx => by
 obtain ⟨r,base,size,h1,h2⟩ := h.2 i b x hb hx
 exact ⟨r,base,size,hs _ _ h1,h2⟩⟩
theorem MarksRel.nil (σ : Sg) : MarksRel σ [] [] := ⟨rfl,fun i b x hb => by simp at hb⟩
theorem MarksRel.app {σ : Sg} {dl dl' : List Nat} {ds ds' : List Deferred} (h : MarksRel σ dl ds) (h' : MarksRel σ dl' ds') : MarksRel σ (dl ++ dl') (ds ++ ds') := by
 refine ⟨by simp [h.1,h'.1],fun i b x hb hx => ?_⟩
 by_cases hi : i < dl.length
 ·rw [List.getElem?_append_left hi] at hb
  rw [List.getElem?_append_left (by rw [← h.1]; exact hi)] at hx
  exact h.2 i b x hb hx
 ·rw [List.getElem?_append_right (by omega)] at hb
  rw [List.getElem?_append_right (by rw [← h.1]; omega),← h.1] at hx
  exact h'.2 _ b x hb hx
def RoRel (σ : Sg) : Nat → Option Nat → Prop
 | 0,ro => ro = none
 | b + 1,ro => ∃ l base size,σ b = some (l,base,size) ∧ ro = some l
theorem RoRel.mono {σ σ' : Sg} {rd : Nat} {ro : Option Nat} (h : RoRel σ rd ro) (hs : Sub σ σ') : RoRel σ' rd ro := by
 cases rd with
 | zero => exact h
 | succ b => obtain ⟨l,base,size,h1,h2⟩ := h; exact ⟨l,base,size,hs _ _ h1,h2⟩
structure SimD (rd : Nat) (ro : Option Nat) (n d G : Nat) (w0 : World) (B : Fr) (σ : Sg) (st : SD) (a : Act) (w : World) : Prop where
 ro : RoRel σ rd ro
 sm : ∃ ds,MarksRel σ st.1 ds ∧ Sim ds n d G w0 B σ st.2 a w
def Post (rd : Nat) (ro : Option Nat) (n d G : Nat) (w0 : World) (B : Fr) (σ : Sg) (st : SD) (e : Ex) (st' : SD) : Exit → Act → World → Prop :=
 fun e' a' w' => e' = e.to ∧ ∃ σ',Then σ st.2 st'.2 σ' ∧ SimD rd ro n d G w0 B σ' st' a' w'
theorem loopI_ok {b : Code} {f : SD → Option (Ex × SD)} (hb : ∀ st e st' σ a w,f st = some (e,st') → SimD rd ro n d G w0 B σ st a w → b.wpIn (fen ro) 0 P (Post rd ro n d G w0 B σ st e st') a w) :
  ∀ (k : Nat) (st : SD) (e : Ex) (st' : SD) (σ : Sg) (a : Act) (w : World),loopI f k st = some (e,st') → SimD rd ro n d G w0 B σ st a w → (Code.loop b).wpIn (fen ro) 0 P (Post rd ro n d G w0 B σ st e st') a w := by
 intro k st e st' σ a w hh S
 refine wpIn_loop_ghost (fun m a1 w1 => ∃ st1 σ1,loopI f m st1 = some (e,st') ∧ Then σ st.2 st1.2 σ1 ∧ SimD rd ro n d G w0 B σ1 st1 a1 w1) k ⟨st,σ,hh,Then.refl _ _,S⟩ ?_
 rintro m a1 w1 ⟨st1,σ1,h1,T1,S1⟩
 cases m with
 | zero => simp [loopI] at h1
 | succ m =>
  unfold loopI at h1
  split at h1
  ·rename_i st2 h2
   refine wpIn_mono (hb st1 .normal st2 σ1 a1 w1 h2 S1) ?_
   rintro e2 a2 w2 ⟨rfl,σ2,T2,S2⟩
   exact ⟨m,Nat.lt_succ_self m,st2,σ2,h1,T1.trans T2,S2⟩
  ·rename_i r hne
   refine wpIn_mono (hb st1 e st' σ1 a1 w1 h1 S1) ?_
   rintro e2 a2 w2 ⟨rfl,σ2,T2,S2⟩
   have hnn : e.to ≠ .normal := by
    cases e with
    | normal => exact absurd h1 (hne st')
    | exit id => simp [Ex.to]
    | ret => simp [Ex.to]
   cases e with
   | normal => exact absurd rfl hnn
   | exit id => exact ⟨rfl,σ2,T1.trans T2,S2⟩
   | ret => exact ⟨rfl,σ2,T1.trans T2,S2⟩
theorem tmps_rel {a : Act} {σ : Sg} {tm : AV} (hd : d = lg n) (S : SlotRel ds σ n d tm a) : ∀ t,t < n → Rel σ (cget (lg n) tm t) (a.tmps.getD t Go.undef) := fun t ht => hd ▸ S.sl t ht
theorem HS.lp {σ : Sg} {h : AV} {nx : Nat} {w : World} (H : HS σ h nx w0 B w) {b r base size m : Nat} {ps : List Nat} {assign body : Code} {tm : AV} {st pend db : Nat} (hb : σ b = some (r,base,size)) (hc : cget HD h b = .lp m ps assign body tm st pend db) :
  ∃ rc dr dbase dsize,w.heap[r]? = some (.loop rc) ∧ σ db = some (dr,dbase,dsize) ∧ (rc.state = stOf st ∧ rc.pending = pendOf pend ∧ rc.params = ps.toArray ∧ rc.assign = assign ∧ rc.body = body ∧ rc.defers = dr ∧ rc.tmps.size = m) ∧
   (∀ t,t < m → Rel σ (cget (lg m) tm t) (rc.tmps.getD t Go.undef)) ∧ (B.wr r ∨ w0.heap.size ≤ r) := by
 have := H.blk b (H.lt hb)
 rw [hc] at this
 obtain ⟨r',base',size',rc,dr,dbase,dsize,h1,h2,h3,h4,h5,h6⟩ := this
 rw [hb] at h1
 simp only [Option.some.injEq,Prod.mk.injEq] at h1
 obtain ⟨rfl,rfl,rfl⟩ := h1
 exact ⟨rc,dr,dbase,dsize,h2,h3,h4,h5,h6⟩
theorem enterA_ok {σ : Sg} {tm h : AV} {nx : Nat} {a : Act} {w : World} {ps : Array Nat} {assign body : Code} {b : Nat} {dl : List Nat} {h1 : AV} {nx1 : Nat} (hd : d = lg n) (hro : RoRel σ rd ro) (S : Sim ds n d G w0 B σ (tm,h,nx) a w)
  (he : enterA n rd ps.toList assign body tm h nx = some (b,dl,h1,nx1)) (fn : FuncId) :
  ∃ σ1 l base size mark w1,(Instr.enterLoop fn a.tmps ps assign body ro).run P w = .ok (l,mark) w1 ∧ σ1 b = some (l,base,size) ∧ MarksRel σ1 dl mark ∧ Then σ (tm,h,nx) (tm,h1,nx1) σ1 ∧ HS σ1 h1 nx1 w0 B w1 := by
 unfold enterA at he
 have H : HS σ h nx w0 B w := S.hs
 split at he
 ·cases hb : Nat.blt (nx + 1) (2 ^ HD) with
  | false => simp [hb] at he
  | true =>
   simp only [hb,cond_true,Option.some.injEq,Prod.mk.injEq] at he
   obtain ⟨rfl,rfl,rfl,rfl⟩ := he
   have hlt := blt_iff.1 hb
   have hro' : ro = none := hro
   subst hro'
   have H1 : HS (ext σ nx (w.heap.size,0,0)) (cput HD h nx .df) (nx + 1) w0 B (w.alloc (.deferred (some []))) :=
    H.new (by omega) (p := (w.heap.size,0,0)) rfl rfl rfl rfl rfl ⟨w.heap.size,0,0,by simp [ext],K.get_alloc w _,.inr H.size⟩
   have hs1 : Sub σ (ext σ nx (w.heap.size,0,0)) := H.sub_ext _
   have hr1 := tmps_rel hd (S.sl.mono hs1)
   have hs2 := H1.sub_ext ((w.alloc (.deferred (some []))).heap.size,0,0)
   let rc : Loop := { state := .ready,pending := none,fn,tmps := a.tmps,params := ps,assign,body,defers := w.heap.size }
   have H2 : HS _ (cput HD (cput HD h nx .df) (nx + 1) (.lp n ps.toList assign body tm 0 0 nx)) (nx + 2) w0 B ((w.alloc (.deferred (some []))).alloc (.loop rc)) :=
    H1.new (by omega) (p := ((w.alloc (.deferred (some []))).heap.size,0,0)) rfl rfl rfl rfl rfl
     ⟨_,0,0,rc,w.heap.size,0,0,by simp [ext],K.get_alloc _ _,hs2 _ _ (by simp [ext]),⟨rfl,rfl,by simp [rc],rfl,rfl,rfl,S.sl.size⟩,fun t ht => (hr1 t ht).mono hs2,.inr H1.size⟩
   refine ⟨_,(w.alloc (.deferred (some []))).heap.size,0,0,[{ target := .collected w.heap.size,args := #[] }],_,?_,by simp [ext],⟨rfl,fun i c x hc hx => ?_⟩,⟨⟨fun c q hc => hs2 _ _ (hs1 _ _ hc),fun c hc => ?_⟩,fun c hc hlc => ?_,by simp⟩,H2⟩
   ·simp [Instr.enterLoop,newObj,Sem.run,rc]
   ·cases i with
    | zero =>
     simp only [List.getElem?_cons_zero,Option.some.injEq] at hc hx
     subst hc; subst hx
     exact ⟨w.heap.size,0,0,hs2 _ _ (by simp [ext]),rfl⟩
    | succ i => simp at hc
   ·simp only at hc
    unfold ext
    rw [if_neg (by omega),if_neg (by omega)]
   ·simp only at hc hlc ⊢
    rw [cget_cput HD _ (nx + 1) c _ hlt (by omega),if_neg (by omega),cget_cput HD h nx c _ (by omega) (by omega),if_neg (by omega)] at hlc
    exact hlc
 ·rename_i b0
  split at he
  ·rename_i m0 ps0 as0 bo0 tm0 st0 pe0 db hlp
   cases hb : Nat.blt nx (2 ^ HD) with
   | false => simp [hb] at he
   | true =>
    simp only [hb,cond_true,Option.some.injEq,Prod.mk.injEq] at he
    obtain ⟨rfl,rfl,rfl,rfl⟩ := he
    have hlt := blt_iff.1 hb
    obtain ⟨l0,lbase,lsize,hl0,rfl⟩ := hro
    obtain ⟨rc0,dr,dbase,dsize,q1,q2,⟨_,_,_,_,_,q3,_⟩,_,_⟩ := H.lp hl0 hlp
    let rc : Loop := { state := .ready,pending := none,fn,tmps := a.tmps,params := ps,assign,body,defers := dr }
    have hs1 : Sub σ (ext σ nx (w.heap.size,0,0)) := H.sub_ext _
    have hr1 := tmps_rel hd (S.sl.mono hs1)
    have H1 : HS (ext σ nx (w.heap.size,0,0)) (cput HD h nx (.lp n ps.toList assign body tm 0 0 db)) (nx + 1) w0 B (w.alloc (.loop rc)) :=
     H.new hlt (p := (w.heap.size,0,0)) rfl rfl rfl rfl rfl ⟨w.heap.size,0,0,rc,dr,dbase,dsize,by simp [ext],K.get_alloc w _,hs1 _ _ q2,⟨rfl,rfl,by simp [rc],rfl,rfl,rfl,S.sl.size⟩,hr1,.inr H.size⟩
    refine ⟨_,w.heap.size,0,0,[],_,?_,by simp [ext],MarksRel.nil _,⟨H.subX _,fun c hc hlc => ?_,Nat.le_succ _⟩,H1⟩
    ·have hgo : (getObj l0).run P w = .ok (.loop rc0) w := by simp [getObj,Sem.run,q1]
     simp only [Instr.enterLoop,Instr.getLoop,Sem.run_bind,hgo,Result.andThen_ok,Sem.run_pure]
     simp [newObj,Sem.run,rc,q3]
    ·simp only at hc hlc ⊢
     rw [cget_cput HD h nx c _ hlt (by omega),if_neg (by omega)] at hlc
     exact hlc
  ·cases he
theorem Then.sub {σ σ' : Sg} {st st' : St} (h : Then σ st st' σ') : Sub σ σ' := h.1.1
theorem range_args {σ : Sg} {f b l base size : Nat} {first caps : AV} {gv : Value} (hg : Rel σ (.fn f first caps) gv) (hb : σ b = some (l,base,size)) :
  ∃ ys zs : Array Value,gv = .func (.func f) ys zs ∧ RelL σ (toList first ++ (.yld b :: toList caps)) (ys.toList ++ (.func (.yield l) #[] #[] :: zs.toList)) := by
 cases hg with
 | fn _ _ _ ys zs q1 q2 q3 q4 =>
 refine ⟨ys,zs,rfl,RelL.app ⟨by simpa using q1,fun i a v ha hv => q3 i a v ha (by simpa using hv)⟩ ⟨by simpa using q2,fun i a v ha hv => ?_⟩⟩
 cases i with
 | zero =>
  simp only [List.getElem?_cons_zero,Option.some.injEq] at ha hv
  subst ha; subst hv; exact .yld b l base size hb
 | succ i =>
  simp only [List.getElem?_cons_succ] at ha hv
  exact q4 i a v ha (by simpa using hv)
theorem range_resolve {a : Act} {g : Operand} {f l : Nat} {ys zs : Array Value} {w : World} (hg : a.eval g = .func (.func f) ys zs) :
  (resolve a.eval (rangeCall g l) 0).run P w = .ok { target := .fn (.func f) zs,args := ys ++ #[Value.func (.yield l) #[] #[]] } w := by
 show Sem.run P (Deferred.ofValue (a.eval g) _) w = _
 rw [hg]
 simp [Deferred.ofValue,Act.eval]
theorem end_loop {l : Nat} {w : World} {rc : Loop} (g1 : w.heap[l]? = some (.loop rc)) (hb : (rc.state == LoopState.busy) = false) :
  (Instr.endLoop l).run P w = .ok rc.pending { w with heap := w.heap.setIfInBounds l (.loop { rc with state := .exhausted }) } := by
 have hgo : (getObj l).run P w = .ok (.loop rc) w := by simp [getObj,Sem.run,g1]
 have hso : ∀ o,(setObj l o).run P w = .ok () { w with heap := w.heap.setIfInBounds l o } := fun o => by simp [setObj,Sem.run,g1]
 simp only [Instr.endLoop,Instr.getLoop,Sem.run_bind,hgo,Result.andThen_ok,Sem.run_pure,hb,Bool.false_eq_true,if_false,hso]
theorem not_busy {st : Nat} (hb : Nat.beq st 1 = false) : (stOf st == LoopState.busy) = false := by
 match st,hb with
 | 0,_ => rfl
 | 2,_ => rfl
 | k + 3,_ => rfl
set_option maxHeartbeats 1000000 in
theorem rangeFunc_ok (hK : KOk' P G K) (hd : d = lg n) {g : Operand} {ps : Array Nat} {assign body : Code} {st : SD} {e : Ex} {st' : SD} {σ : Sg} {a : Act} {w : World}
  (hh : execC P G n d K N rd (.rangeFunc g ps assign body) st = some (e,st')) (S : SimD rd ro n d G w0 B σ st a w) : (Code.rangeFunc g ps assign body).wpIn (fen ro) 0 P (Post rd ro n d G w0 B σ st e st') a w := by
 obtain ⟨dl0,tm,h,nx⟩ := st
 obtain ⟨hro,ds,hM,S⟩ := S
 simp only [execC] at hh
 split at hh
 ·rename_i f first caps hg
  split at hh
  ·rename_i b dl h1 nx1 he
   split at hh
   ·rename_i v h2' nx2 hk
    split at hh
    ·rename_i m ps' as' bo' tm' st2 pend db hlp
     cases hb : Nat.beq st2 1 with
     | true => simp [hb] at hh
     | false =>
      simp only [hb,cond_false,Option.some.injEq,Prod.mk.injEq] at hh
      obtain ⟨rfl,rfl⟩ := hh
      refine wpIn_rangeFunc fun fn _ => ?_
      obtain ⟨σ1,l,base,size,mark,w1,e1,e2,e3,T1,H1⟩ := enterA_ok (P := P) hd hro S he fn
      have hgv := opnd_ok S.sl S.g g
      rw [show (dl0,tm,h,nx).2.1 = tm from rfl,hg] at hgv
      obtain ⟨ys,zs,hgv',hrel⟩ := range_args (hgv.mono T1.sub) e2
      have hcall := hK _ _ _ _ _ _ _ hk σ1 w0 B w1 _ H1 (S.g.mono T1.sub) hrel
      unfold CalleeOk at hcall
      rw [if_pos (by omega),show 2 * f / 2 = f by omega] at hcall
      obtain ⟨⟨fn',c,c1,c2,c3⟩,hcall⟩ := hcall
      have earr : ys ++ #[Value.func (.yield l) #[] #[]] ++ zs = (ys.toList ++ (.func (.yield l) #[] #[] :: zs.toList)).toArray := by
       apply Array.ext'
       simp
      have hinv : (invoke (.fn (.func f) zs) (ys ++ #[Value.func (.yield l) #[] #[]])).run P w1 = .ok (.enter f (ys.toList ++ (.func (.yield l) #[] #[] :: zs.toList)).toArray) w1 := by
       show (callFunc f (ys ++ #[Value.func (.yield l) #[] #[]] ++ zs)).run P w1 = _
       rw [earr]
       exact run_callFunc c1 c2 c3
      refine ⟨l,mark,w1,_,w1,f,_,w1,e1,range_resolve hgv',fun _ _ => trivial,hinv,fun h => (by cases h),?_⟩
      have h1 : CallsIn Fence.wide 0 P f _ w1 _ := callsIn_wide.2 hcall
      have h2 : CallsIn (fen ro) 0 P f _ w1 _ := h1
      refine h2.mono ?_
      rintro e w2 ⟨σ2,u,k1,k2,k3,rfl,k5,k6⟩
      have hl2 := k1.1 _ _ e2
      obtain ⟨rc,dr,dbase,dsize,g1,g2,⟨g3,g4,_⟩,_,g5⟩ := k6.lp hl2 hlp
      have hbusy : (rc.state == LoopState.busy) = false := by rw [g3]; exact not_busy hb
      have T2 : Then σ (tm,h,nx) (tm,cput HD h2' b .dead,nx2) σ2 := by
       refine T1.trans ⟨k1,?_,k3⟩
       exact fun c hc hlc => k2 c hc (k6.dkPut hl2 (by rw [hlp]; rfl) c (Nat.lt_of_lt_of_le hc k3) hlc)
      have H2 : HS σ2 (cput HD h2' b .dead) nx2 w0 B { w2 with heap := w2.heap.setIfInBounds l (.loop { rc with state := .exhausted }) } :=
       k6.upd hl2 (by rw [hlp]; rfl) g5 rfl rfl rfl rfl trivial
      have S2 : SimD rd ro n d G w0 B σ2 (dl ++ dl0,tm,cput HD h2' b .dead,nx2) { a with defers := mark ++ a.defers } { w2 with heap := w2.heap.setIfInBounds l (.loop { rc with state := .exhausted }) } := by
       refine ⟨hro.mono T2.sub,mark ++ ds,(e3.mono k1.1).app (hM.mono T2.sub),⟨⟨S.sl.size,?_,S.sl.le,fun t ht => (S.sl.sl t ht).mono T2.sub⟩,S.g.mono T2.sub,H2⟩⟩
       show mark ++ a.defers = mark ++ ds
       rw [S.sl.dfr]
      refine ⟨pendOf pend,_,by rw [← g4]; exact end_loop g1 hbusy,?_⟩
      match pend with
      | 0 => exact ⟨rfl,σ2,T2,S2⟩
      | 1 => exact wpIn_ret ⟨rfl,σ2,T2,S2⟩
      | id + 2 => exact wpIn_exit ⟨rfl,σ2,T2,S2⟩
    ·cases hh
   ·cases hh
  ·cases hh
 ·cases hh
theorem execC_ok (hK : KOk' P G K) (hn : n ≤ 2 ^ d) (hd : d = lg n) : ∀ (c : Code) (st : SD) (e : Ex) (st' : SD) (σ : Sg) (a : Act) (w : World),execC P G n d K N rd c st = some (e,st') → SimD rd ro n d G w0 B σ st a w → c.wpIn (fen ro) 0 P (Post rd ro n d G w0 B σ st e st') a w := by
 intro c
 induction c with
 | skip =>
  intro st e st' σ a w hh S
  simp only [execC,Option.some.injEq,Prod.mk.injEq] at hh
  obtain ⟨rfl,rfl⟩ := hh
  exact wpIn_skip ⟨rfl,σ,Then.refl _ _,S⟩
 | label l =>
  intro st e st' σ a w hh S
  simp only [execC,Option.some.injEq,Prod.mk.injEq] at hh
  obtain ⟨rfl,rfl⟩ := hh
  exact wpIn_label ⟨rfl,σ,Then.refl _ _,S⟩
 | region id ops draw =>
  intro st e st' σ a w hh S
  obtain ⟨dl,tm,h,nx⟩ := st
  obtain ⟨hro,ds,hM,S⟩ := S
  simp only [execC] at hh
  cases draw with
  | true =>
   simp only [cond_true] at hh
   split at hh
   ·rename_i st1 h1
    simp only [Option.some.injEq,Prod.mk.injEq] at hh
    obtain ⟨rfl,rfl⟩ := hh
    exact regA_ok hK hn h1 S (fun σ' a' w' T S' => ⟨rfl,σ',T,hro.mono T.sub,ds,hM.mono T.sub,S'⟩)
   ·cases hh
  | false =>
   simp only [cond_false] at hh
   split at hh
   ·rename_i st1 h1
    simp only [Option.some.injEq,Prod.mk.injEq] at hh
    obtain ⟨rfl,rfl⟩ := hh
    exact wpIn_region_list (opsA_ok hK _ tm h nx st1 σ a w h1 S (fun σ' a' w' T S' => ⟨rfl,σ',T,hro.mono T.sub,ds,hM.mono T.sub,S'⟩))
   ·cases hh
 | seq x y ihx ihy =>
  intro st e st' σ a w hh S
  simp only [execC] at hh
  refine wpIn_seq ?_
  split at hh
  ·rename_i st1 h1
   refine wpIn_mono (ihx st .normal st1 σ a w h1 S) ?_
   rintro e1 a1 w1 ⟨rfl,σ1,T1,S1⟩
   refine wpIn_mono (ihy st1 e st' σ1 a1 w1 hh S1) ?_
   rintro e2 a2 w2 ⟨rfl,σ2,T2,S2⟩
   exact ⟨rfl,σ2,T1.trans T2,S2⟩
  ·rename_i r hne
   refine wpIn_mono (ihx st e st' σ a w hh S) ?_
   rintro e1 a1 w1 ⟨rfl,σ1,T1,S1⟩
   cases e with
   | normal => exact absurd hh (hne st')
   | exit id => exact ⟨rfl,σ1,T1,S1⟩
   | ret => exact ⟨rfl,σ1,T1,S1⟩
 | cond c x y ihx ihy =>
  intro st e st' σ a w hh S
  simp only [execC] at hh
  obtain ⟨ds,hM,S'⟩ := S.sm
  have hc := opnd_ok S'.sl S'.g c
  split at hh
  ·rename_i he
   rw [he] at hc
   generalize hcv : a.eval c = cv at hc
   cases hc
   exact wpIn_cond_true hcv (ihx st e st' σ a w hh S)
  ·rename_i he
   rw [he] at hc
   generalize hcv : a.eval c = cv at hc
   cases hc
   exact wpIn_cond_false hcv (ihy st e st' σ a w hh S)
  ·cases hh
 | block id b ih =>
  intro st e st' σ a w hh S
  simp only [execC] at hh
  refine wpIn_block ?_
  split at hh
  ·rename_i j st1 h1
   refine wpIn_mono (ih st (.exit j) st1 σ a w h1 S) ?_
   rintro e1 a1 w1 ⟨rfl,σ1,T1,S1⟩
   cases hb : Nat.beq j id with
   | true =>
    simp only [hb,cond_true,Option.some.injEq,Prod.mk.injEq] at hh
    obtain ⟨rfl,rfl⟩ := hh
    show (if j = id then _ else _)
    rw [if_pos (beqn_iff.1 hb)]
    exact ⟨rfl,σ1,T1,S1⟩
   | false =>
    simp only [hb,cond_false,Option.some.injEq,Prod.mk.injEq] at hh
    obtain ⟨rfl,rfl⟩ := hh
    show (if j = id then _ else _)
    rw [if_neg (fun e => by rw [beqn_iff.2 e] at hb; cases hb)]
    exact ⟨rfl,σ1,T1,S1⟩
  ·rename_i r hne
   refine wpIn_mono (ih st e st' σ a w hh S) ?_
   rintro e1 a1 w1 ⟨rfl,σ1,T1,S1⟩
   cases e with
   | normal => exact ⟨rfl,σ1,T1,S1⟩
   | exit j => exact absurd hh (hne j st')
   | ret => exact ⟨rfl,σ1,T1,S1⟩
 | loop b ih =>
  intro st e st' σ a w hh S
  simp only [execC] at hh
  exact loopI_ok ih N st e st' σ a w hh S
 | exit id =>
  intro st e st' σ a w hh S
  simp only [execC,Option.some.injEq,Prod.mk.injEq] at hh
  obtain ⟨rfl,rfl⟩ := hh
  exact wpIn_exit ⟨rfl,σ,Then.refl _ _,S⟩
 | ret =>
  intro st e st' σ a w hh S
  simp only [execC,Option.some.injEq,Prod.mk.injEq] at hh
  obtain ⟨rfl,rfl⟩ := hh
  exact wpIn_ret ⟨rfl,σ,Then.refl _ _,S⟩
 | rangeFunc g ps assign body _ _ =>
  intro st e st' σ a w hh S
  exact rangeFunc_ok hK hd hh S
 | _ => intro st e st' σ a w hh S; simp [execC] at hh
end
end I
end Go.Proofs.YtohjpggjgomgoaaGreatDoor
namespace Go.Proofs.YtohjpggjgomgoaaGreatDoor
namespace I
open K (one aggB run_underlying' run_sizeOf' add_none run_v cell_cells)
set_option linter.unusedVariables false
def fullA : Nat → AV
 | 0 => .undef
 | d + 1 => .node (fullA d) (fullA d)
theorem cget_fullA : ∀ (d i : Nat),cget d (fullA d) i = .undef
 | 0,_ => rfl
 | d + 1,i => by
  simp only [fullA,cget]
  cases Nat.blt i (2 ^ d)
  ·exact cget_fullA d _
  ·exact cget_fullA d _
def argsA (d : Nat) : List AV → Nat → AV → AV
 | [],_,t => t
 | a :: l,i,t => argsA d l (i + 1) (cput d t i a)
def resA (P : Program) (n d : Nat) (tm h : AV) : List ResultVar → Option (List AV)
 | [] => some []
 | .tmp t :: l => match resA P n d tm h l with
  | some vs => some ((bif Nat.blt t n then cget d tm t else .undef) :: vs)
  | none => none
 | .cell t ty :: l => match (bif Nat.blt t n then cget d tm t else .undef) with
  | .ptr b off => match cget HD h b with
   | .cells _ m _ t => match apartA P ty m t off,resA P n d tm h l with
    | some v,some vs => some (v :: vs)
    | _,_ => none
   | _ => none
  | _ => none
def resOfA : List AV → AV
 | [v] => v
 | vs => .tup (ofList vs)
def takeA : List Nat → AV → Option AV
 | [],h => some h
 | b :: l,h => match cget HD h b with
  | .df => takeA l (cput HD h b .dead)
  | _ => none
def putPs (n d : Nat) : List Nat → List AV → AV → AV
 | t :: ts,a :: asx,tm => putPs n d ts asx (putA n d tm (some t) a)
 | _,_,tm => tm
def Ex.goes : Ex → Bool
 | .normal => true
 | _ => false
def Ex.stn : Ex → Nat
 | .normal => 0
 | _ => 2
def Ex.pend : Ex → Nat
 | .normal => 0
 | .ret => 1
 | .exit id => id + 2
def roundA (P : Program) (G : Nat) (K : KF) (N b : Nat) (args : List AV) (h : AV) (nx : Nat) : Option (AV × AV × Nat) :=
 match cget HD h b with
 | .lp n ps assign body tm st _ _ => bif Nat.beq st 0 && Nat.beq args.length ps.length then
   match execC P G n (lg n) K N (b + 1) assign ([],putPs n (lg n) ps args tm,h,nx) with
   | some (.normal,([],tm1,h1,nx1)) => match cget HD h1 b with
    | .lp n' ps' as' bo' tm' st' pe' db' => bif Nat.beq st' 0 then
      match execC P G n (lg n) K N (b + 1) body ([],tm1,cput HD h1 b (.lp n' ps' as' bo' tm' 1 pe' db'),nx1) with
      | some (e,(_,_,h2,nx2)) => match cget HD h2 b with
       | .lp n2 ps2 as2 bo2 tm2 _ _ db2 => some (.bool e.goes,cput HD h2 b (.lp n2 ps2 as2 bo2 tm2 e.stn e.pend db2),nx2)
       | _ => none
      | none => none
     else none
    | _ => none
   | _ => none
  else none
 | _ => none
def callA (P : Program) (G : Nat) (X : KF) (N : Nat) : Nat → KF
 | 0,_,_,_,_ => none
 | k + 1,f,args,h,nx => bif Nat.beq (f % 2) 1 then roundA P G (callA P G X N k) N (f / 2) args h nx else match X (f / 2) args h nx with
  | some r => some r
  | none => match P.funcs[f / 2]? with
   | none => none
   | some fn => bif fn.name == "runtime.NumGoroutine" || !(Nat.ble args.length fn.ntmps) then none else
    match fn.body with
    | none => none
    | some c => match execC P G fn.ntmps (lg fn.ntmps) (callA P G X N k) N 0 c ([],argsA (lg fn.ntmps) args 0 (fullA (lg fn.ntmps)),h,nx) with
     | some (.exit _,_) => none
     | some (_,(dl,tm,h',nx')) => match takeA dl h' with
      | some h'' => match resA P fn.ntmps (lg fn.ntmps) tm h'' fn.results.toList with
       | some vs => some (resOfA vs,h'',nx')
       | none => none
      | none => none
     | none => none
section
variable {P : Program} {G N : Nat} {X : KF}
theorem argsA_get {d n : Nat} (hn : n ≤ 2 ^ d) : ∀ (l : List AV) (i : Nat) (t : AV) (j : Nat),i + l.length ≤ n → j < n → cget d (argsA d l i t) j = if i ≤ j ∧ j < i + l.length then l.getD (j - i) .undef else cget d t j
 | [],i,t,j,_,_ => by rw [if_neg (by simp)]; rfl
 | a :: l,i,t,j,h,hj => by
  simp only [List.length_cons] at h
  rw [argsA,argsA_get hn l (i + 1) _ j (by omega) hj,cget_cput d t i j a (by omega) (by omega)]
  by_cases hji : j = i
  ·subst hji
   rw [if_neg (by omega),if_pos rfl,if_pos (by simp)]
   simp
  ·rw [if_neg hji]
   by_cases hin : i + 1 ≤ j ∧ j < i + 1 + l.length
   ·rw [if_pos hin,if_pos (by simp; omega),show j - i = (j - (i + 1)) + 1 by omega,List.getD_cons_succ]
   ·rw [if_neg hin,if_neg (by simp; omega)]
theorem slots_args {σ : Sg} {n : Nat} {args : List AV} {vs : List Value} (hr : RelL σ args vs) (hle : args.length ≤ n) :
  SlotRel [] σ n (lg n) (argsA (lg n) args 0 (fullA (lg n))) { tmps := vs.toArray ++ Array.replicate (n - vs.toArray.size) Go.undef,defers := [] } := by
 have hl := hr.1
 have hn := lg_le n
 refine ⟨by simp; omega,rfl,hn,fun t ht => ?_⟩
 rw [argsA_get hn args 0 _ t (by omega) ht,Array.getD_eq_getD_getElem?]
 by_cases hlt : t < args.length
 ·rw [if_pos (by omega),Nat.sub_zero,Array.getElem?_append_left (by simp; omega)]
  have h1 : args[t]? = some args[t] := List.getElem?_eq_getElem hlt
  have h2 : vs[t]? = some (vs[t]'(by omega)) := List.getElem?_eq_getElem _
  rw [List.getD_eq_getElem?_getD,h1,List.getElem?_toArray,h2]
  exact hr.2 t _ _ h1 h2
 ·rw [if_neg (by omega),cget_fullA,Array.getElem?_append_right (by simp; omega)]
  have : (Array.replicate (n - vs.toArray.size) Go.undef)[t - vs.toArray.size]? = some Go.undef := by
   rw [Array.getElem?_replicate,if_pos (by simp only [List.size_toArray]; omega)]
  rw [this]
  exact .undef
theorem resA_ok {n d : Nat} {w0 w : World} {B : Fr} {σ : Sg} {tm h : AV} {nx : Nat} {a : Act} {ds : List Deferred} (S : Sim ds n d G w0 B σ (tm,h,nx) a w) : ∀ (rs : List ResultVar) (vs : List AV),resA P n d tm h rs = some vs →
  ∃ us : List Value,RelL σ vs us ∧ (rs.mapM (K.resF a.tmps)).run P w = .ok us w
 | [],vs,hh => by
  simp only [resA,Option.some.injEq] at hh
  subst hh
  exact ⟨[],⟨rfl,fun i a v ha => by simp at ha⟩,rfl⟩
 | .tmp t :: rs,vs,hh => by
  unfold resA at hh
  split at hh
  ·rename_i vs' hv
   simp only [Option.some.injEq] at hh
   subst hh
   obtain ⟨us,h1,h2⟩ := resA_ok S rs vs' hv
   have h3 := opnd_ok S.sl S.g (.tmp t)
   refine ⟨a.tmps.getD t Go.undef :: us,⟨by simp [h1.1],fun i x v hx hv => ?_⟩,?_⟩
   ·cases i with
    | zero =>
     simp only [List.getElem?_cons_zero,Option.some.injEq] at hx hv
     subst hx; subst hv; exact h3
    | succ i => simp only [List.getElem?_cons_succ] at hx hv; exact h1.2 i x v hx hv
   ·rw [List.mapM_cons]
    simp only [K.resF,Sem.run_bind,Sem.run_pure,Result.andThen_ok,h2]
  ·cases hh
 | .cell t ty :: rs,vs,hh => by
  unfold resA at hh
  have h3 := opnd_ok S.sl S.g (.tmp t)
  simp only [opndA] at h3
  split at hh
  ·rename_i b off he
   rw [he] at h3
   simp only [Act.eval] at h3
   generalize hev : a.tmps.getD t Go.undef = tv at h3
   cases h3 with
   | ptr _ _ r base size o hs ho =>
   split at hh
   ·rename_i ety m ro t' hc
    split at hh
    ·rename_i v vs' hv hvs
     simp only [Option.some.injEq] at hh
     subst hh
     obtain ⟨cs,fr,tt,g1,g2,g3,g4,g5⟩ := S.hs.cells hs hc
     obtain ⟨u,h6,h7⟩ := run_loadVar (P := P) (σ := σ) g1 (by omega) g4 ho hv
     obtain ⟨us,h1,h2⟩ := resA_ok S rs vs' hvs
     refine ⟨u :: us,⟨by simp [h1.1],fun i x v hx hv => ?_⟩,?_⟩
     ·cases i with
      | zero =>
       simp only [List.getElem?_cons_zero,Option.some.injEq] at hx hv
       subst hx; subst hv; exact h6
      | succ i => simp only [List.getElem?_cons_succ] at hx hv; exact h1.2 i x v hx hv
     ·rw [List.mapM_cons]
      have hA : (asAddr (.pointer (some ⟨r,o,none⟩))).run P w = .ok ⟨r,o,none⟩ w := rfl
      simp only [K.resF,Sem.run_bind,hev,hA,Result.andThen_ok,h7,h2,Sem.run_pure]
    ·cases hh
   ·cases hh
  ·cases hh
theorem resOf_ok {σ : Sg} {vs : List AV} {us : List Value} (h : RelL σ vs us) : Rel σ (resOfA vs) (K.resOf us) := by
 match vs,us with
 | [],[] => exact .tup _ _ rfl (fun i a v ha => by simp [ofList,toList] at ha)
 | [v],[u] => exact h.2 0 v u rfl rfl
 | v :: v' :: vs,u :: u' :: us =>
  refine .tup _ _ ?_ (fun i a x ha hx => ?_)
  ·rw [toList_ofList]; simpa using h.1
  ·rw [toList_ofList] at ha
   exact h.2 i a x ha (by simpa using hx)
 | [],_ :: _ => exact absurd h.1 (by simp)
 | _ :: _,[] => exact absurd h.1 (by simp)
 | [_],_ :: _ :: _ => exact absurd h.1 (by simp)
 | _ :: _ :: _,[_] => exact absurd h.1 (by simp)
def XOk (P : Program) (G : Nat) (X : KF) : Prop := ∀ f args h nx v h' nx',X f args h nx = some (v,h',nx') → CallOk P G (2 * f) args h nx v h' nx'
theorem HS.df {σ : Sg} {h : AV} {nx : Nat} {w0 w : World} {B : Fr} (H : HS σ h nx w0 B w) {b r base size : Nat} (hb : σ b = some (r,base,size)) (hc : cget HD h b = .df) : w.heap[r]? = some (.deferred (some [])) ∧ (B.wr r ∨ w0.heap.size ≤ r) := by
 have := H.blk b (H.lt hb)
 rw [hc] at this
 obtain ⟨r',base',size',h1,h2,h3⟩ := this
 rw [hb] at h1
 simp only [Option.some.injEq,Prod.mk.injEq] at h1
 obtain ⟨rfl,rfl,rfl⟩ := h1
 exact ⟨h2,h3⟩
theorem takeA_ok {σ : Sg} {nx : Nat} {w0 : World} {B : Fr} {fn : Func} {tmps : Array Value} {R : Ending → World → Prop} : ∀ (dl : List Nat) (ds : List Deferred) (h h' : AV) (w : World),takeA dl h = some h' → HS σ h nx w0 B w → MarksRel σ dl ds →
  (∀ w',Dk nx h h' → HS σ h' nx w0 B w' → LeavesIn Fence.wide 0 P fn tmps R [] .returning w') → LeavesInM Fence.wide 0 P fn tmps R ds .returning w
 | [],ds,h,h',w,ht,H,hM,hL => by
  simp only [takeA,Option.some.injEq] at ht
  subst ht
  have : ds = [] := List.eq_nil_of_length_eq_zero hM.1.symm
  subst this
  exact hL w (Dk.refl _ _) H
 | b :: dl,ds,h,h',w,ht,H,hM,hL => by
  unfold takeA at ht
  split at ht
  ·rename_i hdf
   match ds,hM with
   | [],hM => exact absurd hM.1 (by simp)
   | x :: ds,hM =>
    obtain ⟨r,base,size,h1,rfl⟩ := hM.2 0 b x rfl rfl
    obtain ⟨g1,g2⟩ := H.df h1 hdf
    have hgo : (getObj r).run P w = .ok (.deferred (some [])) w := by simp [getObj,Sem.run,g1]
    have hso : ∀ o,(setObj r o).run P w = .ok () { w with heap := w.heap.setIfInBounds r o } := fun o => by simp [setObj,Sem.run,g1]
    have H2 : HS σ (cput HD h b .dead) nx w0 B { w with heap := w.heap.setIfInBounds r (.deferred none) } := H.upd h1 (by rw [hdf]; rfl) g2 rfl rfl rfl rfl trivial
    have hdk : Dk nx h (cput HD h b .dead) := H.dkKill h1
    refine ⟨by simp,.inl ⟨r,_,rfl,?_,takeA_ok dl ds _ h' _ ht H2 ⟨by have := hM.1; simpa using this,fun i c y hc hy => hM.2 (i + 1) c y (by simpa using hc) (by simpa using hy)⟩ (fun w' d H' => hL w' (hdk.trans d (Nat.le_refl _)) H')⟩⟩
    simp only [Instr.takeDeferred,Sem.run_bind,hgo,Result.andThen_ok,hso,Sem.run_pure]
  ·cases ht
theorem putPs_ok {n d : Nat} {σ : Sg} : ∀ (ps : List Nat) (args : List AV) (vs : List Value) (tm : AV) (T : Array Value),RelL σ args vs → SlotRel [] σ n d tm { tmps := T,defers := [] } →
  SlotRel [] σ n d (putPs n d ps args tm) { tmps := (ps.zip vs).foldl (fun tmps x => tmps.setIfInBounds x.1 x.2) T,defers := [] }
 | [],_,_,_,_,_,S => by simpa [putPs] using S
 | _ :: _,[],vs,_,_,hr,S => by
  have : vs = [] := List.eq_nil_of_length_eq_zero hr.1.symm
  subst this
  simpa [putPs] using S
 | t :: ps,x :: args,[],_,_,hr,S => absurd hr.1 (by simp)
 | t :: ps,x :: args,v :: vs,tm,T,hr,S => by
  have h1 := hr.2 0 x v rfl rfl
  have h2 : RelL σ args vs := ⟨by have := hr.1; simpa using this,fun i a u ha hu => hr.2 (i + 1) a u (by simpa using ha) (by simpa using hu)⟩
  exact putPs_ok ps args vs _ _ h2 (put_ok (dst := some t) S h1)
theorem run_yield {r : Nat} {w : World} {rc : Loop} {ps : List Nat} {vs : List Value} (g1 : w.heap[r]? = some (.loop rc)) (hp : rc.params = ps.toArray) (hl : vs.length = ps.length) :
  (Instr.yield r vs.toArray).run P w = .ok (.round r rc.fn ((ps.zip vs).foldl (fun tmps x => tmps.setIfInBounds x.1 x.2) rc.tmps) rc.assign rc.body) w := by
 have hgo : (getObj r).run P w = .ok (.loop rc) w := by simp [getObj,Sem.run,g1]
 simp only [Instr.yield,Instr.getLoop,Sem.run_bind,hgo,Result.andThen_ok,Sem.run_pure,hp,List.size_toArray,hl,ne_eq,not_true,if_false]
 rw [← Array.foldl_toList]
 simp
theorem run_begin {r : Nat} {w : World} {rc : Loop} (g1 : w.heap[r]? = some (.loop rc)) (hs : rc.state = .ready) :
  (Instr.beginRound r).run P w = .ok () { w with heap := w.heap.setIfInBounds r (.loop { rc with state := .busy }) } := by
 have hgo : (getObj r).run P w = .ok (.loop rc) w := by simp [getObj,Sem.run,g1]
 have hso : ∀ o,(setObj r o).run P w = .ok () { w with heap := w.heap.setIfInBounds r o } := fun o => by simp [setObj,Sem.run,g1]
 simp only [Instr.beginRound,Instr.getLoop,Sem.run_bind,hgo,Result.andThen_ok,Sem.run_pure,hso,hs]
theorem run_end {r : Nat} {w : World} {rc : Loop} {j : Option Code} (g1 : w.heap[r]? = some (.loop rc)) :
  (Instr.endRound r j).run P w = .ok (.bool j.isNone) { w with heap := w.heap.setIfInBounds r (.loop { rc with state := if j.isNone then .ready else .done,pending := j }) } := by
 have hgo : (getObj r).run P w = .ok (.loop rc) w := by simp [getObj,Sem.run,g1]
 have hso : ∀ o,(setObj r o).run P w = .ok () { w with heap := w.heap.setIfInBounds r o } := fun o => by simp [setObj,Sem.run,g1]
 simp only [Instr.endRound,Instr.getLoop,Sem.run_bind,hgo,Result.andThen_ok,Sem.run_pure,hso]
theorem HS.setLp {σ : Sg} {h : AV} {nx : Nat} {w0 w : World} {B : Fr} (H : HS σ h nx w0 B w) {b r base size m : Nat} {ps : List Nat} {assign body : Code} {tm : AV} {st pend db : Nat} (hb : σ b = some (r,base,size)) (hc : cget HD h b = .lp m ps assign body tm st pend db) {rc : Loop}
  (g1 : w.heap[r]? = some (.loop rc)) {st' pend' : Nat} {s' : LoopState} {p' : Option Code} (hs : s' = stOf st') (hp : p' = pendOf pend') :
  HS σ (cput HD h b (.lp m ps assign body tm st' pend' db)) nx w0 B { w with heap := w.heap.setIfInBounds r (.loop { rc with state := s',pending := p' }) } := by
 obtain ⟨rc',dr,dbase,dsize,q1,q2,⟨e1,e2,e3,e4,e5,e6,e7⟩,q4,q5⟩ := H.lp hb hc
 rw [g1] at q1
 simp only [Option.some.injEq,Obj.loop.injEq] at q1
 subst q1
 exact H.upd hb (by rw [hc]; rfl) q5 rfl rfl rfl rfl ⟨r,base,size,{ rc with state := s',pending := p' },dr,dbase,dsize,hb,by simp [lt_of_get g1],q2,⟨hs,hp,e3,e4,e5,e6,e7⟩,q4,q5⟩
theorem roundA_ok {K : KF} (hK : KOk' P G K) {b : Nat} {args : List AV} {h : AV} {nx : Nat} {v h' : AV} {nx' : Nat} (hh : roundA P G K N b args h nx = some (v,h',nx')) : CallOk P G (2 * b + 1) args h nx v h' nx' := by
 intro σ w0 B w vs H hG hr
 unfold CalleeOk
 rw [if_neg (by omega),show (2 * b + 1) / 2 = b by omega]
 intro r base size hb
 unfold roundA at hh
 split at hh
 ·rename_i n ps assign body tm st pe db hlp
  cases hq : (Nat.beq st 0 && Nat.beq args.length ps.length) with
  | false => simp [hq] at hh
  | true =>
   simp only [hq,cond_true] at hh
   simp only [Bool.and_eq_true] at hq
   have hst := beqn_iff.1 hq.1
   have hlen := beqn_iff.1 hq.2
   obtain ⟨rc,dr,dbase,dsize,g1,g2,⟨e1,e2,e3,e4,e5,e6,e7⟩,g4,g5⟩ := H.lp hb hlp
   have hy := run_yield (P := P) (vs := vs) g1 e3 (by rw [← hr.1]; exact hlen)
   rw [e4,e5] at hy
   refine ⟨rc.fn,_,assign,body,hy,roundIn_of_wpIn (F := Fence.wide) trivial ?_⟩
   split at hh
   ·rename_i tm1 h1 nx1 hx1
    split at hh
    ·rename_i n' ps' as' bo' tm' st' pe' db' hlp1
     cases hq1 : Nat.beq st' 0 with
     | false => simp [hq1] at hh
     | true =>
      simp only [hq1,cond_true] at hh
      have hst1 := beqn_iff.1 hq1
      split at hh
      ·rename_i e dl2 tm2 h2 nx2 hx2
       split at hh
       ·rename_i n2 ps2 as2 bo2 tm2' st2 pe2 db2 hlp2
        simp only [Option.some.injEq,Prod.mk.injEq] at hh
        obtain ⟨rfl,rfl,rfl⟩ := hh
        have S0 : SimD (b + 1) (some r) n (lg n) G w0 B σ ([],putPs n (lg n) ps args tm,h,nx) { tmps := (ps.zip vs).foldl (fun tmps x => tmps.setIfInBounds x.1 x.2) rc.tmps,defers := [] } w :=
         ⟨⟨r,base,size,hb,rfl⟩,[],MarksRel.nil _,⟨putPs_ok ps args vs tm rc.tmps hr ⟨e7,rfl,lg_le _,g4⟩,hG,H⟩⟩
        refine wpIn_mono (execC_ok (ro := some r) hK (lg_le _) rfl assign _ .normal _ σ _ w hx1 S0) ?_
        rintro ex a1 w1 ⟨rfl,σ1,T1,S1⟩
        obtain ⟨hro1,ds1,hM1,S1⟩ := S1
        have hb1 := T1.sub _ _ hb
        have H1 : HS σ1 h1 nx1 w0 B w1 := S1.hs
        obtain ⟨rc1,_,_,_,f1,_,⟨f2,_⟩,_,_⟩ := H1.lp hb1 hlp1
        have hds1 : ds1 = [] := List.eq_nil_of_length_eq_zero hM1.1.symm
        subst hds1
        refine ⟨_,run_begin f1 (by rw [f2,hst1]; rfl),?_⟩
        have H1' := H1.setLp hb1 hlp1 f1 (st' := 1) (pend' := pe') (s' := .busy) (p' := rc1.pending) rfl (by
         obtain ⟨rc1',_,_,_,z1,_,⟨_,z2,_⟩,_,_⟩ := H1.lp hb1 hlp1
         rw [f1] at z1; simp only [Option.some.injEq,Obj.loop.injEq] at z1; subst z1; exact z2)
        have S1' : SimD (b + 1) (some r) n (lg n) G w0 B σ1 ([],tm1,cput HD h1 b (.lp n' ps' as' bo' tm' 1 pe' db'),nx1) a1 { w1 with heap := w1.heap.setIfInBounds r (.loop { rc1 with state := .busy }) } :=
         ⟨hro1,[],MarksRel.nil _,⟨S1.sl,S1.g,H1'⟩⟩
        refine wpIn_mono (execC_ok (ro := some r) hK (lg_le _) rfl body _ e _ σ1 _ _ hx2 S1') ?_
        rintro ex a2 w2 ⟨rfl,σ2,T2,S2⟩
        obtain ⟨hro2,ds2,hM2,S2⟩ := S2
        have hb2 := T2.sub _ _ hb1
        have H2 : HS σ2 h2 nx2 w0 B w2 := S2.hs
        obtain ⟨rc2,_,_,_,y1,_⟩ := H2.lp hb2 hlp2
        have hdk : ∀ s p,Dk nx h (cput HD h2 b (.lp n2 ps2 as2 bo2 tm2' s p db2)) := fun s p c hc hlc => by
         have hc1 : c < nx1 := Nat.lt_of_lt_of_le hc T1.2.2
         have hc2 : c < nx2 := Nat.lt_of_lt_of_le hc1 T2.2.2
         have k1 := H2.dkPut hb2 (by rw [hlp2]; rfl) c hc2 hlc
         have k2 := T2.2.1 c hc1 k1
         have k3 := H1.dkPut hb1 (by rw [hlp1]; rfl) c hc1 k2
         exact T1.2.1 c hc k3
        have hsub : SubX nx σ σ2 := T1.1.trans T2.1 T1.2.2
        have hnx : nx ≤ nx2 := Nat.le_trans T1.2.2 T2.2.2
        cases e with
        | normal => exact ⟨_,_,run_end y1,σ2,_,hsub,hdk _ _,hnx,rfl,.bool _,H2.setLp hb2 hlp2 y1 rfl rfl⟩
        | ret => exact ⟨_,_,run_end y1,σ2,_,hsub,hdk _ _,hnx,rfl,.bool _,H2.setLp hb2 hlp2 y1 rfl rfl⟩
        | exit id => exact ⟨_,_,run_end y1,σ2,_,hsub,hdk _ _,hnx,rfl,.bool _,H2.setLp hb2 hlp2 y1 rfl rfl⟩
       ·cases hh
      ·cases hh
    ·cases hh
   ·cases hh
 ·cases hh
theorem callA_ok (hX : XOk P G X) : ∀ (k : Nat),KOk' P G (callA P G X N k)
 | 0,f,args,h,nx,v,h',nx',hh => by simp [callA] at hh
 | k + 1,f,args,h,nx,v,h',nx',hh => by
  unfold callA at hh
  cases hodd : Nat.beq (f % 2) 1 with
  | true =>
   simp only [hodd,cond_true] at hh
   have h1 := beqn_iff.1 hodd
   have h2 := roundA_ok (callA_ok hX k) hh
   rwa [show 2 * (f / 2) + 1 = f by omega] at h2
  | false =>
   simp only [hodd,cond_false] at hh
   have h0 : f % 2 = 0 := by
    have : f % 2 ≠ 1 := fun e => by rw [beqn_iff.2 e] at hodd; cases hodd
    omega
   have hf2 : 2 * (f / 2) = f := by omega
   split at hh
   ·rename_i r hr
    simp only [Option.some.injEq] at hh
    rw [hh] at hr
    have := hX (f / 2) args h nx v h' nx' hr
    rwa [hf2] at this
   ·split at hh
    ·cases hh
    ·rename_i fn hf
     cases hb : (fn.name == "runtime.NumGoroutine" || !(Nat.ble args.length fn.ntmps)) with
     | true => simp [hb] at hh
     | false =>
      simp only [hb,cond_false] at hh
      simp only [Bool.or_eq_false_iff,Bool.not_eq_false'] at hb
      have hle := ble_iff.1 hb.2
      split at hh
      ·cases hh
      ·rename_i c hc
       split at hh
       ·cases hh
       ·rename_i e dl tm h1 nx1 hne hex
        split at hh
        ·rename_i h2 ht
         split at hh
         ·rename_i vs hvs
          simp only [Option.some.injEq,Prod.mk.injEq] at hh
          obtain ⟨rfl,rfl,rfl⟩ := hh
          intro σ w0 B w us H hg hr
          unfold CalleeOk
          rw [if_pos h0]
          refine ⟨⟨fn,c,hf,hb.1,hc⟩,(callsIn_wide (n := 0)).1 (callsIn_of_wp_marks (F := Fence.wide) hf hc trivial ?_)⟩
          have S0 : SimD 0 none fn.ntmps (lg fn.ntmps) G w0 B σ ([],argsA (lg fn.ntmps) args 0 (fullA (lg fn.ntmps)),h,nx) { tmps := us.toArray ++ Array.replicate (fn.ntmps - us.toArray.size) Go.undef,defers := [] } w :=
           ⟨rfl,[],MarksRel.nil _,⟨slots_args hr hle,hg,H⟩⟩
          refine wpIn_mono (execC_ok (ro := none) (callA_ok hX k) (lg_le _) rfl c _ e (dl,tm,h1,nx1) σ _ w hex S0) ?_
          rintro e' a' w' ⟨rfl,σ',T,S'⟩
          obtain ⟨_,ds',hM',S'⟩ := S'
          have hpost : LeavesInM Fence.wide 0 P fn a'.tmps (fun e w' => ∃ σ' v',SubX nx σ σ' ∧ Dk nx h h2 ∧ nx ≤ nx1 ∧ e = .returned v' ∧ Rel σ' (resOfA vs) v' ∧ HS σ' h2 nx1 w0 B w') a'.defers .returning w' := by
           rw [S'.sl.dfr]
           refine takeA_ok (σ := σ') (nx := nx1) (w0 := w0) (B := B) dl ds' h1 h2 w' ht S'.hs hM' (fun w2 hdk H2 => ?_)
           have S2 : Sim ds' fn.ntmps (lg fn.ntmps) G w0 B σ' (tm,h2,nx1) a' w2 := ⟨S'.sl,S'.g,H2⟩
           obtain ⟨xs,r1,r2⟩ := resA_ok (P := P) S2 _ vs hvs
           have hres : (Go.results fn a'.tmps).run P w2 = .ok (K.resOf xs) w2 := by
            rw [K.results_eq,← Array.toArray_toList (xs := fn.results),List.mapM_toArray]
            simp only [Sem.run_bind,map_eq_pure_bind,r2,Result.andThen_ok,Sem.run_pure]
            match xs with
            | [] => rfl
            | [v] => rfl
            | _ :: _ :: _ => simp [K.resOf]
           exact ⟨_,hres,σ',_,T.1,T.2.1.trans hdk T.2.2,T.2.2,rfl,resOf_ok r1,H2⟩
          cases e with
          | normal => exact hpost
          | exit j => exact (hne j rfl).elim
          | ret => exact hpost
         ·cases hh
        ·cases hh
       ·cases hh
def H0 : AV := .uni .dead
def isTrue : Option (AV × AV × Nat) → Bool
 | some (.bool true,_,_) => true
 | _ => false
end
end I
end Go.Proofs.YtohjpggjgomgoaaGreatDoor
namespace Go.Proofs.YtohjpggjgomgoaaGreatDoor
namespace I
open K (one aggB run_underlying' run_sizeOf' add_none run_v cell_cells)
set_option linter.unusedVariables false
structure SortedKeys (P : Program) (fS fK ety : Nat) : Prop where
 has : ∃ fn c,P.funcs[fS]? = some fn ∧ (fn.name == "runtime.NumGoroutine") = false ∧ fn.body = some c
 some : ∀ (Bm b : Nat) (es : Array MapEntry) (clock : Nat) (ks : List Int) (w : World),w.heap[b]? = .some (.map es clock) → Go.MapKept.Stamped es clock → es.toList.map (·.key) = ks.map encZ →
  (∀ x ∈ ks,(Lit.int .i64 x).wf = true) → ks.length ≤ 1000000 → w.cell? ⟨Bm,0,none⟩ = .some (.map (.some b)) →
  Calls P fS #[.func (.func fK) #[] #[.pointer (.some ⟨Bm,0,none⟩)]] w fun e w' => ∃ v,e = .returned v ∧ w'.ownsRow w.heap.size ety 1 v ks.length ((ks.mergeSort leI).map encZ) ∧ (v = .slice none 0 0 ↔ ks = []) ∧ Go.RowKit.Below w.heap.size w w'
 none : ∀ (Bm : Nat) (w : World),w.cell? ⟨Bm,0,none⟩ = .some (.map none) →
  Calls P fS #[.func (.func fK) #[] #[.pointer (.some ⟨Bm,0,none⟩)]] w fun e w' => e = .returned (.slice none 0 0) ∧ Go.RowKit.Below w.heap.size w w'
def in64 : Int → Bool
 | .ofNat a => Nat.blt a 9223372036854775808
 | .negSucc a => Nat.blt a 9223372036854775808
def keysI : AV → Option (List Int)
 | .lcons (.lcons (.int .i64 x) _) l => match keysI l with
  | some ks => bif in64 x then some (x :: ks) else none
  | none => none
 | .lnil => some []
 | _ => none
def insI (x : Int) : List Int → List Int
 | [] => [x]
 | y :: l => bif ilt y x then y :: insI x l else x :: y :: l
def sortI : List Int → List Int
 | [] => []
 | x :: l => insI x (sortI l)
def sortX (fS fK ety : Nat) : KF := fun f args h nx =>
 bif Nat.beq f fS then match args with
  | [.fn g .lnil (.lcons (.ptr b 0) .lnil)] => bif Nat.beq g fK then match cget HD h b with
   | .cells _ n _ t => bif Nat.blt 0 n then match cget (lg n) t 0 with
    | .map m => match cget HD h m with
     | .mp l => match keysI l with
      | some ks => bif Nat.beq ks.length 0 then some (.nils,h,nx) else
       bif Nat.blt nx (2 ^ HD) && Nat.ble ks.length 1000000 then
        some (.sl nx 0 ks.length ks.length 1,cput HD h nx (.cells (2 * ety) ks.length false (cmk (fun i => .int .i64 ((sortI ks).getD i 0)) (lg ks.length) 0 ks.length)),nx + 1) else none
      | none => none
     | _ => none
    | .nilm => some (.nils,h,nx)
    | _ => none
    else none
   | _ => none
   else none
  | _ => none
 else none
section
variable {P : Program} {G : Nat} {σ : Sg}
theorem insI_perm (x : Int) : ∀ l,(insI x l).Perm (x :: l)
 | [] => .refl _
 | y :: l => by
  unfold insI
  cases ilt y x with
  | true => exact ((insI_perm x l).cons y).trans (.swap x y l)
  | false => exact .refl _
theorem sortI_perm : ∀ l,(sortI l).Perm l
 | [] => .refl _
 | x :: l => (insI_perm x _).trans ((sortI_perm l).cons x)
theorem insI_sorted (x : Int) : ∀ l,l.Pairwise (fun a b => leI a b = true) → (insI x l).Pairwise (fun a b => leI a b = true)
 | [],_ => by simp [insI]
 | y :: l,h => by
  obtain ⟨h1,h2⟩ := List.pairwise_cons.1 h
  unfold insI
  cases hb : ilt y x with
  | true =>
   simp only [cond_true]
   refine List.pairwise_cons.2 ⟨fun z hz => ?_,insI_sorted x l h2⟩
   rcases List.mem_cons.1 ((insI_perm x l).mem_iff.1 hz) with rfl | hz
   ·rw [ilt_eq] at hb
    simp only [decide_eq_true_eq,leI] at hb ⊢
    omega
   ·exact h1 z hz
  | false =>
   simp only [cond_false]
   rw [ilt_eq] at hb
   simp only [decide_eq_false_iff_not] at hb
   refine List.pairwise_cons.2 ⟨fun z hz => ?_,h⟩
   rcases List.mem_cons.1 hz with rfl | hz
   ·simp only [leI,decide_eq_true_eq]; omega
   ·have := h1 z hz
    simp only [leI,decide_eq_true_eq] at this ⊢; omega
theorem sortI_sorted : ∀ l,(sortI l).Pairwise (fun a b => leI a b = true)
 | [] => .nil
 | x :: l => insI_sorted x _ (sortI_sorted l)
theorem sortI_eq (l : List Int) : l.mergeSort leI = sortI l := by
 have tr : ∀ a b c : Int,leI a b = true → leI b c = true → leI a c = true := fun a b c h1 h2 => by simp only [leI,decide_eq_true_eq] at *; exact Int.le_trans h1 h2
 have to : ∀ a b : Int,(leI a b || leI b a) = true := fun a b => by simp only [leI,Bool.or_eq_true,decide_eq_true_eq]; exact Int.le_total a b
 refine List.Perm.eq_of_pairwise (le := fun a b => leI a b = true) (fun a b _ _ h1 h2 => ?_) (List.pairwise_mergeSort tr to l) (sortI_sorted l) ((List.mergeSort_perm l leI).trans (sortI_perm l).symm)
 simp only [leI,decide_eq_true_eq] at h1 h2
 exact Int.le_antisymm h1 h2
theorem in64_wf {x : Int} (h : in64 x = true) : (Lit.int .i64 x).wf = true := by
 have : -9223372036854775808 ≤ x ∧ x ≤ 9223372036854775807 := by
  cases x with
  | ofNat a => have := blt_iff.1 h; simp only [Int.ofNat_eq_natCast]; omega
  | negSucc a => have := blt_iff.1 h; rw [Int.negSucc_eq]; omega
 simp only [Lit.wf]
 simp
 exact this
theorem keysI_ok : ∀ {l : AV} {es : List MapEntry} {ks : List Int},EsRel σ l es → keysI l = some ks → es.map (·.key) = ks.map encZ ∧ ∀ x ∈ ks,(Lit.int .i64 x).wf = true
 | .lcons (.lcons k v) l,es,ks,he,h => by
  obtain ⟨e,es',rfl,h1,h2,h3⟩ := he.cons_of
  unfold keysI at h
  split at h
  ·rename_i x _ l' heq
   simp only [AV.lcons.injEq] at heq
   obtain ⟨⟨rfl,_⟩,rfl⟩ := heq
   split at h
   ·rename_i ks' hk
    cases hb : in64 x with
    | false => simp [hb] at h
    | true =>
     simp only [hb,cond_true,Option.some.injEq] at h
     subst h
     obtain ⟨g1,g2⟩ := keysI_ok h3 hk
     generalize hkv : e.key = kv at h1
     cases h1
     refine ⟨by simp [g1,hkv],fun y hy => ?_⟩
     rcases List.mem_cons.1 hy with rfl | hy
     ·exact in64_wf hb
     ·exact g2 y hy
   ·cases h
  ·rename_i heq; cases heq
  ·cases h
 | .lnil,es,ks,he,h => by
  have := he.nil_of
  subst this
  simp only [keysI,Option.some.injEq] at h
  subst h
  exact ⟨rfl,fun x hx => by cases hx⟩
theorem sortX_ok {fS fK ety : Nat} (S : SortedKeys P fS fK ety) : XOk P G (sortX fS fK ety) := by
 intro f args h nx v h' nx' hh
 unfold sortX at hh
 cases hf : Nat.beq f fS with
 | false => simp [hf] at hh
 | true =>
  have := beqn_iff.1 hf
  subst this
  simp only [hf,cond_true] at hh
  intro σ w0 B w vs H hG hr
  unfold CalleeOk
  rw [if_pos (by omega),show 2 * f / 2 = f by omega]
  refine ⟨S.has,?_⟩
  split at hh
  ·rename_i g b
   cases hg : Nat.beq g fK with
   | false => simp [hg] at hh
   | true =>
    have := beqn_iff.1 hg
    subst this
    simp only [hg,cond_true] at hh
    have hv : ∃ bm : Nat,∃ base size,vs = [.func (.func g) #[] #[.pointer (some ⟨bm,base,none⟩)]] ∧ σ b = some (bm,base,size) := by
     obtain ⟨hl,hi⟩ := hr
     match vs,hl with
     | [u],_ =>
      have h1 := hi 0 _ u rfl rfl
      cases h1 with
      | fn _ _ _ xs ys e1 e2 e3 e4 =>
      have hx : xs = #[] := by
       apply Array.eq_empty_of_size_eq_zero
       simpa [toList] using e1.symm
      have hy : ∃ y,ys = #[y] := by
       have : ys.size = 1 := by simpa [toList] using e2.symm
       exact ⟨ys[0],by apply Array.ext <;> simp [this]; intro i hi; subst hi; rfl⟩
      obtain ⟨y,rfl⟩ := hy
      have h2 := e4 0 (.ptr b 0) y rfl rfl
      cases h2 with
      | ptr _ _ r base size o q1 q2 => exact ⟨r,base,size,by subst hx; simp [q2],q1⟩
    obtain ⟨bm,base,size,rfl,hb⟩ := hv
    split at hh
    ·rename_i ty n ro t hc
     cases hn : Nat.blt 0 n with
     | false => simp [hn] at hh
     | true =>
      have hn' := blt_iff.1 hn
      simp only [hn,cond_true] at hh
      obtain ⟨cs,fr,tt,g1,g2,⟨rfl,g3,_⟩,g4,g5⟩ := H.cells hb hc
      obtain ⟨u,u1,u2,u3⟩ := g4 0 hn'
      have hcell : w.cell? ⟨bm,0,none⟩ = some u := by
       rw [cell_cells g1]; simpa using u1
      split at hh
      ·rename_i m hm
       rw [hm] at u3
       cases u3 with
       | map _ r mbase msize hs =>
       split at hh
       ·rename_i l hl
        obtain ⟨es,clock,h2,h3,h4,hst⟩ := H.mp hs hl
        split at hh
        ·rename_i ks hks
         obtain ⟨k1,k2⟩ := keysI_ok h3 hks
         cases hz : Nat.beq ks.length 0 with
         | true =>
          simp only [hz,cond_true,Option.some.injEq,Prod.mk.injEq] at hh
          obtain ⟨rfl,rfl,rfl⟩ := hh
          have hnil : ks = [] := List.eq_nil_of_length_eq_zero (beqn_iff.1 hz)
          refine (S.some bm r es clock ks w h2 hst k1 k2 (by simp [hnil]) hcell).mono ?_
          rintro e w' ⟨v,rfl,_,hv,hB⟩
          obtain rfl := hv.2 hnil
          exact ⟨σ,_,SubX.refl _ _,Dk.refl _ _,Nat.le_refl _,rfl,.nils,H.more hB.block hB.size hB.os hB.tape hB.output⟩
         | false =>
          simp only [hz,cond_false] at hh
          cases hq : (Nat.blt nx (2 ^ HD) && Nat.ble ks.length 1000000) with
          | false => simp [hq] at hh
          | true =>
           simp only [hq,cond_true,Option.some.injEq,Prod.mk.injEq] at hh
           obtain ⟨rfl,rfl,rfl⟩ := hh
           simp only [Bool.and_eq_true] at hq
           have hnx := blt_iff.1 hq.1
           have hle := ble_iff.1 hq.2
           have hk0 : ks.length ≠ 0 := fun e => by rw [beqn_iff.2 e] at hz; cases hz
           refine (S.some bm r es clock ks w h2 hst k1 k2 hle hcell).mono ?_
           rintro e w' ⟨v,rfl,hrow,hv,hB⟩
           rcases hrow.2 with ⟨_,h0⟩ | ⟨gb,cap,cur,rfl,hbase,hgb,r1,r2,r3,r4⟩
           ·exact absurd h0 hk0
           ·have H1 := (H.more hB.block hB.size hB.os hB.tape hB.output).skip (Nat.le_succ nx) hnx
            have h0 : σ nx = none := by
             cases hx : σ nx with
             | none => rfl
             | some p => have := H.dom nx p hx; omega
            obtain ⟨hsub,H2⟩ := H1.bind (p := (gb,0,cur.size)) h0 (Nat.lt_succ_self nx)
            have hcell' : ∀ i,i < ks.length → cur[i]? = some (.int .i64 ((sortI ks).getD i 0)) := fun i hi => by
             have e1 : (cur.toList.take (ks.length * 1))[i]? = ((ks.mergeSort leI).map encZ)[i]? := by rw [r4]
             rw [sortI_eq,List.getElem?_take,if_pos (by omega),List.getElem?_map] at e1
             have hlen : (sortI ks).length = ks.length := (sortI_perm ks).length_eq
             rw [Array.getElem?_toList] at e1
             rw [e1,List.getD_eq_getElem?_getD,List.getElem?_eq_getElem (by omega)]
             rfl
            have hblk : BlkRel (ext σ nx (gb,0,cur.size)) w0 B w' nx (.cells (2 * ety) ks.length false (cmk (fun i => .int .i64 ((sortI ks).getD i 0)) (lg ks.length) 0 ks.length)) := by
             refine ⟨gb,0,cur.size,cur,(0,0),ety,by simp [ext],hgb,rfl,⟨rfl,by omega,fun hx => by omega⟩,fun i hi => ⟨_,by rw [Nat.zero_add]; exact hcell' i hi,rfl,?_⟩,fun _ => ⟨calm0 _,.inr (Nat.le_trans H.size hbase)⟩,fun _ => (even_half ety).symm⟩
             rw [cget_cmk _ _ _ _ _ (lg_le _) hi,Nat.zero_add]
             exact .int _ _
            have H3 := H2.lay (b0 := nx) (p := (gb,0,cur.size)) (by simp [ext]) hblk (Nat.le_trans H.size hbase) (fun c q hcn hq hl => by
             unfold ext at hq
             rw [if_neg hcn] at hq
             have := H.real_lt hq hl
             omega)
            refine ⟨_,_,⟨hsub,fun c hc => by unfold ext; rw [if_neg (by omega)]⟩,fun c hc hlc => ?_,Nat.le_succ nx,rfl,?_,H3⟩
            ·rw [cget_cput HD h nx c _ hnx (by omega),if_neg (by omega)] at hlc
             exact hlc
            ·exact .sl nx 0 _ _ 1 gb 0 cur.size 0 cap (by simp [ext]) (Nat.le_refl _) r1 (fun _ => rfl) (by omega)
        ·cases hh
       ·cases hh
      ·rename_i hm
       rw [hm] at u3
       cases u3
       simp only [Option.some.injEq,Prod.mk.injEq] at hh
       obtain ⟨rfl,rfl,rfl⟩ := hh
       refine (S.none bm w hcell).mono ?_
       rintro e w' ⟨rfl,hB⟩
       exact ⟨σ,_,SubX.refl _ _,Dk.refl _ _,Nat.le_refl _,rfl,.nils,H.more hB.block hB.size hB.os hB.tape hB.output⟩
      ·cases hh
    ·cases hh
  ·cases hh
end
end I
end Go.Proofs.YtohjpggjgomgoaaGreatDoor
namespace Go.Proofs.YtohjpggjgomgoaaGreatDoor
namespace I
open Go.RowKit Go.Maps Go.Sort Go.Shelf Go.WideElems
set_option linter.unusedVariables false
def noRead (_ : Value) : Option (DataW Unit × List MemPlace) := some (.nil,[])
theorem keyOf_int {P : Program} {k : TypeId} {x : Int} (hk : P.underlying k = some (.int .i64)) (hw : (Lit.int .i64 x).wf = true) : keyOf P k (encZ x) = some (.int .i64 x) := by
 simp [keyOf,hk,mapKey,hw]
theorem keys_perm {P : Program} {k : TypeId} (hk : P.underlying k = some (.int .i64)) : ∀ {es : List MapEntry} {ks : List Int},es.map (·.key) = ks.map encZ → (∀ x ∈ ks,(Lit.int .i64 x).wf = true) →
  (∀ x ∈ es,∃ y,rd P k noRead x = some y) ∧ (es.map (rg P k noRead)).map (fun p => intOf p.1) = ks
 | [],[],_,_ => ⟨fun x hx => (by cases hx),rfl⟩
 | [],_ :: _,h,_ => by simp at h
 | _ :: _,[],h,_ => by simp at h
 | e :: es,x :: ks,h,hw => by
  simp only [List.map_cons,List.cons.injEq] at h
  obtain ⟨h1,h2⟩ := h
  obtain ⟨g1,g2⟩ := keys_perm hk h2 (fun y hy => hw y (List.mem_cons_of_mem _ hy))
  have hrd : rd P k noRead e = some (.int .i64 x,.nil) := by
   have := keyOf_int hk (hw x (List.mem_cons_self ..))
   simp [rd,h1,this,noRead]
  refine ⟨fun y hy => ?_,?_⟩
  ·rcases List.mem_cons.1 hy with rfl | hy
   ·exact ⟨_,hrd⟩
   ·exact g1 y hy
  ·simp only [List.map_cons,g2,rg_of hrd]
   rfl
theorem sortedKeys_of {P : Program} {ρk ρs : Ren} (Lk : SlLaysZI.n7 P ρk) (Ls : SlLaysZI.n6 P ρs) (hsort : ∀ m,AnyZI.SortsIn P ρs Fence.wide m) (e9 : ∀ args w,(callFunc (ρs.f 9) args).run P w = .ok (.enter (ρs.f 9) args) w) :
  SortedKeys P (ρs.f 6) (ρk.f 10) (ρs.t 26) := by
 have eg : ∀ args w,(callFunc (ρk.f 10) args).run P w = .ok (.enter (ρk.f 10) args) w := Lk.f10.enters rfl
 refine ⟨?_,fun Bm b es clock ks w hb hst hk hw hle hcell => ?_,fun Bm w hcell => ?_⟩
 ·obtain ⟨nm,h1,h2⟩ := Ls.f6
  exact ⟨_,_,h2,h1,rfl⟩
 ·obtain ⟨g1,g2⟩ := keys_perm (P := P) Lk.t26 hk hw
  have hlen : es.size = ks.length := by
   have := congrArg List.length hk
   simpa using this
  have hp : (intKeys (DataW.map ((es.toList.map (rg P (ρk.t 26) noRead)).foldr DataW.insert []))).Perm ks := by
   have := ((WideShapes.sorted_perm (es.toList.map (rg P (ρk.t 26) noRead))).map (fun p => intOf p.1))
   rw [g2] at this
   exact this
  have hsz : Maps.size (DataW.map ((es.toList.map (rg P (ρk.t 26) noRead)).foldr DataW.insert [])) = ks.length := by
   have := (WideShapes.sorted_perm (es.toList.map (rg P (ρk.t 26) noRead))).length_eq
   simpa [Maps.size,hlen] using this
  have hown : w.ownsMap P (ρk.t 26) noRead b es.size (DataW.map ((es.toList.map (rg P (ρk.t 26) noRead)).foldr DataW.insert [])) :=
   ⟨es,clock,hb,⟨by rw [hlen]; exact Nat.le_trans hle (by decide),hst,g1⟩,Nat.le_refl _,rfl⟩
  have hBm : Bm < w.heap.size := by
   cases hx : w.heap[Bm]? with
   | none => simp [World.cell?,hx] at hcell
   | some o => exact (Array.getElem?_eq_some_iff.1 hx).1
  have hseq := AnyZI.keys_gives (ρ := ρk) { Lk with } Fence.wide 2 trivial rfl (by omega) Bm b es.size _ w hBm hcell hown
  have cS := AnyZI.sorted_in Ls Fence.wide 5 trivial trivial trivial trivial rfl (by omega) (hsort _) e9 (ρk.f 10) #[.pointer (some ⟨Bm,0,none⟩)] trivial eg _ _ (by rw [hsz]; exact Nat.le_trans hle (by decide)) (by rw [hsz]; omega) w hseq
  refine ((callsIn_wide (n := 5)).1 cS).mono ?_
  rintro e w' ⟨v,ss,rfl,hS,hrow,hnil,hB⟩
  have hpp : ss.Perm ks := hS.trans hp
  rw [hpp.length_eq,mergeSort_of_perm_i hpp] at hrow
  refine ⟨v,rfl,hrow,?_,hB⟩
  rw [hnil]
  constructor
  ·intro h; subst h; exact List.Perm.nil_eq hpp |>.symm
  ·intro h; subst h; exact List.Perm.eq_nil hpp
 ·have hBm : Bm < w.heap.size := by
   cases hx : w.heap[Bm]? with
   | none => simp [World.cell?,hx] at hcell
   | some o => exact (Array.getElem?_eq_some_iff.1 hx).1
  have hseq := AnyZI.keys_gives_nil (ρ := ρk) { Lk with } Fence.wide 2 trivial rfl Bm w hBm hcell
  have cS := AnyZI.sorted_in Ls Fence.wide 5 trivial trivial trivial trivial rfl (by omega) (hsort _) e9 (ρk.f 10) #[.pointer (some ⟨Bm,0,none⟩)] trivial eg _ 0 (Nat.zero_le _) (by omega) w hseq
  refine ((callsIn_wide (n := 5)).1 cS).mono ?_
  rintro e w' ⟨v,ss,rfl,rfl,hrow,hnil,hB⟩
  obtain rfl := hnil.2 rfl
  exact ⟨rfl,hB⟩
end I
end Go.Proofs.YtohjpggjgomgoaaGreatDoor
namespace Go.Proofs.YtohjpggjgomgoaaGreatDoor
namespace K
set_option linter.unusedVariables false
def mkd (b : Nat) : Deferred := { target := .collected b,args := #[] }
def Q0M (P : Program) (fn : Func) (post : Ending → World → Prop) : Exit → Act → World → Prop
 | .normal,a,w | .ret,a,w => LeavesInM Fence.wide 0 P fn a.tmps (noOut post) a.defers .returning w
 | _,_,_ => False
def Cx.marks (P : Program) (fn : Func) (post : Ending → World → Prop) (w0 : World) (M : List Nat) (D : List Nat) : Cx where
 P := P
 fn := fn
 post := post
 w0 := w0
 M := M
 ro := none
 D := D.map mkd
 Q0 := Q0M P fn post
 po := fun c a w d v h => h.elim
 lo := fun ⟨a,w,h⟩ => h.elim
 rt := fun h a w v hd hr hp => by
  rw [h] at hd
  have hx : LeavesInM Fence.wide 0 P fn a.tmps (noOut post) a.defers .returning w := by
   rw [hd]
   exact ⟨v,hr,by simp,hp⟩
  exact ⟨hx,hx⟩
section
variable {C : Cx} {R O : List (Nat × Obj)} {Γ Γ' : Env} {ks ks' : List KI} {ops : Array Oper}
def rec0 (fi : FuncId) (T : Array Value) (ps : Array Tmp) (assign body : Code) (dr : Nat) (st : LoopState) (pe : Option Code) : Loop := { state := st,pending := pe,fn := fi,tmps := T,params := ps,assign := assign,body := body,defers := dr }
theorem Cfg.range {P : Program} {fn fn' : Func} {c' : Code} {post : Ending → World → Prop} {w0 : World} {M D : List Nat} {g : Operand} {ps : Array Tmp} {assign body : Code} (hk : K.nrm 99 ks = .inl (.rangeFunc g ps assign body) :: ks')
  {f : FuncId} {caps : Array Value} (hg : opd Γ [] g = some (.func (.func f) #[] caps)) (hf : P.funcs[f]? = some fn') (hnm : (fn'.name == "runtime.NumGoroutine") = false) (hb : fn'.body = some c')
  {ι : Type} (F : ι → Prop) (O' : ι → List (Nat × Obj)) (st : ι → LoopState) (pe : ι → Option Code) (hst : ∀ x,(st x == LoopState.busy) = false)
  (hcall : ∀ (fi : FuncId) (l dr : Nat) (T : Array Value) (w1 : World),St fn.ntmps [] Γ { tmps := T,defers := [] } → w0.heap.size ≤ l → w0.heap.size ≤ dr → HP w0 M R ((l,.loop (rec0 fi T ps assign body dr .ready none)) :: (dr,.deferred (some [])) :: O) w1 →
   Calls P f (#[.func (.yield l) #[] #[]] ++ caps) w1 fun e w2 => (∃ v,e = .returned v) ∧ ∃ x,F x ∧ HP w0 M R ((l,.loop (rec0 fi T ps assign body dr (st x) (pe x))) :: (dr,.deferred (some [])) :: O' x) w2)
  (next : ∀ dr x,F x → Cfg (Cx.marks P fn post w0 M (dr :: D)) R ((dr,.deferred (some [])) :: O' x) Γ (match pe x with | none => ks' | some c => .inl c :: ks')) :
  Cfg (Cx.marks P fn post w0 M D) R O Γ ks := by
 refine Cfg.nrm ?_
 rw [hk]
 intro a w hs hp
 have hgv : a.eval g = .func (.func f) #[] caps := opd_ok hs (holds_nil _) hg
 have hs' : St fn.ntmps [] Γ { tmps := a.tmps,defers := [] } := ⟨hs.size,rfl,hs.sl⟩
 refine wpIn_rangeFunc fun fi _ => ?_
 have hp1 := (hp.alloc (.deferred (some []))).alloc (.loop (rec0 fi a.tmps ps assign body w.heap.size .ready none))
 have hsz : (w.alloc (.deferred (some []))).heap.size = w.heap.size + 1 := World.size_alloc ..
 rw [hsz] at hp1
 have hw0 : w0.heap.size ≤ w.heap.size := hp.ext.size
 let W1 : World := (w.alloc (.deferred (some []))).alloc (.loop (rec0 fi a.tmps ps assign body w.heap.size .ready none))
 refine ⟨w.heap.size + 1,[mkd w.heap.size],W1,{ target := .fn (.func f) caps,args := #[.func (.yield (w.heap.size + 1)) #[] #[]] },W1,f,#[.func (.yield (w.heap.size + 1)) #[] #[]] ++ caps,W1,run_enterLoop_outer _ _ _ _ _,?_,fun _ _ => trivial,?_,fun h => (by cases h),?_⟩
 ·simp only [resolve,hgv]
  simp [go_sem]
 ·show (callFunc f (#[Value.func (.yield (w.heap.size + 1)) #[] #[]] ++ caps)).run P _ = _
  exact run_callFunc hf hnm hb
 ·refine (callsIn_fen (ro := none) (hcall fi (w.heap.size + 1) w.heap.size a.tmps _ hs' (by omega) hw0 hp1)).mono ?_
  rintro e w2 ⟨⟨v,rfl⟩,x,hx,hp2⟩
  have g1 : w2.heap[w.heap.size + 1]? = some (.loop (rec0 fi a.tmps ps assign body w.heap.size (st x) (pe x))) := hp2.own _ (List.mem_cons_self ..)
  have hgo : (getObj (w.heap.size + 1)).run P w2 = .ok (.loop (rec0 fi a.tmps ps assign body w.heap.size (st x) (pe x))) w2 := by simp [getObj,Sem.run,g1]
  have hso : ∀ o,(setObj (w.heap.size + 1) o).run P w2 = .ok () { w2 with heap := w2.heap.setIfInBounds (w.heap.size + 1) o } := fun o => by simp [setObj,Sem.run,g1]
  have hend : (Instr.endLoop (w.heap.size + 1)).run P w2 = .ok (pe x) { w2 with heap := w2.heap.setIfInBounds (w.heap.size + 1) (.loop { rec0 fi a.tmps ps assign body w.heap.size (st x) (pe x) with state := .exhausted }) } := by
   have hbz : ((rec0 fi a.tmps ps assign body w.heap.size (st x) (pe x)).state == LoopState.busy) = false := hst x
   simp only [Instr.endLoop,Instr.getLoop,Sem.run_bind,hgo,Result.andThen_ok,Sem.run_pure,hbz,Bool.false_eq_true,if_false,hso]
   rfl
  have hp3 := hp2.set 0 (.loop { rec0 fi a.tmps ps assign body w.heap.size (st x) (pe x) with state := .exhausted }) rfl (w' := { w2 with heap := w2.heap.setIfInBounds (w.heap.size + 1) (.loop { rec0 fi a.tmps ps assign body w.heap.size (st x) (pe x) with state := .exhausted }) }) rfl rfl rfl rfl
  have hp4 := hp3.sub (O' := (w.heap.size,.deferred (some [])) :: O' x) (List.sublist_cons_self ..)
  have hs4 : St fn.ntmps ((w.heap.size :: D).map mkd) Γ { a with defers := [mkd w.heap.size] ++ a.defers } := ⟨hs.size,by show [mkd w.heap.size] ++ a.defers = _; rw [hs.dfr]; rfl,hs.sl⟩
  have hn := next w.heap.size x hx _ _ hs4 hp4
  refine ⟨pe x,_,hend,?_⟩
  revert hn
  cases pe x with
  | none => exact fun hn => hn
  | some c => exact fun hn => hn
end
end K
end Go.Proofs.YtohjpggjgomgoaaGreatDoor
namespace Go.Proofs.YtohjpggjgomgoaaGreatDoor
namespace K
theorem run_extern {P : Program} {w w' : World} {f : Nat} {fn : Func} {args : Array Value} {e : Array Value → Sem Value} {v : Value} (hf : P.funcs[f]? = some fn) (hnm : (fn.name == "runtime.NumGoroutine") = false) (hb : fn.body.isNone = true)
  (h1 : (Extern.findNext fn).isNone = true) (h2 : Extern.find fn = some e) (hr : (e args).run P w = .ok v w') : (callFunc f args).run P w = .ok (.value v) w' := by
 have h1' : Extern.findNext fn = none := Option.isNone_iff_eq_none.1 h1
 unfold callFunc
 simp only [Sem.run_bind,program,Sem.run,Result.andThen_ok,hf,hnm,hb,Bool.false_eq_true,if_false,if_true,mark,h1',h2]
 rw [hr]
 rfl
theorem Eff.callE {C : Cx} {R O : List (Nat × Obj)} {Γ : Env} {o : Oper} {f : FuncId} {fn : Func} {xs : List Operand} {tys : Array TypeId} {vs : List Value} (v : Value) {e : Array Value → Sem Value} (ho : o.op = .call ⟨.value (.func f),xs.toArray,tys⟩) (hf : C.P.funcs[f]? = some fn)
  (hnm : (fn.name == "runtime.NumGoroutine") = false) (hb : fn.body.isNone = true) (h1 : (Extern.findNext fn).isNone = true) (h2 : Extern.find fn = some e) (hx : opds Γ xs = some vs)
  (h : ∀ w,HP C.w0 C.M R O w → (e vs.toArray).run C.P w = .ok v w) : Eff C R O Γ o Unit (fun _ => v) (fun _ => O) (fun _ => True) :=
 Eff.of_run fun a w hs hp => ⟨(),w,trivial,by
  have hargs := opds_ok hs hx
  have hc := run_extern hf hnm hb h1 h2 (h w hp)
  simp [execOp,ho,resolve,Deferred.ofValue,Act.eval,invoke,hargs,hc],hp⟩
end K
end Go.Proofs.YtohjpggjgomgoaaGreatDoor
namespace Go.Proofs.YtohjpggjgomgoaaGreatDoor
namespace K
section
variable {w0 w w' : World} {M : List Nat} {R O : List (Nat × Obj)}
theorem HP.ofL {A : List (Nat × Obj)} (hA : Has w A) (hd : (A.map (·.1)).Nodup) (hR : Has w R) (hn : ∀ e ∈ R,e.1 ∉ A.map (·.1)) : HP w (A.map (·.1)) R A w :=
 ⟨Ext.refl _ _,hR,fun e he => ⟨lt_of_get (hR e he),hn e he⟩,hA,hd,fun e he => .inr (List.mem_map.2 ⟨e,he,rfl⟩)⟩
theorem nodup_left {A T : List (Nat × Obj)} (h : ((A ++ T).map (·.1)).Nodup) : (A.map (·.1)).Nodup := by
 rw [List.map_append] at h; exact (List.nodup_append.1 h).1
theorem HP.swap {A A' T R' : List (Nat × Obj)} (h : HP w0 M R (A ++ T) w) (h' : HP w (A.map (·.1)) R' A' w') : HP w0 M R (A' ++ T) w' := by
 have hM0 : ∀ k ∈ A.map (·.1),k < w0.heap.size → k ∈ M := by
  intro k hk hlt
  obtain ⟨e,he,rfl⟩ := List.mem_map.1 hk
  rcases h.mine e (List.mem_append_left _ he) with h1 | h1
  ·omega
  ·exact h1
 have hnd := h.dist
 rw [List.map_append] at hnd
 have hdis : ∀ e ∈ T,e.1 ∉ A.map (·.1) := fun e he hm => (List.nodup_append.1 hnd).2.2 _ hm _ (List.mem_map.2 ⟨e,he,rfl⟩) rfl
 have hT : ∀ e ∈ T,w.heap[e.1]? = some e.2 := fun e he => h.own e (List.mem_append_right A he)
 refine ⟨h.ext.trans h'.ext hM0,fun e he => ?_,h.rod,fun e he => ?_,?_,fun e he => ?_⟩
 ·have hr := h.ro e he
  rw [h'.ext.block e.1 (lt_of_get hr) (fun hm => (h.rod e he).2 (hM0 _ hm (h.rod e he).1))]; exact hr
 ·rcases List.mem_append.1 he with he | he
  ·exact h'.own e he
  ·rw [h'.ext.block e.1 (lt_of_get (hT e he)) (hdis e he)]; exact hT e he
 ·rw [List.map_append]
  refine List.nodup_append.2 ⟨h'.dist,(List.nodup_append.1 hnd).2.1,?_⟩
  intro a ha b hb hab
  subst hab
  obtain ⟨e,he,rfl⟩ := List.mem_map.1 ha
  obtain ⟨e2,he2,hx⟩ := List.mem_map.1 hb
  rcases h'.mine e he with h1 | h1
  ·have := lt_of_get (hT e2 he2)
   have hx' : e2.1 = e.1 := hx
   omega
  ·exact hdis e2 he2 ((show e2.1 = e.1 from hx) ▸ h1)
 ·rcases List.mem_append.1 he with he | he
  ·rcases h'.mine e he with h1 | h1
   ·exact .inl (Nat.le_trans h.ext.size h1)
   ·obtain ⟨e2,he2,hx⟩ := List.mem_map.1 h1
    rw [← show e2.1 = e.1 from hx]; exact h.mine e2 (List.mem_append_left _ he2)
  ·exact h.mine e (List.mem_append_right _ he)
end
section
variable {C : Cx} {R O : List (Nat × Obj)} {Γ : Env} {op : Oper}
theorem Eff.callH {f : FuncId} {fn : Func} {c : Code} {xs : List Operand} {tys : Array TypeId} {vs : List Value} {ι : Type} (V : ι → Value) (A : List (Nat × Obj)) (A' : ι → List (Nat × Obj)) (F : ι → Prop) (Fl T : List (Nat × Obj)) (hO : O = Fl ++ (A ++ T))
  (ho : op.op = .call ⟨.value (.func f),xs.toArray,tys⟩) (hf : C.P.funcs[f]? = some fn) (hnm : (fn.name == "runtime.NumGoroutine") = false) (hb : fn.body = some c) (hx : opds Γ xs = some vs)
  (h : ∀ w,HP C.w0 C.M R O w → Has w A → (A.map (·.1)).Nodup → Calls C.P f vs.toArray w fun e w' => ∃ x,F x ∧ e = .returned (V x) ∧ ∃ R1,HP w (A.map (·.1)) R1 (A' x) w') :
  Eff C R O Γ op ι V (fun x => Fl ++ (A' x ++ T)) F :=
 Eff.call ho hf hnm hb hx fun w hp => by
  have hp1 : HP C.w0 C.M R (A ++ (Fl ++ T)) w := hp.perm (by rw [hO]; exact List.perm_append_comm_assoc _ _ _)
  refine (h w hp (fun e he => hp1.own e (List.mem_append_left _ he)) (nodup_left hp1.dist)).mono ?_
  rintro e w' ⟨x,hF,he,R1,hp'⟩
  exact ⟨x,hF,he,(hp1.swap hp').perm (List.perm_append_comm_assoc _ _ _)⟩
abbrev Bd := Value × Own
def bl (T E b : Nat) (l : List UInt8) (B : Bd) : List (Nat × Obj) := (b,.cells #[B.1,.slice B.2.a l.length B.2.c] T (0,0)) :: B.2.o E (bv l).toList
structure BdOk (b : Nat) (l : List UInt8) (B : Bd) : Prop where
 ptr : B.1 = .pointer none ∨ B.1 = .pointer (some ⟨b,0,none⟩)
 own : OwnOk B.2 1 l.length (bv l).toList
 pos : ∀ p,B.2 = some p → 0 < p.2.1
def bd0 : Bd := (.pointer none,none)
theorem bd0_ok (b : Nat) : BdOk b [] bd0 := ⟨.inl rfl,OwnOk.none 1,fun _ h => by cases h⟩
theorem bl_start {T E b : Nat} {l : List UInt8} {B : Bd} {w : World} {R : List (Nat × Obj)} (hh : Has w (bl T E b l B)) (hd : ((bl T E b l B).map (·.1)).Nodup) (hR : Has w R) (hn : ∀ e ∈ R,e.1 ∉ (bl T E b l B).map (·.1)) :
  HP w ((bl T E b l B).map (·.1)) R ([(b,.cells #[B.1,.slice (Own.a B.2) l.length (Own.c B.2)] T (0,0))] ++ (Own.o E (bv l).toList B.2 ++ [])) w := by
 rw [List.append_nil]
 exact HP.ofL hh hd hR hn
theorem bl_end {T E b : Nat} {l : List UInt8} {B : Bd} {w0 w : World} {M : List Nat} {R : List (Nat × Obj)} (h : HP w0 M R ([(b,.cells #[B.1,.slice (Own.a B.2) l.length (Own.c B.2)] T (0,0))] ++ (Own.o E (bv l).toList B.2 ++ [])) w) : HP w0 M R (bl T E b l B) w := by
 rw [List.append_nil] at h
 exact h
theorem Eff.allocB {t : TypeId} (E : Nat) (Fl T : List (Nat × Obj)) (hO : O = Fl ++ T) (ho : op.op = .alloc t) (hz0 : (C.P.info? t).bind (·.zero) = some (.agg #[.pointer none,.slice none 0 0])) :
  Eff C R O Γ op Nat (fun b => .pointer (some ⟨b,0,none⟩)) (fun b => Fl ++ (bl t E b [] bd0 ++ T)) (fun b => C.w0.heap.size ≤ b ∧ b ∉ O.map (·.1)) :=
 (Eff.alloc ho hz0).perm (List.Perm.refl _) (fun b => by rw [hO]; exact List.perm_middle.symm)
theorem bv_list (l : List UInt8) : (bv l).toList = l.map fun b => Value.int .u8 b.toNat := rfl
theorem bv_app (a b : List UInt8) : (bv a).toList ++ (bv b).toList = (bv (a ++ b)).toList := by simp [bv_list]
theorem bv_len (l : List UInt8) : (bv l).toList.length = l.length := by simp [bv_list]
theorem strCells_bv (s : ByteArray) : Lib.strCells s = (bv s.data.toList).toList := rfl
theorem ba_len (s : ByteArray) : s.data.toList.length = s.size := by simp
theorem Eff.appendS {t u e : TypeId} {x1 x2 : Operand} (ho : op.op = .call ⟨.builtin .append,#[x1,x2],#[t,u]⟩) (ht : C.P.underlying t = some (.slice e)) (hu : C.P.underlying u = some .string) (hsz : (C.P.info? e).map (fun i => (i.size,i.bytes)) = some (1,1))
  (hz0 : (C.P.info? e).bind (·.zero) = some (.int .u8 0)) (own : Own) {n : Nat} {xs : List Value} (hok : OwnOk own 1 n xs) (hpos : ∀ p,own = some p → 0 < p.2.1) (h1 : opd Γ [] x1 = some (.slice own.a n own.c)) {s : ByteArray} (h2 : opd Γ [] x2 = some (.string s))
  (Fl T : List (Nat × Obj)) (hO : O = Fl ++ (own.o e xs ++ T)) (hroom : n + s.size ≤ 140737488355328) :
  Eff C R O Γ op Own (fun o => .slice o.a (n + s.size) o.c) (fun o => Fl ++ (o.o e (xs ++ (bv s.data.toList).toList) ++ T)) (fun o => OwnOk o 1 (n + s.size) (xs ++ (bv s.data.toList).toList) ∧ ∀ p,o = some p → 0 < p.2.1) := by
 have hperm : O.Perm (own.o e xs ++ (Fl ++ T)) := by rw [hO]; exact List.perm_append_comm_assoc _ _ _
 refine Eff.perm (O2 := own.o e xs ++ (Fl ++ T)) (O2' := fun o => o.o e (xs ++ (bv s.data.toList).toList) ++ (Fl ++ T)) ?_ hperm (fun x => List.perm_append_comm_assoc _ _ _)
 refine Eff.of_run fun a w hs hp => ?_
 obtain ⟨inf,hi,hse⟩ := Option.map_eq_some_iff.1 hsz
 obtain ⟨inf',hi',hz⟩ := Option.bind_eq_some_iff.1 hz0
 rw [hi] at hi'
 simp only [Option.some.injEq] at hi'
 subst hi'
 simp only [Prod.mk.injEq] at hse
 obtain ⟨hs1,hb1⟩ := hse
 have hxl : xs.length = n := by simpa using hok.len
 have hnl : (bv s.data.toList).toList.length = s.size := by rw [bv_len]; exact ba_len s
 have hlen : (xs ++ (bv s.data.toList).toList).length = (n + s.size) * 1 := by rw [List.length_append,hnl,hxl]; omega
 have hex : ∀ {v : Value} {w' : World},(Builtin.append_ #[t,u] op.type #[a.eval x1,a.eval x2]).run C.P w = .ok v w' → (execOp a.eval op).run C.P w = .ok (.value v) w' := by
  intro v w' h
  simp [execOp,ho,resolve,invoke,builtin,h]
 have e1 := opd_ok hs (holds_nil _) h1
 have e2 := opd_ok hs (holds_nil _) h2
 have fresh : ∀ (c : Nat),n + s.size ≤ c → 0 < c → HP C.w0 C.M R (Fl ++ T) w → HP C.w0 C.M R (Own.o e (xs ++ (bv s.data.toList).toList) (some (w.heap.size,c,(Builtin.zeroCells (Value.int .u8 0).cells (c - (n + s.size))).toList)) ++ (Fl ++ T)) (w.drew.alloc (.cells (xs.toArray ++ (bv s.data.toList).toList.toArray ++ Builtin.zeroCells (Value.int .u8 0).cells (c - (n + s.size))) e)) ∧
   (OwnOk (some (w.heap.size,c,(Builtin.zeroCells (Value.int .u8 0).cells (c - (n + s.size))).toList)) 1 (n + s.size) (xs ++ (bv s.data.toList).toList) ∧ ∀ p : Nat × Nat × List Value,some (w.heap.size,c,(Builtin.zeroCells (Value.int .u8 0).cells (c - (n + s.size))).toList) = some p → 0 < p.2.1) := by
  intro c hc hc0 hp1
  have hp2 := (hp1.calm (ext_drew w)).alloc (.cells (xs.toArray ++ (bv s.data.toList).toList.toArray ++ Builtin.zeroCells (Value.int .u8 0).cells (c - (n + s.size))) e (0,0))
  refine ⟨?_,⟨hlen,fun h => (by cases h),fun p hp' => ?_⟩,fun p hp' => ?_⟩
  ·have e3 : (xs.toArray ++ (bv s.data.toList).toList.toArray ++ Builtin.zeroCells (Value.int .u8 0).cells (c - (n + s.size))) = (xs ++ (bv s.data.toList).toList ++ (Builtin.zeroCells (Value.int .u8 0).cells (c - (n + s.size))).toList).toArray := by
    apply Array.ext'
    simp
   rw [e3] at hp2 ⊢
   exact hp2
  ·simp only [Option.some.injEq] at hp'
   subst hp'
   refine ⟨?_,hc⟩
   have hz1 : (Value.int .u8 0).cells.size = 1 := rfl
   simp only [Array.length_toList,zeroCells_size,hlen,hz1]
   omega
  ·simp only [Option.some.injEq] at hp'
   subst hp'
   exact hc0
 cases own with
 | none =>
  have hn := hok.nil rfl
  subst hn
  have hx : xs = [] := List.eq_nil_of_length_eq_zero hxl
  subst hx
  by_cases hm : s.size = 0
  ·have hnn : (bv s.data.toList).toList = [] := List.eq_nil_of_length_eq_zero (by rw [hnl]; exact hm)
   refine ⟨none,w,⟨by rw [hm,hnn]; exact OwnOk.none 1,fun _ h => by cases h⟩,hex ?_,?_⟩
   ·rw [e1,e2]
    have hf := Lib.run_firstCells_string (P := C.P) w 1 s
    rw [hm] at hf
    simp [Builtin.append_,run_underlying' ht,run_underlying' hu,sizeOf,typeInfo,hi,hs1,Builtin.lenOf,hm,hf,Own.a,Own.c]
   ·exact hp
  ·obtain ⟨f1,f2⟩ := fresh (grownCap w s.size 0 e) (by have := grownCap_ge w s.size 0 e; omega) (by have := grownCap_ge w s.size 0 e; omega) hp
   refine ⟨some (w.heap.size,grownCap w s.size 0 e,_),_,f2,hex ?_,f1⟩
   rw [e1,e2]
   have hr := run_append_nil_string (P := C.P) w t u op.type e inf (.int .u8 0) ht hu hi hz s (by omega) (by omega) (by rw [hb1]; omega)
   have e3 : (s.data.map fun b => Value.int .u8 b.toNat) = (bv s.data.toList).toList.toArray := by
    apply Array.ext'
    simp [bv_list]
   rw [e3] at hr
   simp only [Own.a,Own.c,Nat.zero_add,Array.empty_append] at hr ⊢
   exact hr
 | some p =>
  obtain ⟨b,cap,junk⟩ := p
  obtain ⟨hj,hnc⟩ := hok.some _ rfl
  have hp0 := hpos _ rfl
  simp only at hj hnc hp0
  have hget : (Own.o e xs (some (b,cap,junk)) ++ (Fl ++ T))[0]? = some (b,.cells (xs ++ junk).toArray e (0,0)) := rfl
  have hb := hp.own _ (List.mem_of_getElem? hget)
  have hp1 : HP C.w0 C.M R (Fl ++ T) w := hp.sub (List.sublist_append_right _ _)
  by_cases hr : n + s.size ≤ cap
  ·have hfit : n + s.size ≤ (xs ++ junk).toArray.size := by
    simp only [List.size_toArray,List.length_append]; omega
   have hrun := Lib.run_append_room_string (P := C.P) w t u op.type e inf ht hu hi hs1 b n cap (xs ++ junk).toArray hb s hr hfit
   have e3 : ((xs ++ junk).toArray.toList.take n ++ Lib.strCells s ++ (xs ++ junk).toArray.toList.drop (n + s.size)) = xs ++ (bv s.data.toList).toList ++ junk.drop s.size := by
    rw [strCells_bv,← hxl]
    simp [List.drop_append,List.drop_eq_nil_of_le (show xs.length ≤ xs.length + s.size by omega)]
   rw [e3] at hrun
   refine ⟨some (b,cap,junk.drop s.size),_,⟨⟨hlen,fun h => (by cases h),fun p hp' => ?_⟩,fun p hp' => ?_⟩,hex (by rw [e1,e2]; exact hrun),?_⟩
   ·simp only [Option.some.injEq] at hp'
    subst hp'
    refine ⟨?_,hr⟩
    simp only [List.size_toArray,List.length_append] at hfit
    simp only [List.length_append,List.length_drop,hnl]
    omega
   ·simp only [Option.some.injEq] at hp'
    subst hp'
    exact hp0
   ·exact hp.set 0 (.cells (xs ++ (bv s.data.toList).toList ++ junk.drop s.size).toArray e (0,0)) hget (setRow_get hb) rfl rfl rfl
  ·obtain ⟨f1,f2⟩ := fresh (grownCap w (n + s.size) cap e) (grownCap_ge w (n + s.size) cap e) (by have := grownCap_ge w (n + s.size) cap e; omega) hp1
   have holds : ∀ j v,xs[j]? = some v → w.cell? (Addr.add ⟨b,0,none⟩ j) = some v := fun j v hjv => by
    rw [add_none,Nat.zero_add,cell_cells hb]
    have hlt : j < xs.length := (List.getElem?_eq_some_iff.1 hjv).1
    simp [List.getElem?_append_left hlt,hjv]
   have hrun := Lib.run_append_grow_string (P := C.P) w t u op.type e inf (.int .u8 0) ht hu hi hz ⟨b,0,none⟩ n cap xs (by rw [hs1]; simpa using hxl) holds s (by omega) (by omega) (by rw [hb1]; exact growslice_fits (by omega) (by omega))
   exact ⟨some (w.heap.size,grownCap w (n + s.size) cap e,_),_,f2,hex (by rw [e1,e2]; exact hrun),f1⟩
theorem Eff.appendP {t e : TypeId} {x1 x2 : Operand} (ho : op.op = .call ⟨.builtin .append,#[x1,x2],#[t,t]⟩) (ht : C.P.underlying t = some (.slice e)) (hsz : (C.P.info? e).map (fun i => (i.size,i.bytes)) = some (1,1))
  {z : Value} (hz0 : (C.P.info? e).bind (·.zero) = some z) (hzs : z.cells.size = 1) (own : Own) {n : Nat} {xs : List Value} (hok : OwnOk own 1 n xs) (h1 : opd Γ [] x1 = some (.slice own.a n own.c))
  {b2 off2 m c2 : Nat} (h2 : opd Γ [] x2 = some (.slice (some ⟨b2,off2,none⟩) m c2)) (news : List Value) (hl : news.length = m * 1) (hone : ∀ v ∈ news,one v = true) (Fl T : List (Nat × Obj)) (hO : O = Fl ++ (own.o e xs ++ T))
  (hsrc : ∀ w,HP C.w0 C.M R O w → ∀ j v,news[j]? = some v → w.cell? ⟨b2,off2 + j,none⟩ = some v) (hroom : (n + m) * 1 ≤ 140737488355328) (h63 : n + m ≤ 9223372036854775807) (h0 : 0 < n + m) :
  Eff C R O Γ op Own (fun o => .slice o.a (n + m) o.c) (fun o => Fl ++ (o.o e (xs ++ news) ++ T)) (fun o => OwnOk o 1 (n + m) (xs ++ news) ∧ ∀ p,o = some p → 0 < p.2.1) :=
 fun a w hs hp Kt Q hK => Eff.appendF ho 1 1 ht hsz hz0 hzs own hok h1 h2 news hl hone Fl T hO hsrc hroom h63 a w hs hp Kt Q (fun x w' hF hp' => hK x w' ⟨hF,fun p hpx => Nat.lt_of_lt_of_le h0 (hF.some p hpx).2⟩ hp')
theorem Eff.sliceData {t : TypeId} {x : Operand} (ho : op.op = .call ⟨.builtin .unsafeSliceData,#[x],#[t]⟩) (own : Own) (hpos : ∀ p,own = some p → 0 < p.2.1) {n : Nat} (hx : opd Γ [] x = some (.slice own.a n own.c)) :
  Eff C R O Γ op Unit (fun _ => .pointer own.a) (fun _ => O) (fun _ => True) := by
 refine Eff.of_run fun a w hs hp => ⟨(),w,trivial,?_,hp⟩
 have e1 := opd_ok hs (holds_nil _) hx
 have hrun : (Builtin.unsafeSliceData_ #[t] op.type #[.slice own.a n own.c]).run C.P w = .ok (.pointer own.a) w := by
  cases own with
  | none => rfl
  | some p =>
   have hp0 := hpos p rfl
   obtain ⟨b,cap,junk⟩ := p
   have hc : ¬ cap = 0 := by simp only at hp0; omega
   simp only [Own.a,Own.c]
   refine Eq.trans (b := Sem.run C.P (if cap ≠ 0 then pure (.pointer (some ⟨b,0,none⟩)) else _) w) rfl ?_
   rw [if_pos hc]; rfl
 simp [execOp,ho,resolve,invoke,builtin,e1,hrun]
theorem liesAt_off {P : Program} {e : TypeId} (hc : P.cellsOf e = 1) (count off n : Nat) (hn : off + n ≤ count) : liesAt P P.depth e count off e n = true := by
 have hd : P.depth = (2 * (P.types.size + Made.depth) + 1) + 1 := rfl
 rw [hd]
 simp only [liesAt,Bool.or_eq_true]
 left
 rw [hd]
 simp [rowAt,hc,hn,sameLayout,Nat.mod_one]
theorem run_unsafeString {P : Program} {w : World} {pt it ty e : TypeId} (hp : P.underlying pt = some (.pointer e)) (hc : P.cellsOf e = 1) {g off cells : Nat} (hsh : w.shape? g = some (e,cells)) {l : List UInt8} (h0 : l ≠ []) (hn : off + l.length ≤ cells) (h63 : l.length ≤ 9223372036854775807)
  (hcell : ∀ j x,l[j]? = some x → w.cell? ((⟨g,off,none⟩ : Addr).add j) = some (.int .u8 x.toNat)) :
  (Builtin.unsafeString_ #[pt,it] ty #[.pointer (some ⟨g,off,none⟩),.int .i64 l.length]).run P w = .ok (.string ⟨l.toArray⟩) (w.freeze ⟨g,off,none⟩ l.length) := by
 have hl : l.length ≠ 0 := by simpa using h0
 have hlb := Lib.run_loadBytes (P := P) w l ⟨g,off,none⟩ .empty hcell
 have hlies := liesAt_off (P := P) hc (cells / P.cellsOf e) off l.length (by rw [hc]; simpa using hn)
 have h63' : ¬ (9223372036854775807 : Int) < (l.length : Int) := by omega
 refine Eq.trans (b := Sem.run P (Bind.bind (asInt (.int .i64 l.length)) _) w) rfl ?_
 have hmax : IntKind.i64.max = 9223372036854775807 := rfl
 have hneg : ¬ (l.length : Int) < 0 := by omega
 simp [asInt,asIntOf,hmax,h63',hneg,hl,variablesAt,hsh,elemOf,run_underlying' hp,hlies,hlb]
theorem ext_freeze (w : World) (b off n : Nat) : Ext [b] w (w.freeze ⟨b,off,none⟩ n) := by
 unfold World.freeze
 split
 ·exact Ext.refl _ _
 ·refine ⟨rfl,rfl,rfl,by simp,fun k hk hn => ?_⟩
  have : b ≠ k := fun e => hn (by simp [e])
  simp [Array.getElem?_modify,this]
theorem Eff.unsafeStr {pt it e : TypeId} {x y : Operand} (ho : op.op = .call ⟨.builtin .unsafeString,#[x,y],#[pt,it]⟩) (hpt : C.P.underlying pt = some (.pointer e)) (hc : C.P.cellsOf e = 1) (own : Own) {l : List UInt8} (hok : OwnOk own 1 l.length (bv l).toList)
  (hx : opd Γ [] x = some (.pointer own.a)) (hy : opd Γ [] y = some (.int .i64 l.length)) (Fl T : List (Nat × Obj)) (hO : O = Fl ++ (own.o e (bv l).toList ++ T)) (h63 : l.length ≤ 9223372036854775807) :
  Eff C R O Γ op Unit (fun _ => .string ⟨l.toArray⟩) (fun _ => Fl ++ T) (fun _ => True) := by
 refine Eff.of_run fun a w hs hp => ?_
 have e1 := opd_ok hs (holds_nil _) hx
 have e2 := opd_ok hs (holds_nil _) hy
 have hex : ∀ {v : Value} {w' : World},(Builtin.unsafeString_ #[pt,it] op.type #[a.eval x,a.eval y]).run C.P w = .ok v w' → (execOp a.eval op).run C.P w = .ok (.value v) w' := by
  intro v w' h
  simp [execOp,ho,resolve,invoke,builtin,h]
 have hperm : O.Perm (own.o e (bv l).toList ++ (Fl ++ T)) := by rw [hO]; exact List.perm_append_comm_assoc _ _ _
 have hp1 := hp.perm hperm
 have hsub : HP C.w0 C.M R (Fl ++ T) w := hp1.sub (List.sublist_append_right _ _)
 by_cases h0 : l = []
 ·subst h0
  exact ⟨(),w,trivial,hex (by rw [e1,e2]; exact Lib.run_unsafeString_none w pt it op.type own.a),hsub⟩
 ·obtain ⟨p,rfl⟩ := own_some hok (List.length_pos_iff.2 h0)
  obtain ⟨b,cap,junk⟩ := p
  have hb := hp1.own (b,.cells ((bv l).toList ++ junk).toArray e (0,0)) (List.mem_cons_self ..)
  simp only at hb
  have hsh : w.shape? b = some (e,((bv l).toList ++ junk).length) := by simp [World.shape?,hb]
  have hcell : ∀ j x,l[j]? = some x → w.cell? ((⟨b,0,none⟩ : Addr).add j) = some (.int .u8 x.toNat) := fun j x hj => by
   rw [add_none,Nat.zero_add,cell_cells hb]
   have hlt : j < l.length := (List.getElem?_eq_some_iff.1 hj).1
   simp [bv_list,List.getElem?_append_left (show j < (l.map fun b => Value.int .u8 b.toNat).length by simpa using hlt),hj]
  have hrun := run_unsafeString (P := C.P) (w := w) (it := it) (ty := op.type) hpt hc hsh h0 (off := 0) (by rw [List.length_append,bv_len]; omega) h63 hcell
  refine ⟨(),_,trivial,hex (by rw [e1,e2]; exact hrun),?_⟩
  refine hp1.call (ext_freeze w b 0 l.length) (Fl ++ T) (List.sublist_append_right _ _) (fun k hk => ?_) (fun x hx hm => ?_)
  ·simp only [List.mem_cons,List.not_mem_nil,or_false] at hk
   subst hk
   exact List.mem_map.2 ⟨_,List.mem_append_left _ (List.mem_cons_self ..),rfl⟩
  ·simp only [List.mem_cons,List.not_mem_nil,or_false] at hm
   have hd := hp1.dist
   rw [List.map_append] at hd
   exact (List.nodup_append.1 hd).2.2 b (by simp [Own.o]) x.1 (List.mem_map.2 ⟨x,hx,rfl⟩) hm.symm
theorem Eff.conv {src dst : TypeId} {x : Operand} {u : Value} (v : Value) (ho : op.op = .convert src dst x) (hx : opd Γ [] x = some u) (h : ∀ w,HP C.w0 C.M R O w → (convert src dst u).run C.P w = .ok v w) : Eff C R O Γ op Unit (fun _ => v) (fun _ => O) (fun _ => True) :=
 Eff.of_run fun a w hs hp => ⟨(),w,trivial,by simp [execOp,ho,opd_ok hs (holds_nil _) hx,h w hp],hp⟩
theorem Eff.neqSame {ty ty' e : TypeId} {x y : Operand} {p : Addr} (ho : op.op = .binOp .neq ty x y ty') (hx : opd Γ [] x = some (.pointer (some p))) (hy : opd Γ [] y = some (.pointer (some p))) (hu : C.P.underlying ty = some (.pointer e)) (hi : (C.P.info? e).isSome = true) :
  Eff C R O Γ op Unit (fun _ => .bool false) (fun _ => O) (fun _ => True) :=
 Eff.of_run fun a w hs hp => ⟨(),w,trivial,by
  obtain ⟨j,hj⟩ := Option.isSome_iff_exists.1 hi
  have hr := Lib.run_neq_ptr_same (P := C.P) w p hu hj
  have e1 := opd_ok hs (holds_nil _) hx
  have e2 := opd_ok hs (holds_nil _) hy
  simp [execOp,ho,e1,e2,hr,eqGuard],hp⟩
theorem shape_of {w : World} {b : Nat} {cs : Array Value} {t : TypeId} {fr : Nat × Nat} (h : w.heap[b]? = some (.cells cs t fr)) : w.shape? b = some (t,cs.size) := by simp [World.shape?,h]
theorem toUnsafe {P : Program} {w : World} {src dst t : TypeId} {b : Nat} {cs : Array Value} {fr : Nat × Nat} (hs : P.underlying src = some (.pointer t)) (hd : P.underlying dst = some .unsafePointer) (ht : (P.info? t).map (·.size) = some 2) (hb : w.heap[b]? = some (.cells cs t fr)) (h2 : cs.size = 2) :
  (convert src dst (.pointer (some ⟨b,0,none⟩))).run P w = .ok (.pointer (some ⟨b,0,none⟩)) w := by
 obtain ⟨j,hj,hj2⟩ := Option.map_eq_some_iff.1 ht
 exact Lib.run_to_unsafe w ⟨b,0,none⟩ hs hd hj (by rw [hj2]; decide) (shape_of hb) (by show 0 < cs.size; omega)
theorem fromUnsafe {P : Program} {w : World} {src dst t : TypeId} {b : Nat} {cs : Array Value} {fr : Nat × Nat} (hs : P.underlying src = some .unsafePointer) (hd : P.underlying dst = some (.pointer t)) (ht : (P.info? t).map (·.size) = some 2) (hl : liesAt P P.depth t (2 / P.cellsOf t) 0 t 1 = true) (hb : w.heap[b]? = some (.cells cs t fr)) (h2 : cs.size = 2) :
  (convert src dst (.pointer (some ⟨b,0,none⟩))).run P w = .ok (.pointer (some ⟨b,0,none⟩)) w := by
 obtain ⟨j,hj,hj2⟩ := Option.map_eq_some_iff.1 ht
 exact Lib.run_from_unsafe w ⟨b,0,none⟩ hs hd hj (shape_of hb) (by rw [h2]; exact hl)
end
end K
end Go.Proofs.YtohjpggjgomgoaaGreatDoor
namespace Go.Proofs.YtohjpggjgomgoaaGreatDoor
namespace K
set_option linter.unusedVariables false
def Q0R (Z : Exit → World → Prop) : Exit → Act → World → Prop
 | .normal,_,w => Z .normal w
 | .ret,_,w => Z .ret w
 | .exit id,_,w => Z (.exit id) w
 | _,_,_ => False
def Cx.rnd (P : Program) (fn : Func) (l : Nat) (w0 : World) (M : List Nat) (Z : Exit → World → Prop) : Cx where
 P := P
 fn := fn
 post := fun _ _ => False
 w0 := w0
 M := M
 ro := some l
 D := []
 Q0 := Q0R Z
 po := fun c a w d v h => h.elim
 lo := fun ⟨a,w,h⟩ => h.elim
 rt := fun _ a w v _ _ h => h.elim
section
variable {P : Program} {fn : Func} {l : Nat} {w0 : World} {M : List Nat} {Z : Exit → World → Prop} {R O : List (Nat × Obj)} {Γ Γ' : Env} {ks ks' : List KI} {ops : Array Oper}
end
section
variable {C : Cx} {R O : List (Nat × Obj)} {Γ : Env} {ks : List KI} {ops : Array Oper}
def EffI (C : Cx) (R O : List (Nat × Obj)) (Γ : Env) (o : Oper) (ι : Type) (V : ι → Value) (O' : ι → List (Nat × Obj)) (F : ι → Prop) : Prop :=
 ∀ a w,St C.fn.ntmps C.D Γ a → HP C.w0 C.M R O w → ∀ (Kt : Act → World → Prop) (Q : Exit → Act → World → Prop),
  (∀ x w',F x → HP C.w0 C.M R (O' x) w' → Kt (a.put o.dst (V x)) w') → o.wpIn (fen C.ro) 0 C.P a w Kt Q
theorem EffI.yield {o : Oper} {g : Operand} {xs : List Operand} {tys : Array TypeId} {vs : List Value} {l : Nat} {fi : FuncId} {T : Array Value} {ps : Array Tmp} {assign body : Code} {dr : Nat} {st : LoopState} {pe : Option Code}
  {ι : Type} (V : ι → Value) (A : List (Nat × Obj)) (A' : ι → List (Nat × Obj)) (F : ι → Prop) (Fl Tl : List (Nat × Obj)) (hO : O = Fl ++ (A ++ Tl)) (ho : o.op = .call ⟨.value g,xs.toArray,tys⟩)
  (hgv : opd Γ [] g = some (.func (.yield l) #[] #[])) (hx : opds Γ xs = some vs) (hps : vs.length = ps.size) (hl : (l,Obj.loop (rec0 fi T ps assign body dr st pe)) ∈ A)
  (h : ∀ w,Has w A → (A.map (·.1)).Nodup → RoundIn Fence.wide 0 C.P l fi ((ps.zip vs.toArray).foldl (fun tmps (t,a) => tmps.setIfInBounds t a) T) assign body w fun e w' => ∃ x,F x ∧ e = .returned (V x) ∧ ∃ R1,HP w (A.map (·.1)) R1 (A' x) w') :
  EffI C R O Γ o ι V (fun x => Fl ++ (A' x ++ Tl)) F := by
 intro a w hs hp Kt Q hK
 have hp1 : HP C.w0 C.M R (A ++ (Fl ++ Tl)) w := hp.perm (by rw [hO]; exact List.perm_append_comm_assoc _ _ _)
 have hargs := opds_ok hs hx
 have hgv' : a.eval g = .func (.yield l) #[] #[] := opd_ok hs (holds_nil _) hgv
 have hlw : w.heap[l]? = some (.loop (rec0 fi T ps assign body dr st pe)) := hp1.own _ (List.mem_append_left _ hl)
 have hy := run_yield (P := C.P) (args := vs.toArray) hlw (by rw [List.size_toArray]; exact hps)
 have hrun : (execOp a.eval o).run C.P w = .ok (.round l fi ((ps.zip vs.toArray).foldl (fun tmps (t,a) => tmps.setIfInBounds t a) T) assign body) w := by
  have e : #[] ++ (xs.toArray.map a.eval) = vs.toArray := by
   rw [← hargs]; simp
  simp only [execOp,ho,resolve,hgv',Deferred.ofValue,Sem.run_bind,Sem.run_pure,Result.andThen_ok,invoke]
  rw [e]
  exact hy
 refine ⟨fun _ _ => trivial,?_⟩
 rw [semAt_run hrun (fun d hd => by cases hd),Oper.uponIn_round]
 refine ⟨fun h => (by cases h),?_⟩
 have h1 := (h w (fun e he => hp1.own e (List.mem_append_left _ he)) (nodup_left hp1.dist))
 have h2 : RoundIn (fen C.ro) 0 C.P l fi ((ps.zip vs.toArray).foldl (fun tmps (t,a) => tmps.setIfInBounds t a) T) assign body w _ := h1
 refine h2.mono ?_
 rintro e w' ⟨x,hF,rfl,R1,hp'⟩
 exact hK x _ hF ((hp1.swap hp').perm (List.perm_append_comm_assoc _ _ _))
end
end K
end Go.Proofs.YtohjpggjgomgoaaGreatDoor
namespace Go.Proofs.YtohjpggjgomgoaaGreatDoor
namespace K
set_option linter.unusedVariables false
def vis {α : Type} (p : α → Bool) : List α → List α
 | [] => []
 | x :: l => x :: (if p x then vis p l else [])
section
variable {w0 w w' : World} {M : List Nat} {R O : List (Nat × Obj)}
end
def IterSpec {α : Type} (P : Program) (f : FuncId) (caps : Array Value) (Need : List (Nat × Obj)) (items : List α) (val : α → Value) : Prop :=
 ∀ (l dr : Nat) (fi : FuncId) (T : Array Value) (ps : Array Tmp) (assign body : Code) (σ : Type) (A : σ → List (Nat × Obj)) (J : List α → σ → Prop) (s0 : σ) (p : α → Bool) (w : World),ps.size = 1 → J [] s0 → Has w (A s0) → ((A s0).map (·.1)).Nodup →
  (∀ pre x,(∀ y ∈ pre,p y = true) → J pre x → (∀ e ∈ Need,e ∈ A x) ∧ (l,Obj.loop (rec0 fi T ps assign body dr .ready none)) ∈ A x) →
  (∀ pre x a rest,(∀ y ∈ pre,p y = true) → J pre x → items = pre ++ a :: rest → ∀ w,Has w (A x) → ((A x).map (·.1)).Nodup →
   RoundIn Fence.wide 0 P l fi ((ps.zip #[val a]).foldl (fun tmps (t,a) => tmps.setIfInBounds t a) T) assign body w fun e w' => ∃ y,J (pre ++ [a]) y ∧ e = .returned (.bool (p a)) ∧ ∃ R1,HP w ((A x).map (·.1)) R1 (A y) w') →
  Calls P f (#[.func (.yield l) #[] #[]] ++ caps) w fun e w' => ∃ y,J (vis p items) y ∧ e = .returned (.tuple #[]) ∧ ∃ R1,HP w ((A s0).map (·.1)) R1 (A y) w'
theorem IterSpec.none {α : Type} {P : Program} {f : FuncId} {caps : Array Value} {Need : List (Nat × Obj)} {val : α → Value} (h : ∀ (l : Nat) (w : World),Has w Need → Calls P f (#[.func (.yield l) #[] #[]] ++ caps) w fun e w' => e = .returned (.tuple #[]) ∧ Ext [] w w') :
  IterSpec P f caps Need ([] : List α) val := by
 intro l dr fi T ps assign body σ A J s0 p w _ hJ hA hd hm _
 refine (h l w (fun e he => hA e ((hm [] s0 (fun y hy => by cases hy) hJ).1 e he))).mono ?_
 rintro e w' ⟨rfl,hx⟩
 exact ⟨s0,hJ,rfl,[],(HP.ofL hA hd (fun e he => by cases he) (fun e he => by cases he)).calm hx⟩
section
variable {P : Program} {fn : Func} {post : Ending → World → Prop} {w0 : World} {M D : List Nat} {R O : List (Nat × Obj)} {Γ : Env} {ks ks' : List KI}
end
section
variable {P : Program} {fn : Func} {post : Ending → World → Prop} {w0 : World} {M D : List Nat} {R O : List (Nat × Obj)} {Γ : Env} {ks ks' : List KI}
end
theorem Cfg.permO {C : Cx} {R O O' : List (Nat × Obj)} {Γ : Env} {ks : List KI} (h : O.Perm O') (hc : Cfg C R O' Γ ks) : Cfg C R O Γ ks := fun a w hs hp => hc a w hs (hp.perm h)
end K
end Go.Proofs.YtohjpggjgomgoaaGreatDoor
namespace Go.Proofs.YtohjpggjgomgoaaGreatDoor
namespace K
theorem spl_at {L A B T vs : List Value} {off : Nat} (hL : L = A ++ B ++ T) (hA : A.length = off) (hB : vs.length = B.length) : spl L.toArray off vs = (A ++ vs ++ T).toArray := by
 subst hL; subst hA
 exact spl_list A B T vs hB
section
variable {C : Cx} {R O : List (Nat × Obj)} {Γ : Env} {op : Oper}
end
theorem load_list {P : Program} {w : World} {b off n : Nat} {ty : TypeId} {d : TypeDesc} {vs : List Value} (hu : P.underlying ty = some d) (hd : (match d with | .struct _ | .array _ _ => true | _ => false) = true) (hi : (P.info? ty).map (·.size) = some n) (hl : vs.length = n)
  (h : ∀ j v,vs[j]? = some v → w.cell? ⟨b,off + j,none⟩ = some v) : (loadVar ty ⟨b,off,none⟩).run P w = .ok (.agg vs.toArray) w := by
 obtain ⟨inf,hinf,hs⟩ := Option.map_eq_some_iff.1 hi
 have h1 := run_loadCells_list (P := P) w ⟨b,off,none⟩ vs (fun j v hj => by rw [add_none]; exact h j v hj)
 rw [hl] at h1
 have h3 : (isAgg ty).run P w = .ok true w := by
  simp only [isAgg,Sem.run_bind,run_underlying' hu,Result.andThen_ok]
  cases d <;> simp_all
 have h4 : (sizeOf ty).run P w = .ok n w := by rw [run_sizeOf' hinf,hs]
 simp [loadVar,h3,h4,h1]
theorem Eff.callTwo {C : Cx} {R O : List (Nat × Obj)} {Γ : Env} {op : Oper} {f : FuncId} {fn : Func} {c : Code} {xs : List Operand} {tys : Array TypeId} {vs : List Value} {ι : Type} (V : ι → Value) (A1 A2 : ι → List (Nat × Obj)) (F : ι → Prop) (Fl T : List (Nat × Obj)) (hO : O = Fl ++ T)
  (ho : op.op = .call ⟨.value (.func f),xs.toArray,tys⟩) (hf : C.P.funcs[f]? = some fn) (hnm : (fn.name == "runtime.NumGoroutine") = false) (hb : fn.body = some c) (hx : opds Γ xs = some vs)
  (h : ∀ w,HP C.w0 C.M R O w → Calls C.P f vs.toArray w fun e w' => ∃ x,F x ∧ e = .returned (V x) ∧ ∃ R1,HP w [] R1 (A1 x ++ (A2 x ++ [])) w') :
  Eff C R O Γ op ι V (fun x => Fl ++ (A1 x ++ (A2 x ++ T))) F := by
 have h1 := Eff.callH (op := op) V [] (fun x => A1 x ++ (A2 x ++ [])) F Fl T hO ho hf hnm hb hx (fun w hp _ _ => h w hp)
 have e : (fun x => Fl ++ (A1 x ++ (A2 x ++ T))) = fun x => Fl ++ ((A1 x ++ (A2 x ++ [])) ++ T) := by
  funext x; rw [List.append_nil,List.append_assoc]
 rw [e]; exact h1
end K
end Go.Proofs.YtohjpggjgomgoaaGreatDoor
namespace Go.Proofs.YtohjpggjgomgoaaGreatDoor
namespace K
open Go.MapKept
structure MapOk (es : Array MapEntry) (ck : Nat) (W : List (Int × Value)) : Prop where
 rel : es.toList.map (fun e => (e.key,e.val)) = W.map fun p => (Value.int .i64 p.1,p.2)
 st : Stamped es ck
section
variable {P : Program} {w : World}
end
section
variable {C : Cx} {R O : List (Nat × Obj)} {Γ : Env} {op : Oper}
theorem MapOk.empty (ck : Nat) : MapOk #[] ck [] := ⟨rfl,stamped_empty ck⟩
end
end K
end Go.Proofs.YtohjpggjgomgoaaGreatDoor
namespace Go.Proofs.YtohjpggjgomgoaaGreatDoor
namespace K
open Go.RowKit Go.Maps Go.Sort Go.Shelf Go.WideElems
set_option linter.unusedVariables false
structure SortedKeys (P : Program) (fS fK ety : Nat) : Prop where
 has : ∃ fn c,P.funcs[fS]? = some fn ∧ (fn.name == "runtime.NumGoroutine") = false ∧ fn.body = some c
 some : ∀ (Bm b : Nat) (es : Array MapEntry) (clock : Nat) (ks : List Int) (w : World),w.heap[b]? = .some (.map es clock) → Go.MapKept.Stamped es clock → es.toList.map (·.key) = ks.map encZ →
  (∀ x ∈ ks,(Lit.int .i64 x).wf = true) → ks.length ≤ 1000000 → w.cell? ⟨Bm,0,none⟩ = .some (.map (.some b)) →
  Calls P fS #[.func (.func fK) #[] #[.pointer (.some ⟨Bm,0,none⟩)]] w fun e w' => ∃ v,e = .returned v ∧ w'.ownsRow w.heap.size ety 1 v ks.length ((ks.mergeSort leI).map encZ) ∧ (v = .slice none 0 0 ↔ ks = []) ∧ Go.RowKit.Below w.heap.size w w'
 none : ∀ (Bm : Nat) (w : World),w.cell? ⟨Bm,0,none⟩ = .some (.map none) →
  Calls P fS #[.func (.func fK) #[] #[.pointer (.some ⟨Bm,0,none⟩)]] w fun e w' => e = .returned (.slice none 0 0) ∧ Go.RowKit.Below w.heap.size w w'
def noRead (_ : Value) : Option (DataW Unit × List MemPlace) := some (.nil,[])
theorem keyOf_int {P : Program} {k : TypeId} {x : Int} (hk : P.underlying k = some (.int .i64)) (hw : (Lit.int .i64 x).wf = true) : keyOf P k (encZ x) = some (.int .i64 x) := by
 simp [keyOf,hk,mapKey,hw]
theorem keys_perm {P : Program} {k : TypeId} (hk : P.underlying k = some (.int .i64)) : ∀ {es : List MapEntry} {ks : List Int},es.map (·.key) = ks.map encZ → (∀ x ∈ ks,(Lit.int .i64 x).wf = true) →
  (∀ x ∈ es,∃ y,rd P k noRead x = some y) ∧ (es.map (rg P k noRead)).map (fun p => intOf p.1) = ks
 | [],[],_,_ => ⟨fun x hx => (by cases hx),rfl⟩
 | [],_ :: _,h,_ => by simp at h
 | _ :: _,[],h,_ => by simp at h
 | e :: es,x :: ks,h,hw => by
  simp only [List.map_cons,List.cons.injEq] at h
  obtain ⟨h1,h2⟩ := h
  obtain ⟨g1,g2⟩ := keys_perm hk h2 (fun y hy => hw y (List.mem_cons_of_mem _ hy))
  have hrd : rd P k noRead e = some (.int .i64 x,.nil) := by
   have := keyOf_int hk (hw x (List.mem_cons_self ..))
   simp [rd,h1,this,noRead]
  refine ⟨fun y hy => ?_,?_⟩
  ·rcases List.mem_cons.1 hy with rfl | hy
   ·exact ⟨_,hrd⟩
   ·exact g1 y hy
  ·simp only [List.map_cons,g2,rg_of hrd]
   rfl
theorem sortedKeys_of {P : Program} {ρk ρs : Ren} (Lk : SlLaysZI.n7 P ρk) (Ls : SlLaysZI.n6 P ρs) (hsort : ∀ m,AnyZI.SortsIn P ρs Fence.wide m) (e9 : ∀ args w,(callFunc (ρs.f 9) args).run P w = .ok (.enter (ρs.f 9) args) w) :
  SortedKeys P (ρs.f 6) (ρk.f 10) (ρs.t 26) := by
 have eg : ∀ args w,(callFunc (ρk.f 10) args).run P w = .ok (.enter (ρk.f 10) args) w := Lk.f10.enters rfl
 refine ⟨?_,fun Bm b es clock ks w hb hst hk hw hle hcell => ?_,fun Bm w hcell => ?_⟩
 ·obtain ⟨nm,h1,h2⟩ := Ls.f6
  exact ⟨_,_,h2,h1,rfl⟩
 ·obtain ⟨g1,g2⟩ := keys_perm (P := P) Lk.t26 hk hw
  have hlen : es.size = ks.length := by
   have := congrArg List.length hk
   simpa using this
  have hp : (intKeys (DataW.map ((es.toList.map (rg P (ρk.t 26) noRead)).foldr DataW.insert []))).Perm ks := by
   have := ((WideShapes.sorted_perm (es.toList.map (rg P (ρk.t 26) noRead))).map (fun p => intOf p.1))
   rw [g2] at this
   exact this
  have hsz : Maps.size (DataW.map ((es.toList.map (rg P (ρk.t 26) noRead)).foldr DataW.insert [])) = ks.length := by
   have := (WideShapes.sorted_perm (es.toList.map (rg P (ρk.t 26) noRead))).length_eq
   simpa [Maps.size,hlen] using this
  have hown : w.ownsMap P (ρk.t 26) noRead b es.size (DataW.map ((es.toList.map (rg P (ρk.t 26) noRead)).foldr DataW.insert [])) :=
   ⟨es,clock,hb,⟨by rw [hlen]; exact Nat.le_trans hle (by decide),hst,g1⟩,Nat.le_refl _,rfl⟩
  have hBm : Bm < w.heap.size := by
   cases hx : w.heap[Bm]? with
   | none => simp [World.cell?,hx] at hcell
   | some o => exact (Array.getElem?_eq_some_iff.1 hx).1
  have hseq := AnyZI.keys_gives (ρ := ρk) { Lk with } Fence.wide 2 trivial rfl (by omega) Bm b es.size _ w hBm hcell hown
  have cS := AnyZI.sorted_in Ls Fence.wide 5 trivial trivial trivial trivial rfl (by omega) (hsort _) e9 (ρk.f 10) #[.pointer (some ⟨Bm,0,none⟩)] trivial eg _ _ (by rw [hsz]; exact Nat.le_trans hle (by decide)) (by rw [hsz]; omega) w hseq
  refine ((callsIn_wide (n := 5)).1 cS).mono ?_
  rintro e w' ⟨v,ss,rfl,hS,hrow,hnil,hB⟩
  have hpp : ss.Perm ks := hS.trans hp
  rw [hpp.length_eq,mergeSort_of_perm_i hpp] at hrow
  refine ⟨v,rfl,hrow,?_,hB⟩
  rw [hnil]
  constructor
  ·intro h; subst h; exact List.Perm.nil_eq hpp |>.symm
  ·intro h; subst h; exact List.Perm.eq_nil hpp
 ·have hBm : Bm < w.heap.size := by
   cases hx : w.heap[Bm]? with
   | none => simp [World.cell?,hx] at hcell
   | some o => exact (Array.getElem?_eq_some_iff.1 hx).1
  have hseq := AnyZI.keys_gives_nil (ρ := ρk) { Lk with } Fence.wide 2 trivial rfl Bm w hBm hcell
  have cS := AnyZI.sorted_in Ls Fence.wide 5 trivial trivial trivial trivial rfl (by omega) (hsort _) e9 (ρk.f 10) #[.pointer (some ⟨Bm,0,none⟩)] trivial eg _ 0 (Nat.zero_le _) (by omega) w hseq
  refine ((callsIn_wide (n := 5)).1 cS).mono ?_
  rintro e w' ⟨v,ss,rfl,rfl,hrow,hnil,hB⟩
  obtain rfl := hnil.2 rfl
  exact ⟨rfl,hB⟩
theorem in64 {x : Int} (h : -9223372036854775808 ≤ x ∧ x ≤ 9223372036854775807) : (Lit.int .i64 x).wf = true := by
 simp only [Lit.wf]
 simp
 exact h
end K
end Go.Proofs.YtohjpggjgomgoaaGreatDoor
