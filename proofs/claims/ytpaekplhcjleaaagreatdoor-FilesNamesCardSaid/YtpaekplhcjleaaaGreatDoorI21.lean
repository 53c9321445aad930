import Derived.Test.YtpaekplhcjleaaaGreatDoorI20
import Derived.TacticsIn
namespace Go.Proofs.YtpaekplhcjleaaaGreatDoor
namespace I
open K (one aggB run_underlying' run_sizeOf' add_none run_v cell_cells run_callFunc)
set_option linter.unusedVariables false

/-! ### Code -/
abbrev St := AV × AV × Nat

inductive Ex where
  | normal
  | exit (id : Nat)
  | ret

def Ex.to : Ex → Exit
  | .normal => .normal
  | .exit id => .exit id
  | .ret => .ret

/-- Operations in the text's order. -/
def opsA (P : Program) (G n d : Nat) (K : KF) (ops : Array Oper) : List Oper → AV → AV → Nat → Option St
  | [], tm, h, nx => some (tm, h, nx)
  | o :: l, tm, h, nx => match wantA n d ops tm o with
    | none => none
    | some false => opsA P G n d K ops l (putA n d tm o.dst .undef) h nx
    | some true => match astep P (opndA G n d tm) h nx o with
      | some (.val v h' nx') => opsA P G n d K ops l (putA n d tm o.dst v) h' nx'
      | some (.call f args) => match K f args h nx with
        | some (v, h', nx') => opsA P G n d K ops l (putA n d tm o.dst v) h' nx'
        | none => none
      | none => none

def edgesOk (ops : Array Oper) : Bool := ops.all fun o => o.after.all fun e => Nat.blt e.on ops.size

def regA (P : Program) (G n d : Nat) (K : KF) (ops : Array Oper) (tm h : AV) (nx : Nat) : Option St :=
  bif P.follows .mixedOrders && (edgesOk ops && Nat.ble (nx + ops.size) (2 ^ HD)) then
    match schedF ops with
    | some is => match runS ⟨P, G, n, d, K, ops, nx, lg ops.size⟩ is ⟨tm, h, nx + ops.size, unid (lg ops.size) .undef, unid (lg ops.size) .undef⟩ with
      | some s => some (s.tm, (merge (lg ops.size) nx (List.range ops.size) s.h s.pt).1, s.nx)
      | none => none
    | none => none
  else none

/-- Code's state: the marks of deferred blocks, slots, memory, the next name. -/
abbrev SD := List Nat × St

def loopI (f : SD → Option (Ex × SD)) : Nat → SD → Option (Ex × SD)
  | 0, _ => none
  | k + 1, st => match f st with
    | some (.normal, st') => loopI f k st'
    | r => r

/-- A loop over a function is entered: its record; the block for deferred calls where it stands in no round. -/
def enterA (n rd : Nat) (ps : List Nat) (assign body : Code) (tm h : AV) (nx : Nat) : Option (Nat × List Nat × AV × Nat) :=
  match rd with
  | 0 => bif Nat.blt (nx + 1) (2 ^ HD) then some (nx + 1, [nx], cput HD (cput HD h nx .df) (nx + 1) (.lp n ps assign body tm 0 0 nx), nx + 2) else none
  | b + 1 => match cget HD h b with
    | .lp _ _ _ _ _ _ _ db => bif Nat.blt nx (2 ^ HD) then some (nx, [], cput HD h nx (.lp n ps assign body tm 0 0 db), nx + 1) else none
    | _ => none

def exOf : Nat → Ex
  | 0 => .normal
  | 1 => .ret
  | id + 2 => .exit id

def execC (P : Program) (G n d : Nat) (K : KF) (N rd : Nat) : Code → SD → Option (Ex × SD)
  | .skip, st => some (.normal, st)
  | .label _, st => some (.normal, st)
  | .region _ ops draw, st => bif draw then
      match regA P G n d K ops st.2.1 st.2.2.1 st.2.2.2 with
      | some st' => some (.normal, st.1, st')
      | none => none
    else match opsA P G n d K ops ops.toList st.2.1 st.2.2.1 st.2.2.2 with
      | some st' => some (.normal, st.1, st')
      | none => none
  | .seq a b, st => match execC P G n d K N rd a st with
    | some (.normal, st') => execC P G n d K N rd b st'
    | r => r
  | .cond c a b, st => match opndA G n d st.2.1 c with
    | .bool true => execC P G n d K N rd a st
    | .bool false => execC P G n d K N rd b st
    | _ => none
  | .block id b, st => match execC P G n d K N rd b st with
    | some (.exit j, st') => bif Nat.beq j id then some (.normal, st') else some (.exit j, st')
    | r => r
  | .loop b, st => loopI (fun s => execC P G n d K N rd b s) N st
  | .exit id, st => some (.exit id, st)
  | .ret, st => some (.ret, st)
  | .rangeFunc g ps assign body, st => match opndA G n d st.2.1 g with
    | .fn f first caps => match enterA n rd ps.toList assign body st.2.1 st.2.2.1 st.2.2.2 with
      | some (b, dl, h1, nx1) => match K (2 * f) (toList first ++ (.yld b :: toList caps)) h1 nx1 with
        | some (_, h2, nx2) => match cget HD h2 b with
          | .lp _ _ _ _ _ st' pend _ => bif Nat.beq st' 1 then none else some (exOf pend, dl ++ st.1, st.2.1, cput HD h2 b .dead, nx2)
          | _ => none
        | none => none
      | none => none
    | _ => none
  | _, _ => none

section
variable {P : Program} {ds : List Deferred} {ro : Option Nat} {G n d N rd : Nat} {K : KF} {w0 : World} {B : Fr}

def KOk' (P : Program) (G : Nat) (K : KF) : Prop := ∀ f args h nx v h' nx', K f args h nx = some (v, h', nx') → CallOk P G f args h nx v h' nx'

/-- What a state stands for. -/
structure Sim (ds : List Deferred) (n d G : Nat) (w0 : World) (B : Fr) (σ : Sg) (st : St) (a : Act) (w : World) : Prop where
  sl : SlotRel ds σ n d st.1 a
  g : GRel σ G
  hs : HS σ st.2.1 st.2.2 w0 B w

def Then (σ : Sg) (st st' : St) (σ' : Sg) : Prop := SubX st.2.2 σ σ' ∧ Dk st.2.2 st.2.1 st'.2.1 ∧ st.2.2 ≤ st'.2.2

theorem Then.refl (σ : Sg) (st : St) : Then σ st st σ := ⟨SubX.refl _ _, Dk.refl _ _, Nat.le_refl _⟩
theorem Then.trans {σ σ1 σ2 : Sg} {s s1 s2 : St} (a : Then σ s s1 σ1) (b : Then σ1 s1 s2 σ2) : Then σ s s2 σ2 := ⟨a.1.trans b.1 a.2.2, a.2.1.trans b.2.1 a.2.2, Nat.le_trans a.2.2 b.2.2⟩

theorem opsA_ok (hK : KOk' P G K) {ops : Array Oper} {Q : Exit → Act → World → Prop} : ∀ (l : List Oper) (tm h : AV) (nx : Nat) (st' : St) (σ : Sg) (a : Act) (w : World), opsA P G n d K ops l tm h nx = some st' → Sim ds n d G w0 B σ (tm, h, nx) a w →
    (∀ σ' a' w', Then σ (tm, h, nx) st' σ' → Sim ds n d G w0 B σ' st' a' w' → Q .normal a' w') → wpListIn (fen ro) 0 P ops Q l a w
  | [], tm, h, nx, st', σ, a, w, hh, S, hQ => by
    simp only [opsA, Option.some.injEq] at hh
    subst hh
    exact hQ σ a w (Then.refl _ _) S
  | o :: l, tm, h, nx, st', σ, a, w, hh, S, hQ => by
    unfold opsA at hh
    unfold wpListIn
    split at hh
    · cases hh
    · rename_i hw
      rw [wantA_ok S.sl hw]
      simp only [Bool.false_eq_true, if_false]
      exact ⟨fun _ _ => trivial, opsA_ok hK l _ h nx st' σ _ w hh ⟨put_ok S.sl .undef, S.g, S.hs⟩ (fun σ' a' w' ht S' => hQ σ' a' w' ht S')⟩
    · rename_i hw
      rw [wantA_ok S.sl hw]
      simp only [if_true]
      have hρ := opnd_ok S.sl S.g
      split at hh
      · rename_i v h' nx' hs
        obtain ⟨σ1, u, w1, g1, g2, g3, g4, g5, g6⟩ := astep_ok S.hs (fun _ => rfl) hρ hs
        have S1 : Sim ds n d G w0 B σ1 (putA n d tm o.dst v, h', nx') (a.put o.dst u) w1 := ⟨put_ok (S.sl.mono g1.1) g5, S.g.mono g1.1, g6⟩
        have T1 : Then σ (tm, h, nx) (putA n d tm o.dst v, h', nx') σ1 := ⟨g1, g2, g3⟩
        have := opsA_ok hK l _ h' nx' st' σ1 _ w1 hh S1 (fun σ' a' w' ht S' => hQ σ' a' w' (T1.trans ht) S')
        rcases g4 with g4 | ⟨g4, rfl⟩
        · exact wpIn_value g4 this
        · exact wpIn_skipOp g4 this
      · rename_i f args hs
        split at hh
        · rename_i v h' nx' hk
          refine wpIn_callOp hρ (astep_call hs) (fun vs g1 => hK f args h nx v h' nx' hk σ w0 B w vs S.hs S.g g1) ?_
          rintro e w1 ⟨σ1, u, k1, k2, k3, rfl, k5, k6⟩
          have S1 : Sim ds n d G w0 B σ1 (putA n d tm o.dst v, h', nx') (a.put o.dst u) w1 := ⟨put_ok (S.sl.mono k1.1) k5, S.g.mono k1.1, k6⟩
          have T1 : Then σ (tm, h, nx) (putA n d tm o.dst v, h', nx') σ1 := ⟨k1, k2, k3⟩
          exact ⟨u, rfl, opsA_ok hK l _ h' nx' st' σ1 _ w1 hh S1 (fun σ' a' w' ht S' => hQ σ' a' w' (T1.trans ht) S')⟩
        · cases hh
      · cases hh

theorem regA_ok (hK : KOk' P G K) (hn : n ≤ 2 ^ d) {id : Nat} {ops : Array Oper} {Q : Exit → Act → World → Prop} {tm h : AV} {nx : Nat} {st' : St} {σ : Sg} {a : Act} {w : World} (hh : regA P G n d K ops tm h nx = some st') (S : Sim ds n d G w0 B σ (tm, h, nx) a w)
    (hQ : ∀ σ' a' w', Then σ (tm, h, nx) st' σ' → Sim ds n d G w0 B σ' st' a' w' → Q .normal a' w') : (Code.region id ops true).wpIn (fen ro) 0 P Q a w := by
  unfold regA at hh
  cases hb : (P.follows .mixedOrders && (edgesOk ops && Nat.ble (nx + ops.size) (2 ^ HD))) with
  | false => simp [hb] at hh
  | true =>
    simp only [hb, cond_true] at hh
    simp only [Bool.and_eq_true] at hb
    obtain ⟨hm, hed, hle⟩ := hb
    have hle := ble_iff.1 hle
    split at hh
    · rename_i is his
      split at hh
      case h_2 => cases hh
      rename_i F hF
      simp only [Option.some.injEq] at hh
      subst hh
      let C : DC := ⟨P, G, n, d, K, ops, nx, lg ops.size⟩
      have hpd : C.ops.size ≤ 2 ^ C.pd := lg_le _
      have hedge : ∀ (j : Nat) o, C.ops[j]? = some o → ∀ e ∈ o.after, e.on < C.ops.size := fun j o ho e he => by
        have h1 := Array.all_eq_true_iff_forall_mem.1 hed o (Array.mem_of_getElem? ho)
        exact blt_iff.1 (Array.all_eq_true_iff_forall_mem.1 h1 e he)
      have hclean : CleanAll C (Array.replicate ops.size false) ⟨tm, h, nx + ops.size, unid (lg ops.size) .undef, unid (lg ops.size) .undef⟩ := fun k hk _ => ⟨cget_unid _ _ _, cget_unid _ _ _⟩
      have hgood := sched_good (C := C) (F := F) hn hpd his hclean hF
      have hH := (S.hs.skip (Nat.le_add_right nx ops.size) hle).drew
      have S0 : DSim ds C w0 B h σ ⟨tm, h, nx + ops.size, unid (lg ops.size) .undef, unid (lg ops.size) .undef⟩ (Array.replicate ops.size false) a { w with drawn := w.drawn + 1 } := by
        refine ⟨S.sl, S.g, ⟨hH, Nat.le_refl _, fun k hk hl => ?_, fun k k' p p' hk hk' hne hl => ?_⟩, fun k hk _ => ?_, Dk.refl _ _⟩
        · rw [cget_unid] at hl; simp [live] at hl
        · rw [cget_unid] at hl; simp [live] at hl
        · cases hx : σ (nx + k) with
          | none => rfl
          | some p => have := S.hs.dom _ p hx; simp only at this; omega
      refine wpIn_region_any hm (good_wp (C := C) (F := F) hK hpd hedge ops.size _ _ σ a _ hgood S0 ?_)
      intro σ' l' a' w' hx SF
      have M := SF.m.merge hpd (l := List.range ops.size) (fun j hj => List.mem_range.1 hj)
      refine hQ σ' a' w' ⟨⟨hx.1, fun b hb => hx.2 b hb⟩, ?_, ?_⟩ ⟨SF.sl, SF.g, M.hs⟩
      · exact SF.dk.trans (merge_dk hle (fun j hj => List.mem_range.1 hj)) (Nat.le_refl _)
      · have := SF.m.nx
        show nx ≤ F.nx
        have h2 : nx + ops.size ≤ F.nx := this
        omega
    · cases hh

/-- The marks that a list of names stands for. -/
def MarksRel (σ : Sg) (dl : List Nat) (ds : List Deferred) : Prop := dl.length = ds.length ∧ ∀ (i : Nat) b x, dl[i]? = some b → ds[i]? = some x → ∃ r base size, σ b = some (r, base, size) ∧ x = { target := .collected r, args := #[] }

theorem MarksRel.mono {σ σ' : Sg} {dl : List Nat} {ds : List Deferred} (h : MarksRel σ dl ds) (hs : Sub σ σ') : MarksRel σ' dl ds := ⟨h.1, fun i b x hb hx => by
  obtain ⟨r, base, size, h1, h2⟩ := h.2 i b x hb hx
  exact ⟨r, base, size, hs _ _ h1, h2⟩⟩

theorem MarksRel.nil (σ : Sg) : MarksRel σ [] [] := ⟨rfl, fun i b x hb => by simp at hb⟩

theorem MarksRel.app {σ : Sg} {dl dl' : List Nat} {ds ds' : List Deferred} (h : MarksRel σ dl ds) (h' : MarksRel σ dl' ds') : MarksRel σ (dl ++ dl') (ds ++ ds') := by
  refine ⟨by simp [h.1, h'.1], fun i b x hb hx => ?_⟩
  by_cases hi : i < dl.length
  · rw [List.getElem?_append_left hi] at hb
    rw [List.getElem?_append_left (by rw [← h.1]; exact hi)] at hx
    exact h.2 i b x hb hx
  · rw [List.getElem?_append_right (by omega)] at hb
    rw [List.getElem?_append_right (by rw [← h.1]; omega), ← h.1] at hx
    exact h'.2 _ b x hb hx

/-- The round in which code stands: 0 none, b + 1 that of loop b. -/
def RoRel (σ : Sg) : Nat → Option Nat → Prop
  | 0, ro => ro = none
  | b + 1, ro => ∃ l base size, σ b = some (l, base, size) ∧ ro = some l

theorem RoRel.mono {σ σ' : Sg} {rd : Nat} {ro : Option Nat} (h : RoRel σ rd ro) (hs : Sub σ σ') : RoRel σ' rd ro := by
  cases rd with
  | zero => exact h
  | succ b => obtain ⟨l, base, size, h1, h2⟩ := h; exact ⟨l, base, size, hs _ _ h1, h2⟩

structure SimD (rd : Nat) (ro : Option Nat) (n d G : Nat) (w0 : World) (B : Fr) (σ : Sg) (st : SD) (a : Act) (w : World) : Prop where
  ro : RoRel σ rd ro
  sm : ∃ ds, MarksRel σ st.1 ds ∧ Sim ds n d G w0 B σ st.2 a w

/-- What code comes to. -/
def Post (rd : Nat) (ro : Option Nat) (n d G : Nat) (w0 : World) (B : Fr) (σ : Sg) (st : SD) (e : Ex) (st' : SD) : Exit → Act → World → Prop :=
  fun e' a' w' => e' = e.to ∧ ∃ σ', Then σ st.2 st'.2 σ' ∧ SimD rd ro n d G w0 B σ' st' a' w'

theorem loopI_ok {b : Code} {f : SD → Option (Ex × SD)} (hb : ∀ st e st' σ a w, f st = some (e, st') → SimD rd ro n d G w0 B σ st a w → b.wpIn (fen ro) 0 P (Post rd ro n d G w0 B σ st e st') a w) :
    ∀ (k : Nat) (st : SD) (e : Ex) (st' : SD) (σ : Sg) (a : Act) (w : World), loopI f k st = some (e, st') → SimD rd ro n d G w0 B σ st a w → (Code.loop b).wpIn (fen ro) 0 P (Post rd ro n d G w0 B σ st e st') a w := by
  intro k st e st' σ a w hh S
  refine wpIn_loop_ghost (fun m a1 w1 => ∃ st1 σ1, loopI f m st1 = some (e, st') ∧ Then σ st.2 st1.2 σ1 ∧ SimD rd ro n d G w0 B σ1 st1 a1 w1) k ⟨st, σ, hh, Then.refl _ _, S⟩ ?_
  rintro m a1 w1 ⟨st1, σ1, h1, T1, S1⟩
  cases m with
  | zero => simp [loopI] at h1
  | succ m =>
    unfold loopI at h1
    split at h1
    · rename_i st2 h2
      refine wpIn_mono (hb st1 .normal st2 σ1 a1 w1 h2 S1) ?_
      rintro e2 a2 w2 ⟨rfl, σ2, T2, S2⟩
      exact ⟨m, Nat.lt_succ_self m, st2, σ2, h1, T1.trans T2, S2⟩
    · rename_i r hne
      refine wpIn_mono (hb st1 e st' σ1 a1 w1 h1 S1) ?_
      rintro e2 a2 w2 ⟨rfl, σ2, T2, S2⟩
      have hnn : e.to ≠ .normal := by
        cases e with
        | normal => exact absurd h1 (hne st')
        | exit id => simp [Ex.to]
        | ret => simp [Ex.to]
      cases e with
      | normal => exact absurd rfl hnn
      | exit id => exact ⟨rfl, σ2, T1.trans T2, S2⟩
      | ret => exact ⟨rfl, σ2, T1.trans T2, S2⟩

theorem tmps_rel {a : Act} {σ : Sg} {tm : AV} (hd : d = lg n) (S : SlotRel ds σ n d tm a) : ∀ t, t < n → Rel σ (cget (lg n) tm t) (a.tmps.getD t Go.undef) := fun t ht => hd ▸ S.sl t ht

theorem HS.lp {σ : Sg} {h : AV} {nx : Nat} {w : World} (H : HS σ h nx w0 B w) {b r base size m : Nat} {ps : List Nat} {assign body : Code} {tm : AV} {st pend db : Nat} (hb : σ b = some (r, base, size)) (hc : cget HD h b = .lp m ps assign body tm st pend db) :
    ∃ rc dr dbase dsize, w.heap[r]? = some (.loop rc) ∧ σ db = some (dr, dbase, dsize) ∧ (rc.state = stOf st ∧ rc.pending = pendOf pend ∧ rc.params = ps.toArray ∧ rc.assign = assign ∧ rc.body = body ∧ rc.defers = dr ∧ rc.tmps.size = m) ∧
      (∀ t, t < m → Rel σ (cget (lg m) tm t) (rc.tmps.getD t Go.undef)) ∧ (B.wr r ∨ w0.heap.size ≤ r) := by
  have := H.blk b (H.lt hb)
  rw [hc] at this
  obtain ⟨r', base', size', rc, dr, dbase, dsize, h1, h2, h3, h4, h5, h6⟩ := this
  rw [hb] at h1
  simp only [Option.some.injEq, Prod.mk.injEq] at h1
  obtain ⟨rfl, rfl, rfl⟩ := h1
  exact ⟨rc, dr, dbase, dsize, h2, h3, h4, h5, h6⟩

theorem enterA_ok {σ : Sg} {tm h : AV} {nx : Nat} {a : Act} {w : World} {ps : Array Nat} {assign body : Code} {b : Nat} {dl : List Nat} {h1 : AV} {nx1 : Nat} (hd : d = lg n) (hro : RoRel σ rd ro) (S : Sim ds n d G w0 B σ (tm, h, nx) a w)
    (he : enterA n rd ps.toList assign body tm h nx = some (b, dl, h1, nx1)) (fn : FuncId) :
    ∃ σ1 l base size mark w1, (Instr.enterLoop fn a.tmps ps assign body ro).run P w = .ok (l, mark) w1 ∧ σ1 b = some (l, base, size) ∧ MarksRel σ1 dl mark ∧ Then σ (tm, h, nx) (tm, h1, nx1) σ1 ∧ HS σ1 h1 nx1 w0 B w1 := by
  unfold enterA at he
  have H : HS σ h nx w0 B w := S.hs
  split at he
  · cases hb : Nat.blt (nx + 1) (2 ^ HD) with
    | false => simp [hb] at he
    | true =>
      simp only [hb, cond_true, Option.some.injEq, Prod.mk.injEq] at he
      obtain ⟨rfl, rfl, rfl, rfl⟩ := he
      have hlt := blt_iff.1 hb
      have hro' : ro = none := hro
      subst hro'
      have H1 : HS (ext σ nx (w.heap.size, 0, 0)) (cput HD h nx .df) (nx + 1) w0 B (w.alloc (.deferred (some []))) :=
        H.new (by omega) (p := (w.heap.size, 0, 0)) rfl rfl rfl rfl rfl ⟨w.heap.size, 0, 0, by simp [ext], K.get_alloc w _, .inr H.size⟩
      have hs1 : Sub σ (ext σ nx (w.heap.size, 0, 0)) := H.sub_ext _
      have hr1 := tmps_rel hd (S.sl.mono hs1)
      have hs2 := H1.sub_ext ((w.alloc (.deferred (some []))).heap.size, 0, 0)
      let rc : Loop := { state := .ready, pending := none, fn, tmps := a.tmps, params := ps, assign, body, defers := w.heap.size }
      have H2 : HS _ (cput HD (cput HD h nx .df) (nx + 1) (.lp n ps.toList assign body tm 0 0 nx)) (nx + 2) w0 B ((w.alloc (.deferred (some []))).alloc (.loop rc)) :=
        H1.new (by omega) (p := ((w.alloc (.deferred (some []))).heap.size, 0, 0)) rfl rfl rfl rfl rfl
          ⟨_, 0, 0, rc, w.heap.size, 0, 0, by simp [ext], K.get_alloc _ _, hs2 _ _ (by simp [ext]), ⟨rfl, rfl, by simp [rc], rfl, rfl, rfl, S.sl.size⟩, fun t ht => (hr1 t ht).mono hs2, .inr H1.size⟩
      refine ⟨_, (w.alloc (.deferred (some []))).heap.size, 0, 0, [{ target := .collected w.heap.size, args := #[] }], _, ?_, by simp [ext], ⟨rfl, fun i c x hc hx => ?_⟩, ⟨⟨fun c q hc => hs2 _ _ (hs1 _ _ hc), fun c hc => ?_⟩, fun c hc hlc => ?_, by simp⟩, H2⟩
      · simp [Instr.enterLoop, newObj, Sem.run, rc]
      · cases i with
        | zero =>
          simp only [List.getElem?_cons_zero, Option.some.injEq] at hc hx
          subst hc; subst hx
          exact ⟨w.heap.size, 0, 0, hs2 _ _ (by simp [ext]), rfl⟩
        | succ i => simp at hc
      · simp only at hc
        unfold ext
        rw [if_neg (by omega), if_neg (by omega)]
      · simp only at hc hlc ⊢
        rw [cget_cput HD _ (nx + 1) c _ hlt (by omega), if_neg (by omega), cget_cput HD h nx c _ (by omega) (by omega), if_neg (by omega)] at hlc
        exact hlc
  · rename_i b0
    split at he
    · rename_i m0 ps0 as0 bo0 tm0 st0 pe0 db hlp
      cases hb : Nat.blt nx (2 ^ HD) with
      | false => simp [hb] at he
      | true =>
        simp only [hb, cond_true, Option.some.injEq, Prod.mk.injEq] at he
        obtain ⟨rfl, rfl, rfl, rfl⟩ := he
        have hlt := blt_iff.1 hb
        obtain ⟨l0, lbase, lsize, hl0, rfl⟩ := hro
        obtain ⟨rc0, dr, dbase, dsize, q1, q2, ⟨_, _, _, _, _, q3, _⟩, _, _⟩ := H.lp hl0 hlp
        let rc : Loop := { state := .ready, pending := none, fn, tmps := a.tmps, params := ps, assign, body, defers := dr }
        have hs1 : Sub σ (ext σ nx (w.heap.size, 0, 0)) := H.sub_ext _
        have hr1 := tmps_rel hd (S.sl.mono hs1)
        have H1 : HS (ext σ nx (w.heap.size, 0, 0)) (cput HD h nx (.lp n ps.toList assign body tm 0 0 db)) (nx + 1) w0 B (w.alloc (.loop rc)) :=
          H.new hlt (p := (w.heap.size, 0, 0)) rfl rfl rfl rfl rfl ⟨w.heap.size, 0, 0, rc, dr, dbase, dsize, by simp [ext], K.get_alloc w _, hs1 _ _ q2, ⟨rfl, rfl, by simp [rc], rfl, rfl, rfl, S.sl.size⟩, hr1, .inr H.size⟩
        refine ⟨_, w.heap.size, 0, 0, [], _, ?_, by simp [ext], MarksRel.nil _, ⟨H.subX _, fun c hc hlc => ?_, Nat.le_succ _⟩, H1⟩
        · have hgo : (getObj l0).run P w = .ok (.loop rc0) w := by simp [getObj, Sem.run, q1]
          simp only [Instr.enterLoop, Instr.getLoop, Sem.run_bind, hgo, Result.andThen_ok, Sem.run_pure]
          simp [newObj, Sem.run, rc, q3]
        · simp only at hc hlc ⊢
          rw [cget_cput HD h nx c _ hlt (by omega), if_neg (by omega)] at hlc
          exact hlc
    · cases he

theorem Then.sub {σ σ' : Sg} {st st' : St} (h : Then σ st st' σ') : Sub σ σ' := h.1.1

theorem range_args {σ : Sg} {f b l base size : Nat} {first caps : AV} {gv : Value} (hg : Rel σ (.fn f first caps) gv) (hb : σ b = some (l, base, size)) :
    ∃ ys zs : Array Value, gv = .func (.func f) ys zs ∧ RelL σ (toList first ++ (.yld b :: toList caps)) (ys.toList ++ (.func (.yield l) #[] #[] :: zs.toList)) := by
  cases hg with
  | fn _ _ _ ys zs q1 q2 q3 q4 =>
  refine ⟨ys, zs, rfl, RelL.app ⟨by simpa using q1, fun i a v ha hv => q3 i a v ha (by simpa using hv)⟩ ⟨by simpa using q2, fun i a v ha hv => ?_⟩⟩
  cases i with
  | zero =>
    simp only [List.getElem?_cons_zero, Option.some.injEq] at ha hv
    subst ha; subst hv; exact .yld b l base size hb
  | succ i =>
    simp only [List.getElem?_cons_succ] at ha hv
    exact q4 i a v ha (by simpa using hv)

theorem range_resolve {a : Act} {g : Operand} {f l : Nat} {ys zs : Array Value} {w : World} (hg : a.eval g = .func (.func f) ys zs) :
    (resolve a.eval (rangeCall g l) 0).run P w = .ok { target := .fn (.func f) zs, args := ys ++ #[Value.func (.yield l) #[] #[]] } w := by
  show Sem.run P (Deferred.ofValue (a.eval g) _) w = _
  rw [hg]
  simp [Deferred.ofValue, Act.eval]

/-- The loop is over. -/
theorem end_loop {l : Nat} {w : World} {rc : Loop} (g1 : w.heap[l]? = some (.loop rc)) (hb : (rc.state == LoopState.busy) = false) :
    (Instr.endLoop l).run P w = .ok rc.pending { w with heap := w.heap.setIfInBounds l (.loop { rc with state := .exhausted }) } := by
  have hgo : (getObj l).run P w = .ok (.loop rc) w := by simp [getObj, Sem.run, g1]
  have hso : ∀ o, (setObj l o).run P w = .ok () { w with heap := w.heap.setIfInBounds l o } := fun o => by simp [setObj, Sem.run, g1]
  simp only [Instr.endLoop, Instr.getLoop, Sem.run_bind, hgo, Result.andThen_ok, Sem.run_pure, hb, Bool.false_eq_true, if_false, hso]

theorem not_busy {st : Nat} (hb : Nat.beq st 1 = false) : (stOf st == LoopState.busy) = false := by
  match st, hb with
  | 0, _ => rfl
  | 2, _ => rfl
  | k + 3, _ => rfl

set_option maxHeartbeats 1000000 in
/-- A loop over a function. -/
theorem rangeFunc_ok (hK : KOk' P G K) (hd : d = lg n) {g : Operand} {ps : Array Nat} {assign body : Code} {st : SD} {e : Ex} {st' : SD} {σ : Sg} {a : Act} {w : World}
    (hh : execC P G n d K N rd (.rangeFunc g ps assign body) st = some (e, st')) (S : SimD rd ro n d G w0 B σ st a w) : (Code.rangeFunc g ps assign body).wpIn (fen ro) 0 P (Post rd ro n d G w0 B σ st e st') a w := by
  obtain ⟨dl0, tm, h, nx⟩ := st
  obtain ⟨hro, ds, hM, S⟩ := S
  simp only [execC] at hh
  split at hh
  · rename_i f first caps hg
    split at hh
    · rename_i b dl h1 nx1 he
      split at hh
      · rename_i v h2' nx2 hk
        split at hh
        · rename_i m ps' as' bo' tm' st2 pend db hlp
          cases hb : Nat.beq st2 1 with
          | true => simp [hb] at hh
          | false =>
            simp only [hb, cond_false, Option.some.injEq, Prod.mk.injEq] at hh
            obtain ⟨rfl, rfl⟩ := hh
            refine wpIn_rangeFunc fun fn _ => ?_
            obtain ⟨σ1, l, base, size, mark, w1, e1, e2, e3, T1, H1⟩ := enterA_ok (P := P) hd hro S he fn
            have hgv := opnd_ok S.sl S.g g
            rw [show (dl0, tm, h, nx).2.1 = tm from rfl, hg] at hgv
            obtain ⟨ys, zs, hgv', hrel⟩ := range_args (hgv.mono T1.sub) e2
            have hcall := hK _ _ _ _ _ _ _ hk σ1 w0 B w1 _ H1 (S.g.mono T1.sub) hrel
            unfold CalleeOk at hcall
            rw [if_pos (by omega), show 2 * f / 2 = f by omega] at hcall
            obtain ⟨⟨fn', c, c1, c2, c3⟩, hcall⟩ := hcall
            have earr : ys ++ #[Value.func (.yield l) #[] #[]] ++ zs = (ys.toList ++ (.func (.yield l) #[] #[] :: zs.toList)).toArray := by
              apply Array.ext'
              simp
            have hinv : (invoke (.fn (.func f) zs) (ys ++ #[Value.func (.yield l) #[] #[]])).run P w1 = .ok (.enter f (ys.toList ++ (.func (.yield l) #[] #[] :: zs.toList)).toArray) w1 := by
              show (callFunc f (ys ++ #[Value.func (.yield l) #[] #[]] ++ zs)).run P w1 = _
              rw [earr]
              exact run_callFunc c1 c2 c3
            refine ⟨l, mark, w1, _, w1, f, _, w1, e1, range_resolve hgv', fun _ _ => trivial, hinv, fun h => (by cases h), ?_⟩
            have h1 : CallsIn Fence.wide 0 P f _ w1 _ := callsIn_wide.2 hcall
            have h2 : CallsIn (fen ro) 0 P f _ w1 _ := h1
            refine h2.mono ?_
            rintro e w2 ⟨σ2, u, k1, k2, k3, rfl, k5, k6⟩
            have hl2 := k1.1 _ _ e2
            obtain ⟨rc, dr, dbase, dsize, g1, g2, ⟨g3, g4, _⟩, _, g5⟩ := k6.lp hl2 hlp
            have hbusy : (rc.state == LoopState.busy) = false := by rw [g3]; exact not_busy hb
            have T2 : Then σ (tm, h, nx) (tm, cput HD h2' b .dead, nx2) σ2 := by
              refine T1.trans ⟨k1, ?_, k3⟩
              exact fun c hc hlc => k2 c hc (k6.dkPut hl2 (by rw [hlp]; rfl) c (Nat.lt_of_lt_of_le hc k3) hlc)
            have H2 : HS σ2 (cput HD h2' b .dead) nx2 w0 B { w2 with heap := w2.heap.setIfInBounds l (.loop { rc with state := .exhausted }) } :=
              k6.upd hl2 (by rw [hlp]; rfl) g5 rfl rfl rfl rfl trivial
            have S2 : SimD rd ro n d G w0 B σ2 (dl ++ dl0, tm, cput HD h2' b .dead, nx2) { a with defers := mark ++ a.defers } { w2 with heap := w2.heap.setIfInBounds l (.loop { rc with state := .exhausted }) } := by
              refine ⟨hro.mono T2.sub, mark ++ ds, (e3.mono k1.1).app (hM.mono T2.sub), ⟨⟨S.sl.size, ?_, S.sl.le, fun t ht => (S.sl.sl t ht).mono T2.sub⟩, S.g.mono T2.sub, H2⟩⟩
              show mark ++ a.defers = mark ++ ds
              rw [S.sl.dfr]
            refine ⟨pendOf pend, _, by rw [← g4]; exact end_loop g1 hbusy, ?_⟩
            match pend with
            | 0 => exact ⟨rfl, σ2, T2, S2⟩
            | 1 => exact wpIn_ret ⟨rfl, σ2, T2, S2⟩
            | id + 2 => exact wpIn_exit ⟨rfl, σ2, T2, S2⟩
        · cases hh
      · cases hh
    · cases hh
  · cases hh

theorem execC_ok (hK : KOk' P G K) (hn : n ≤ 2 ^ d) (hd : d = lg n) : ∀ (c : Code) (st : SD) (e : Ex) (st' : SD) (σ : Sg) (a : Act) (w : World), execC P G n d K N rd c st = some (e, st') → SimD rd ro n d G w0 B σ st a w → c.wpIn (fen ro) 0 P (Post rd ro n d G w0 B σ st e st') a w := by
  intro c
  induction c with
  | skip =>
    intro st e st' σ a w hh S
    simp only [execC, Option.some.injEq, Prod.mk.injEq] at hh
    obtain ⟨rfl, rfl⟩ := hh
    exact wpIn_skip ⟨rfl, σ, Then.refl _ _, S⟩
  | label l =>
    intro st e st' σ a w hh S
    simp only [execC, Option.some.injEq, Prod.mk.injEq] at hh
    obtain ⟨rfl, rfl⟩ := hh
    exact wpIn_label ⟨rfl, σ, Then.refl _ _, S⟩
  | region id ops draw =>
    intro st e st' σ a w hh S
    obtain ⟨dl, tm, h, nx⟩ := st
    obtain ⟨hro, ds, hM, S⟩ := S
    simp only [execC] at hh
    cases draw with
    | true =>
      simp only [cond_true] at hh
      split at hh
      · rename_i st1 h1
        simp only [Option.some.injEq, Prod.mk.injEq] at hh
        obtain ⟨rfl, rfl⟩ := hh
        exact regA_ok hK hn h1 S (fun σ' a' w' T S' => ⟨rfl, σ', T, hro.mono T.sub, ds, hM.mono T.sub, S'⟩)
      · cases hh
    | false =>
      simp only [cond_false] at hh
      split at hh
      · rename_i st1 h1
        simp only [Option.some.injEq, Prod.mk.injEq] at hh
        obtain ⟨rfl, rfl⟩ := hh
        exact wpIn_region_list (opsA_ok hK _ tm h nx st1 σ a w h1 S (fun σ' a' w' T S' => ⟨rfl, σ', T, hro.mono T.sub, ds, hM.mono T.sub, S'⟩))
      · cases hh
  | seq x y ihx ihy =>
    intro st e st' σ a w hh S
    simp only [execC] at hh
    refine wpIn_seq ?_
    split at hh
    · rename_i st1 h1
      refine wpIn_mono (ihx st .normal st1 σ a w h1 S) ?_
      rintro e1 a1 w1 ⟨rfl, σ1, T1, S1⟩
      refine wpIn_mono (ihy st1 e st' σ1 a1 w1 hh S1) ?_
      rintro e2 a2 w2 ⟨rfl, σ2, T2, S2⟩
      exact ⟨rfl, σ2, T1.trans T2, S2⟩
    · rename_i r hne
      refine wpIn_mono (ihx st e st' σ a w hh S) ?_
      rintro e1 a1 w1 ⟨rfl, σ1, T1, S1⟩
      cases e with
      | normal => exact absurd hh (hne st')
      | exit id => exact ⟨rfl, σ1, T1, S1⟩
      | ret => exact ⟨rfl, σ1, T1, S1⟩
  | cond c x y ihx ihy =>
    intro st e st' σ a w hh S
    simp only [execC] at hh
    obtain ⟨ds, hM, S'⟩ := S.sm
    have hc := opnd_ok S'.sl S'.g c
    split at hh
    · rename_i he
      rw [he] at hc
      generalize hcv : a.eval c = cv at hc
      cases hc
      exact wpIn_cond_true hcv (ihx st e st' σ a w hh S)
    · rename_i he
      rw [he] at hc
      generalize hcv : a.eval c = cv at hc
      cases hc
      exact wpIn_cond_false hcv (ihy st e st' σ a w hh S)
    · cases hh
  | block id b ih =>
    intro st e st' σ a w hh S
    simp only [execC] at hh
    refine wpIn_block ?_
    split at hh
    · rename_i j st1 h1
      refine wpIn_mono (ih st (.exit j) st1 σ a w h1 S) ?_
      rintro e1 a1 w1 ⟨rfl, σ1, T1, S1⟩
      cases hb : Nat.beq j id with
      | true =>
        simp only [hb, cond_true, Option.some.injEq, Prod.mk.injEq] at hh
        obtain ⟨rfl, rfl⟩ := hh
        show (if j = id then _ else _)
        rw [if_pos (beqn_iff.1 hb)]
        exact ⟨rfl, σ1, T1, S1⟩
      | false =>
        simp only [hb, cond_false, Option.some.injEq, Prod.mk.injEq] at hh
        obtain ⟨rfl, rfl⟩ := hh
        show (if j = id then _ else _)
        rw [if_neg (fun e => by rw [beqn_iff.2 e] at hb; cases hb)]
        exact ⟨rfl, σ1, T1, S1⟩
    · rename_i r hne
      refine wpIn_mono (ih st e st' σ a w hh S) ?_
      rintro e1 a1 w1 ⟨rfl, σ1, T1, S1⟩
      cases e with
      | normal => exact ⟨rfl, σ1, T1, S1⟩
      | exit j => exact absurd hh (hne j st')
      | ret => exact ⟨rfl, σ1, T1, S1⟩
  | loop b ih =>
    intro st e st' σ a w hh S
    simp only [execC] at hh
    exact loopI_ok ih N st e st' σ a w hh S
  | exit id =>
    intro st e st' σ a w hh S
    simp only [execC, Option.some.injEq, Prod.mk.injEq] at hh
    obtain ⟨rfl, rfl⟩ := hh
    exact wpIn_exit ⟨rfl, σ, Then.refl _ _, S⟩
  | ret =>
    intro st e st' σ a w hh S
    simp only [execC, Option.some.injEq, Prod.mk.injEq] at hh
    obtain ⟨rfl, rfl⟩ := hh
    exact wpIn_ret ⟨rfl, σ, Then.refl _ _, S⟩
  | rangeFunc g ps assign body _ _ =>
    intro st e st' σ a w hh S
    exact rangeFunc_ok hK hd hh S
  | _ => intro st e st' σ a w hh S; simp [execC] at hh

end
end I
end Go.Proofs.YtpaekplhcjleaaaGreatDoor
