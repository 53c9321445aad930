import Derived.Test.YtpaekplhcjleaaaGreatDoorI19
namespace Go.Proofs.YtpaekplhcjleaaaGreatDoor
namespace I
open K (one aggB run_underlying' run_sizeOf' add_none run_v cell_cells)
set_option linter.unusedVariables false

/-! ### All orders -/
def Good (C : DC) (F : D) : Nat → Array Bool → D → Prop
  | 0, l, s => Region.ready .any C.ops l = [] ∧ s = F
  | f + 1, l, s => (Region.ready .any C.ops l = [] → s = F) ∧ ∀ i ∈ Region.ready .any C.ops l, ∃ o s', C.ops[i]? = some o ∧ dstep C s i o = some s' ∧ Good C F f (l.setIfInBounds i true) s'

/-- What has come up has come up behind what it waits for. -/
def Closed (ops : Array Oper) (l : Array Bool) : Prop := ∀ k, l.getD k false = true → ∀ o, ops[k]? = some o → ∀ e ∈ o.after, Region.binds .any e = true → l.getD e.on false = true

def CleanAll (C : DC) (l : Array Bool) (s : D) : Prop := ∀ i, i < C.ops.size → l.getD i true = false → Clean C s i

/-- What an order is found by: an operation's number, where it writes, what it looks at, what it waits for, whether it may be taken first. -/
structure Inf where
  idx : Nat
  dst : Option Nat
  looks : List Nat
  preds : List Nat
  quiet : Bool

def predsOf (o : Oper) : List Nat := (o.after.toList.filter (Region.binds .any)).map (·.on)
def infOf (ops : Array Oper) (i : Nat) (o : Oper) : Inf := ⟨i, o.dst, o.looksAt ops, predsOf o, quietK o⟩
def infsOf (ops : Array Oper) : List Oper → Nat → List Inf
  | [], _ => []
  | o :: l, i => infOf ops i o :: infsOf ops l (i + 1)

def apartI (x y : Inf) : Bool :=
  (match x.dst with
   | some d => !(y.looks.any (Nat.beq d)) && (match y.dst with
     | some e => !(Nat.beq d e)
     | none => true)
   | none => true) &&
  (match y.dst with
   | some d => !(x.looks.any (Nat.beq d))
   | none => true)

def pairI (ops : Array Oper) (x y : Inf) : Bool := Nat.beq x.idx y.idx || (apartI x y || (y.preds.any (Nat.beq x.idx) || (x.preds.any (Nat.beq y.idx) || (ancN ops ops.size x.idx).any (Nat.beq y.idx))))

def readyI (done : List Nat) (x : Inf) : Bool := x.preds.all fun p => done.any (Nat.beq p)

def greedy : Nat → List Nat → List Inf → Option (List Nat)
  | _, _, [] => some []
  | 0, _, _ :: _ => none
  | f + 1, done, x0 :: rest0 => match (x0 :: rest0).find? (fun x => x.quiet && readyI done x) with
    | some x => match greedy f (x.idx :: done) ((x0 :: rest0).filter fun y => !(Nat.beq y.idx x.idx)) with
      | some is => some (x.idx :: is)
      | none => none
    | none => match (x0 :: rest0).filter (readyI done) with
      | [x] => match greedy f (x.idx :: done) ((x0 :: rest0).filter fun y => !(Nat.beq y.idx x.idx)) with
        | some is => some (x.idx :: is)
        | none => none
      | _ => none

def pairsOk (ops : Array Oper) (xs : List Inf) : Bool := xs.all fun x => !x.quiet || xs.all fun y => pairI ops x y

/-- An order in which a region's operations are taken such that every other order comes to the same. -/
def schedF (ops : Array Oper) : Option (List Nat) := bif pairsOk ops (infsOf ops ops.toList 0) then greedy ops.size [] (infsOf ops ops.toList 0) else none

def runS (C : DC) : List Nat → D → Option D
  | [], s => some s
  | i :: is, s => match C.ops[i]? with
    | some o => match dstep C s i o with
      | some s' => runS C is s'
      | none => none
    | none => none

section
variable {C : DC} {F : D} {l : Array Bool}

theorem getD_true_false {i : Nat} (h : l.getD i true = false) : l.getD i false = false := by
  rcases Nat.lt_or_ge i l.size with hlt | hge
  · simp [hlt] at h ⊢; exact h
  · simp [hge] at h

theorem closed_add {i : Nat} (hc : Closed C.ops l) (hr : i ∈ Region.ready .any C.ops l) : Closed C.ops (l.setIfInBounds i true) := by
  intro k hk o ho e he hb
  apply getD_set_true
  by_cases hki : k = i
  · subst hki
    obtain ⟨_, o', ho', hall⟩ := mem_ready.1 hr
    rw [ho] at ho'; simp only [Option.some.injEq] at ho'; subst ho'
    exact hall e he hb
  · rw [getD_set_ne false (fun h => hki h.symm)] at hk
    exact hc k hk o ho e he hb

theorem anc_listed (hc : Closed C.ops l) : ∀ (k j : Nat), (∀ o, C.ops[j]? = some o → ∀ e ∈ o.after, Region.binds .any e = true → l.getD e.on false = true) → ∀ x ∈ ancN C.ops k j, l.getD x false = true
  | 0, j, _, x, hx => by simp [ancN] at hx
  | k + 1, j, h, x, hx => by
    unfold ancN at hx
    split at hx
    · simp at hx
    · rename_i o ho
      obtain ⟨e, he, hx⟩ := List.mem_flatMap.1 hx
      cases hb : Region.binds .any e with
      | false => simp [hb] at hx
      | true =>
        simp only [hb, cond_true] at hx
        have he' : e ∈ o.after := by simpa using he
        have h1 := h o ho e he' hb
        rcases List.mem_cons.1 hx with rfl | hx
        · exact h1
        · exact anc_listed hc k e.on (fun o' ho' e' he'' hb' => hc e.on h1 o' ho' e' he'' hb') x hx

theorem good_first (hn : C.n ≤ 2 ^ C.d) (hpd : C.ops.size ≤ 2 ^ C.pd) {i : Nat} {oi : Oper} (hi : C.ops[i]? = some oi) (hq : quietK oi = true) : ∀ (f : Nat) (l : Array Bool) (s s1 : D),
    (∀ j oj, C.ops[j]? = some oj → j ≠ i → l.getD j true = false → (∀ e ∈ oj.after, Region.binds .any e = true → e.on ≠ i) → oi.apart C.ops oj = true) →
    Closed C.ops l → CleanAll C l s → i ∈ Region.ready .any C.ops l → dstep C s i oi = some s1 → Good C F f (l.setIfInBounds i true) s1 → Good C F (f + 1) l s := by
  have hin : i < C.ops.size := (Array.getElem?_eq_some_iff.1 hi).1
  intro f
  induction f with
  | zero =>
    intro l s s1 _ hc hcl hr h1 H
    refine ⟨fun h => (by rw [h] at hr; cases hr), fun j hj => ?_⟩
    by_cases hji : j = i
    · subst hji; exact ⟨oi, s1, hi, h1, H⟩
    · have := ready_mono hj hji
      rw [H.1] at this
      cases this
  | succ f ih =>
    intro l s s1 hfree hc hcl hr h1 H
    refine ⟨fun h => (by rw [h] at hr; cases hr), fun j hj => ?_⟩
    by_cases hji : j = i
    · subst hji; exact ⟨oi, s1, hi, h1, H⟩
    · obtain ⟨oj, s2, hoj, h2, H2⟩ := H.2 j (ready_mono hj hji)
      have hjn : j < C.ops.size := (Array.getElem?_eq_some_iff.1 hoj).1
      obtain ⟨hjun, oj', hoj', hall⟩ := mem_ready.1 hj
      rw [hoj] at hoj'; simp only [Option.some.injEq] at hoj'; subst hoj'
      have hiun := (mem_ready.1 hr).1
      have hif := getD_true_false hiun
      have hnot : ∀ e ∈ oj.after, Region.binds .any e = true → e.on ≠ i := fun e he hb heq => by
        have := hall e he hb
        rw [heq, hif] at this; cases this
      have hanc : i ∉ ancN C.ops C.ops.size j := fun hm => by
        have := anc_listed hc C.ops.size j (fun o ho e he hb => by rw [hoj] at ho; simp only [Option.some.injEq] at ho; subst ho; exact hall e he hb) i hm
        rw [hif] at this; cases this
      obtain ⟨s', d1, d2⟩ := diamond hn hi hoj hpd (fun e => hji e.symm) (hcl i hin hiun) hq (hfree j oj hoj hji hjun hnot) hanc h1 h2
      refine ⟨oj, s', hoj, d1, ih (l.setIfInBounds j true) s' s2 ?_ (closed_add hc hj) ?_ (ready_mono hr (Ne.symm hji)) d2 ?_⟩
      · intro k ok hk hki hun hno
        refine hfree k ok hk hki ?_ hno
        exact (getD_set l j k hun).2
      · intro k hk hun
        obtain ⟨hkj, hun'⟩ := getD_set l j k hun
        exact dstep_clean (by omega) (by omega) (fun e => hkj e.symm) (hcl k hk hun') d1
      · rw [Array.setIfInBounds_comm _ _ hji]
        exact H2

theorem infsOf_mem {ops : Array Oper} : ∀ {l : List Oper} {i : Nat} {x : Inf}, x ∈ infsOf ops l i → ∃ j o, l[j]? = some o ∧ x = infOf ops (i + j) o
  | [], i, x, h => by simp [infsOf] at h
  | o :: l, i, x, h => by
    rcases List.mem_cons.1 h with rfl | h
    · exact ⟨0, o, rfl, rfl⟩
    · obtain ⟨j, o', h1, h2⟩ := infsOf_mem h
      exact ⟨j + 1, o', by simpa using h1, by rw [h2]; congr 1; omega⟩

theorem infsOf_get {ops : Array Oper} : ∀ {l : List Oper} {i j : Nat} {o : Oper}, l[j]? = some o → infOf ops (i + j) o ∈ infsOf ops l i
  | [], i, j, o, h => by simp at h
  | o' :: l, i, 0, o, h => by
    simp only [List.getElem?_cons_zero, Option.some.injEq] at h
    subst h
    exact List.mem_cons_self ..
  | o' :: l, i, j + 1, o, h => by
    have := infsOf_get (ops := ops) (i := i + 1) (show l[j]? = some o by simpa using h)
    rw [show i + 1 + j = i + (j + 1) by omega] at this
    exact List.mem_cons_of_mem _ this

theorem any_beq {l : List Nat} {d : Nat} : l.any (Nat.beq d) = true ↔ d ∈ l := by
  rw [List.any_eq_true]
  constructor
  · rintro ⟨x, hx, hb⟩
    have : d = x := Nat.eq_of_beq_eq_true hb
    rw [this]; exact hx
  · exact fun h => ⟨d, h, Nat.beq_refl d⟩

theorem apartI_ok {ops : Array Oper} {i j : Nat} {x y : Oper} (h : apartI (infOf ops i x) (infOf ops j y) = true) : x.apart ops y = true := by
  have hc : ∀ (l : List Nat) (d : Nat), l.any (Nat.beq d) = l.contains d := fun l d => by
    rw [Bool.eq_iff_iff, any_beq, List.contains_iff_mem]
  unfold apartI at h
  unfold Oper.apart
  simp only [infOf, Bool.and_eq_true] at h ⊢
  obtain ⟨h1, h2⟩ := h
  refine ⟨?_, ?_⟩
  · cases hx : x.dst with
    | none => rfl
    | some d =>
      rw [hx] at h1
      simp only [Bool.and_eq_true] at h1 ⊢
      refine ⟨by rw [← hc]; exact h1.1, ?_⟩
      cases hy : y.dst with
      | none => rfl
      | some e =>
        have h3 := h1.2
        rw [hy] at h3
        simp only [Bool.not_eq_true'] at h3
        simp only [bne_iff_ne, ne_eq, Option.some.injEq]
        intro he
        rw [he, Nat.beq_refl] at h3
        cases h3
  · cases hy : y.dst with
    | none => rfl
    | some d =>
      rw [hy] at h2
      simp only at h2 ⊢
      rw [← hc]; exact h2

theorem mem_preds {o : Oper} {p : Nat} : p ∈ predsOf o ↔ ∃ e ∈ o.after, Region.binds .any e = true ∧ e.on = p := by
  unfold predsOf
  simp only [List.mem_map, List.mem_filter, Array.mem_toList_iff]
  constructor
  · rintro ⟨e, ⟨h1, h2⟩, h3⟩; exact ⟨e, h1, h2, h3⟩
  · rintro ⟨e, h1, h2, h3⟩; exact ⟨e, ⟨h1, h2⟩, h3⟩

structure Inv (C : DC) (l : Array Bool) (done : List Nat) (rest : List Inf) : Prop where
  dn : ∀ k, l.getD k false = true ↔ k ∈ done
  inf : ∀ x ∈ rest, ∃ o, C.ops[x.idx]? = some o ∧ x = infOf C.ops x.idx o ∧ l.getD x.idx true = false
  all : ∀ k, l.getD k true = false → ∃ x ∈ rest, x.idx = k
  cl : Closed C.ops l
  size : l.size = C.ops.size

theorem Inv.ready {done : List Nat} {rest : List Inf} (I : Inv C l done rest) {x : Inf} (hx : x ∈ rest) : readyI done x = true ↔ x.idx ∈ Region.ready .any C.ops l := by
  obtain ⟨o, ho, hxo, hun⟩ := I.inf x hx
  have hp : x.preds = predsOf o := by rw [hxo]; rfl
  rw [mem_ready]
  unfold readyI
  rw [List.all_eq_true, hp]
  constructor
  · intro h
    refine ⟨hun, o, ho, fun e he hb => ?_⟩
    exact (I.dn e.on).2 (any_beq.1 (h e.on (mem_preds.2 ⟨e, he, hb, rfl⟩)))
  · rintro ⟨_, o', ho', h⟩ p hp
    rw [ho] at ho'; simp only [Option.some.injEq] at ho'; subst ho'
    obtain ⟨e, he, hb, rfl⟩ := mem_preds.1 hp
    exact any_beq.2 ((I.dn e.on).1 (h e he hb))

theorem Inv.step {done : List Nat} {rest : List Inf} (I : Inv C l done rest) {x : Inf} (hx : x ∈ rest) (hr : x.idx ∈ Region.ready .any C.ops l) :
    Inv C (l.setIfInBounds x.idx true) (x.idx :: done) (rest.filter fun y => !(Nat.beq y.idx x.idx)) := by
  obtain ⟨o, ho, hxo, hun⟩ := I.inf x hx
  have hlt : x.idx < l.size := by rw [I.size]; exact (Array.getElem?_eq_some_iff.1 ho).1
  refine ⟨fun k => ?_, fun y hy => ?_, fun k hk => ?_, closed_add I.cl hr, by simp [I.size]⟩
  · by_cases hki : x.idx = k
    · subst hki
      simp [hlt]
    · rw [getD_set_ne false hki, I.dn k]
      simp only [List.mem_cons]
      exact ⟨.inr, fun h => h.resolve_left (fun e => hki e.symm)⟩
  · obtain ⟨h1, h2⟩ := List.mem_filter.1 hy
    obtain ⟨o', g1, g2, g3⟩ := I.inf y h1
    refine ⟨o', g1, g2, ?_⟩
    have hne : x.idx ≠ y.idx := fun e => by rw [e, Nat.beq_refl] at h2; cases h2
    rw [getD_set_ne true hne]; exact g3
  · obtain ⟨hne, hun'⟩ := getD_set l x.idx k hk
    obtain ⟨y, hy, rfl⟩ := I.all k hun'
    refine ⟨y, List.mem_filter.2 ⟨hy, ?_⟩, rfl⟩
    cases hb : Nat.beq y.idx x.idx with
    | false => rfl
    | true => exact absurd (Nat.eq_of_beq_eq_true hb) hne

theorem pair_free {xs : List Inf} (hp : pairsOk C.ops xs = true) {done : List Nat} {rest : List Inf} (I : Inv C l done rest) (hsub : ∀ y ∈ rest, y ∈ xs) {x : Inf} (hx : x ∈ rest) (hq : x.quiet = true) (hr : x.idx ∈ Region.ready .any C.ops l) {oi : Oper} (hi : C.ops[x.idx]? = some oi) :
    ∀ j oj, C.ops[j]? = some oj → j ≠ x.idx → l.getD j true = false → (∀ e ∈ oj.after, Region.binds .any e = true → e.on ≠ x.idx) → oi.apart C.ops oj = true := by
  intro j oj hj hne hun hno
  obtain ⟨y, hy, rfl⟩ := I.all j hun
  obtain ⟨ox, ho, hxo, _⟩ := I.inf x hx
  rw [hi] at ho; simp only [Option.some.injEq] at ho; subst ho
  obtain ⟨oy, hoy, hyo, _⟩ := I.inf y hy
  rw [hj] at hoy; simp only [Option.some.injEq] at hoy; subst hoy
  have h1 := List.all_eq_true.1 hp x (hsub x hx)
  rw [hq] at h1
  simp only [Bool.not_true, Bool.false_or] at h1
  have h2 := List.all_eq_true.1 h1 y (hsub y hy)
  unfold pairI at h2
  simp only [Bool.or_eq_true] at h2
  have hnl : l.getD y.idx false = false := getD_true_false hun
  obtain ⟨_, o', ho', hall⟩ := mem_ready.1 hr
  rw [hi] at ho'; simp only [Option.some.injEq] at ho'; subst ho'
  rcases h2 with h2 | h2 | h2 | h2 | h2
  · exact absurd (Nat.eq_of_beq_eq_true h2).symm hne
  · rw [hxo, hyo] at h2; exact apartI_ok h2
  · have : x.idx ∈ predsOf oj := by
      have := any_beq.1 h2
      rw [hyo] at this; exact this
    obtain ⟨e, he, hb, heq⟩ := mem_preds.1 this
    exact absurd heq (hno e he hb)
  · have : y.idx ∈ predsOf oi := by
      have := any_beq.1 h2
      rw [hxo] at this; exact this
    obtain ⟨e, he, hb, heq⟩ := mem_preds.1 this
    have := hall e he hb
    rw [heq, hnl] at this; cases this
  · have := anc_listed I.cl C.ops.size x.idx (fun o ho e he hb => by rw [hi] at ho; simp only [Option.some.injEq] at ho; subst ho; exact hall e he hb) _ (any_beq.1 h2)
    rw [hnl] at this; cases this

theorem greedy_good (hn : C.n ≤ 2 ^ C.d) (hpd : C.ops.size ≤ 2 ^ C.pd) {xs : List Inf} (hp : pairsOk C.ops xs = true) : ∀ (f : Nat) (l : Array Bool) (done : List Nat) (rest : List Inf) (is : List Nat) (s : D), greedy f done rest = some is → Inv C l done rest → (∀ y ∈ rest, y ∈ xs) → CleanAll C l s →
    runS C is s = some F → Good C F f l s := by
  have hnil : ∀ (f : Nat) (l : Array Bool) (done : List Nat) (s : D), Inv C l done [] → s = F → Good C F f l s := by
    intro f l done s I hs
    have hr : Region.ready .any C.ops l = [] := by
      cases h : Region.ready .any C.ops l with
      | nil => rfl
      | cons i r =>
        have hi : i ∈ Region.ready .any C.ops l := by rw [h]; exact List.mem_cons_self ..
        obtain ⟨x, hx, _⟩ := I.all i (mem_ready.1 hi).1
        cases hx
    cases f with
    | zero => exact ⟨hr, hs⟩
    | succ f => exact ⟨fun _ => hs, fun i hi => by rw [hr] at hi; cases hi⟩
  intro f
  induction f with
  | zero =>
    intro l done rest is s hg I hsub hcl hrun
    cases rest with
    | nil =>
      simp only [greedy, Option.some.injEq] at hg
      subst hg
      simp only [runS, Option.some.injEq] at hrun
      exact hnil 0 l done s I hrun
    | cons x r => simp [greedy] at hg
  | succ f ih =>
    intro l done rest is s hg I hsub hcl hrun
    cases rest with
    | nil =>
      simp only [greedy, Option.some.injEq] at hg
      subst hg
      simp only [runS, Option.some.injEq] at hrun
      exact hnil (f + 1) l done s I hrun
    | cons x0 r0 =>
      have step : ∀ (x : Inf) (is' : List Nat), x ∈ x0 :: r0 → x.idx ∈ Region.ready .any C.ops l → greedy f (x.idx :: done) ((x0 :: r0).filter fun y => !(Nat.beq y.idx x.idx)) = some is' → is = x.idx :: is' →
          ∃ o s', C.ops[x.idx]? = some o ∧ dstep C s x.idx o = some s' ∧ Good C F f (l.setIfInBounds x.idx true) s' := by
        intro x is' hx hr hg' his
        subst his
        unfold runS at hrun
        split at hrun
        · rename_i o ho
          split at hrun
          · rename_i s' hs
            have hin : x.idx < C.ops.size := (Array.getElem?_eq_some_iff.1 ho).1
            refine ⟨o, s', ho, hs, ih _ _ _ _ s' hg' (I.step hx hr) (fun y hy => hsub y (List.mem_filter.1 hy).1) (fun k hk hun => ?_) hrun⟩
            obtain ⟨hki, hun'⟩ := getD_set l x.idx k hun
            exact dstep_clean (by omega) (by omega) (fun e => hki e.symm) (hcl k hk hun') hs
          · cases hrun
        · cases hrun
      unfold greedy at hg
      split at hg
      · rename_i x hfx
        have hx := List.mem_of_find?_eq_some hfx
        have hb := List.find?_some hfx
        simp only [Bool.and_eq_true] at hb
        have hr := (I.ready hx).1 hb.2
        split at hg
        · rename_i is' hg'
          simp only [Option.some.injEq] at hg
          obtain ⟨o, s', ho, hs, G'⟩ := step x is' hx hr hg' hg.symm
          obtain ⟨o2, ho2, hxo, _⟩ := I.inf x hx
          rw [ho] at ho2; simp only [Option.some.injEq] at ho2; subst ho2
          have hq : quietK o = true := by have := hb.1; rw [hxo] at this; exact this
          exact good_first hn hpd ho hq f l s s' (pair_free hp I hsub hx hb.1 hr ho) I.cl hcl hr hs G'
        · cases hg
      · split at hg
        · rename_i x hfl
          have hxm : x ∈ (x0 :: r0).filter (readyI done) := by rw [hfl]; exact List.mem_cons_self ..
          obtain ⟨hx, hb⟩ := List.mem_filter.1 hxm
          have hr := (I.ready hx).1 hb
          split at hg
          · rename_i is' hg'
            simp only [Option.some.injEq] at hg
            obtain ⟨o, s', ho, hs, G'⟩ := step x is' hx hr hg' hg.symm
            refine ⟨fun h0 => (by rw [h0] at hr; cases hr), fun j hj => ?_⟩
            obtain ⟨y, hy, rfl⟩ := I.all j (mem_ready.1 hj).1
            have hym : y ∈ (x0 :: r0).filter (readyI done) := List.mem_filter.2 ⟨hy, (I.ready hy).2 hj⟩
            rw [hfl] at hym
            simp only [List.mem_cons, List.not_mem_nil, or_false] at hym
            subst hym
            exact ⟨o, s', ho, hs, G'⟩
          · cases hg
        · cases hg

theorem sched_good (hn : C.n ≤ 2 ^ C.d) (hpd : C.ops.size ≤ 2 ^ C.pd) {is : List Nat} {s : D} (hs : schedF C.ops = some is) (hcl : CleanAll C (Array.replicate C.ops.size false) s) (hrun : runS C is s = some F) : Good C F C.ops.size (Array.replicate C.ops.size false) s := by
  unfold schedF at hs
  cases hb : pairsOk C.ops (infsOf C.ops C.ops.toList 0) with
  | false => simp [hb] at hs
  | true =>
    simp only [hb, cond_true] at hs
    refine greedy_good hn hpd hb _ _ _ _ _ _ hs ⟨fun k => ?_, fun x hx => ?_, fun k hk => ?_, fun k hk => ?_, by simp⟩ (fun y hy => hy) hcl hrun
    · by_cases hlt : k < C.ops.size <;> simp [hlt]
    · obtain ⟨j, o, h1, h2⟩ := infsOf_mem hx
      have hlt : j < C.ops.size := by have := (List.getElem?_eq_some_iff.1 h1).1; simpa using this
      subst h2
      refine ⟨o, by simpa [infOf] using h1, rfl, by simp [infOf, hlt]⟩
    · by_cases hlt : k < C.ops.size
      · have h1 : C.ops.toList[k]? = some C.ops[k] := by simp [hlt]
        refine ⟨_, infsOf_get (i := 0) h1, by simp [infOf]⟩
      · simp [hlt] at hk
    · by_cases hlt : k < C.ops.size
      · simp [hlt] at hk
      · simp [hlt] at hk

variable {ds : List Deferred} {ro : Option Nat} {w0 : World} {B : Fr} {hb : AV} {Q : Exit → Act → World → Prop}

theorem good_wp (hK : KOk C) (hpd : C.ops.size ≤ 2 ^ C.pd) (hed : ∀ (j : Nat) o, C.ops[j]? = some o → ∀ e ∈ o.after, e.on < C.ops.size) : ∀ (f : Nat) (l : Array Bool) (s : D) (σ : Sg) (a : Act) (w : World), Good C F f l s → DSim ds C w0 B hb σ s l a w →
    (∀ σ' l' a' w', SubX C.nx0 σ σ' → DSim ds C w0 B hb σ' F l' a' w' → Q .normal a' w') → wpAnyIn (fen ro) 0 C.P .any C.ops Q f l a w
  | 0, l, s, σ, a, w, hg, S, hQ => ⟨hg.1, hQ σ l a w (SubX.refl _ σ) (hg.2 ▸ S)⟩
  | f + 1, l, s, σ, a, w, hg, S, hQ => by
    refine ⟨fun h0 => hQ σ l a w (SubX.refl _ σ) (hg.1 h0 ▸ S), fun i hi => ?_⟩
    obtain ⟨o, s', ho, hs, hg'⟩ := hg.2 i hi
    refine dstep_ok hK hpd hed S ho (mem_ready.1 hi).1 hs (fun σ' a' w' hx S' => ?_)
    exact good_wp hK hpd hed f _ s' σ' a' w' hg' S' (fun σ'' l' a'' w'' hx' S'' => hQ σ'' l' a'' w'' (hx.trans hx' (Nat.le_refl _)) S'')

end
end I
end Go.Proofs.YtpaekplhcjleaaaGreatDoor
