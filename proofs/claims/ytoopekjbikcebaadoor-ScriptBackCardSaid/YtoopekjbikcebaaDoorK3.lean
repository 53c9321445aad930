/- What the function of K2 says of a quiet operation is what the operation does. -/
import Derived.Test.YtoopekjbikcebaaDoorK2
namespace Go.Proofs.YtoopekjbikcebaaDoor
namespace K

section
variable {P : Program} {S : World → Prop} {n : Nat} {D : List Deferred} {Γ : Env} {a : Act} {ch : Ch}

theorem Holds.cons {tm : Array Value} {ch : Ch} {t : Nat} {b : Bool} (h : Holds tm ch) (ht : tm.getD t undef = .bool b) : Holds tm ((t, b) :: ch) := by
  intro p hp
  rcases List.mem_cons.1 hp with rfl | hp
  · exact ht
  · exact h p hp

theorem pkV_true (x y : Operand) (va vb : Value) (ha : ∀ b, x = .const (.bool b) → va = .bool b) : pkV x y true va vb = va := by
  unfold pkV
  split
  · split
    · have := ha true rfl; simp only [Value.bool.injEq] at this; simp [this]
    · simp
    · simp
  · simp

theorem pkV_false (x y : Operand) (va vb : Value) (hb : ∀ b, y = .const (.bool b) → vb = .bool b) : pkV x y false va vb = vb := by
  unfold pkV
  split
  · split
    · simp
    · have := hb false rfl; simp only [Value.bool.injEq] at this; simp [this]
    · simp
  · simp

theorem run_underlying' {t : TypeId} {d : TypeDesc} {w : World} (h : P.underlying t = some d) : (underlying t).run P w = .ok d w := by
  simp [underlying, program, Sem.run, h]

theorem run_sizeOf' {t : TypeId} {i : TypeInfo} {w : World} (h : P.info? t = some i) : (sizeOf t).run P w = .ok i.size w := by
  simp [sizeOf, typeInfo, program, Sem.run, h]

theorem run_isAgg' {t : TypeId} {w : World} (h : aggB P t = false) : (isAgg t).run P w = .ok false w := by
  unfold aggB at h
  split at h
  · cases h
  · cases h
  · rename_i d h1 h2 hd
    simp only [isAgg, Sem.run_bind, run_underlying' hd, Result.andThen_ok]
    cases d <;> simp_all
  · cases h

theorem add_none (b off m : Nat) : Addr.add ⟨b, off, none⟩ m = ⟨b, off + m, none⟩ := Addr.add_lit b off m

theorem mulS_eq (i sz : Nat) : mulS i sz = i * sz := by
  unfold mulS
  cases h : Nat.beq sz 1 with
  | true => rw [beq_iff.1 h]; simp
  | false => simp

theorem addO_eq (off i : Nat) : addO off i = off + i := by
  unfold addO
  split <;> simp

theorem eqGuard_pointer (op : BinOp) (t : TypeId) (x y : Operand) (p : Option Addr) (v : Value) : eqGuard op t x y (.pointer p) v = pure () := by cases op <;> rfl


theorem slB_ok (hs : St n D Γ a) (hc : Holds a.tmps ch) {x : Option Operand} {d m : Nat} {nd : List Prop} (h : slB Γ ch x d = some (m, nd)) (hn : ∀ p ∈ nd, p) :
    (x = none ∧ m = d) ∨ ∃ y k i, x = some y ∧ a.eval y = .int k i ∧ 0 ≤ i ∧ m = i.toNat := by
  unfold slB at h
  split at h
  · simp only [Option.some.injEq, Prod.mk.injEq] at h; exact .inl ⟨rfl, h.1.symm⟩
  · rename_i y
    split at h
    · rename_i k i hy
      simp only [Option.some.injEq, Prod.mk.injEq] at h
      obtain ⟨rfl, rfl⟩ := h
      exact .inr ⟨y, k, i, rfl, opd_ok hs hc hy, hn _ (List.mem_cons_self ..), rfl⟩
    · cases h

theorem run_sliceBound {x : Value} {y : Nat} {code : BoundsCode} {k : IntKind} {i : Int} {w : World} (hx : x = .int k i) (h0 : 0 ≤ i) (h1 : i.toNat ≤ y) : (Instr.sliceBound x y code).run P w = .ok i.toNat w := by
  subst hx
  have : 0 ≤ i ∧ i ≤ y := ⟨h0, by omega⟩
  simp [Instr.sliceBound, asIntOf, this]

theorem run_sliceBounds (hs : St n D Γ a) (hc : Holds a.tmps ch) {isSlice : Bool} {len cap l h : Nat} {lo hi : Option Operand} {n1 n2 : List Prop} {w : World}
    (hl : slB Γ ch lo 0 = some (l, n1)) (hh : slB Γ ch hi len = some (h, n2)) (hn1 : ∀ p ∈ n1, p) (hn2 : ∀ p ∈ n2, p) (h1 : l ≤ h) (h2 : h ≤ cap) :
    (Instr.sliceBounds isSlice len cap (lo.map a.eval) (hi.map a.eval) none).run P w = .ok (l, h, cap) w := by
  rcases slB_ok hs hc hl hn1 with ⟨rfl, rfl⟩ | ⟨y, k, i, rfl, hy, hi0, rfl⟩ <;> rcases slB_ok hs hc hh hn2 with ⟨rfl, rfl⟩ | ⟨y', k', i', rfl, hy', hi0', rfl⟩
  · simp [Instr.sliceBounds]
  · simp [Instr.sliceBounds, run_sliceBound hy' hi0' h2]
  · simp [Instr.sliceBounds, run_sliceBound hy hi0 h1]
  · simp [Instr.sliceBounds, run_sliceBound hy' hi0' h2, run_sliceBound hy hi0 h1]

theorem addr_if (b off l m cap : Nat) : (if cap = l then (⟨b, off, none⟩ : Addr) else Addr.add ⟨b, off, none⟩ m) = ⟨b, if cap = l then off else off + m, none⟩ := by
  split <;> simp [add_none]

theorem run_equal_bool {ty : TypeId} {x y : Bool} {w : World} (hu : P.underlying ty = some .bool) : (Op.equal ty (.bool x) (.bool y)).run P w = .ok (x == y) w := by
  show (Op.equalIn (9999 + 1) ty _ _).run P w = _
  rw [Op.equalIn]
  simp only [Sem.run_bind, run_underlying' hu, Result.andThen_ok, Sem.run_pure]

theorem run_equal_nil {ty e : TypeId} {x : Option Addr} {w : World} (hu : P.underlying ty = some (.pointer e)) : (Op.equal ty (.pointer x) (.pointer none)).run P w = .ok x.isNone w := by
  show (Op.equalIn (9999 + 1) ty _ _).run P w = _
  rw [Op.equalIn]
  cases x <;> simp only [Sem.run_bind, run_underlying' hu, Result.andThen_ok, Sem.run_pure, Option.isNone]

theorem run_bin_eql {op : BinOp} {ty : TypeId} {x y : Value} {w : World} {b : Bool} (hop : op = .eql ∨ op = .neq) (hx : (∃ c, x = .bool c) ∨ (∃ p, x = .pointer p) ∨ ∃ cs, x = .agg cs) (h : (Op.equal ty x y).run P w = .ok b w) :
    (binOp op ty x y).run P w = .ok (.bool (if op = .eql then b else !b)) w := by
  rcases hop with rfl | rfl <;> rcases hx with ⟨c, rfl⟩ | ⟨p, rfl⟩ | ⟨cs, rfl⟩ <;> simp only [binOp, Sem.run_bind, h, Result.andThen_ok, Sem.run_pure, if_true] <;> rfl

theorem eqGuard_slice (op : BinOp) (t : TypeId) (x y : Operand) (p : Option Addr) (n c : Nat) (v : Value) : eqGuard op t x y (.slice p n c) v = pure () := by cases op <;> rfl

theorem run_equal_snil {ty e : TypeId} {x : Option Addr} {n c n2 c2 : Nat} {w : World} (hu : P.underlying ty = some (.slice e)) : (Op.equal ty (.slice x n c) (.slice none n2 c2)).run P w = .ok x.isNone w := by
  show (Op.equalIn (9999 + 1) ty _ _).run P w = _
  rw [Op.equalIn]
  cases x <;> simp only [Sem.run_bind, run_underlying' hu, Result.andThen_ok, Sem.run_pure, Option.isNone]

theorem run_bin_sl {op : BinOp} {ty : TypeId} {p : Option Addr} {n1 c1 n2 c2 : Nat} {w : World} {b : Bool} (hop : op = .eql ∨ op = .neq) (h : (Op.equal ty (.slice p n1 c1) (.slice none n2 c2)).run P w = .ok b w) :
    (binOp op ty (.slice p n1 c1) (.slice none n2 c2)).run P w = .ok (.bool (if op = .eql then b else !b)) w := by
  rcases hop with rfl | rfl <;> simp only [binOp, Sem.run_bind, h, Result.andThen_ok, Sem.run_pure, if_true] <;> rfl

theorem partsV_ok (hs : St n D Γ a) (hc : Holds a.tmps ch) : ∀ {l : List (Nat × Operand)} {vs : List (Nat × Value)}, partsV Γ ch l = some vs → l.map (fun p => (p.1, a.eval p.2)) = vs
  | [], vs, h => by simp only [partsV, Option.some.injEq] at h; rw [← h]; rfl
  | p :: l, vs, h => by
    unfold partsV at h
    split at h
    · rename_i v us h1 h2
      simp only [Option.some.injEq] at h
      rw [← h, List.map_cons, opd_ok hs hc h1, partsV_ok hs hc h2]
    · cases h

theorem opdL_ok (hs : St n D Γ a) (hc : Holds a.tmps ch) : ∀ {l : List Operand} {vs : List Value}, opdL Γ ch l = some vs → l.map a.eval = vs
  | [], vs, h => by simp only [opdL, Option.some.injEq] at h; rw [← h]; rfl
  | x :: l, vs, h => by
    unfold opdL at h
    split at h
    · rename_i v us h1 h2
      simp only [Option.some.injEq] at h
      rw [← h, List.map_cons, opd_ok hs hc h1, opdL_ok hs hc h2]
    · cases h

theorem run_v {s : Sem Value} {v : Value} {w w' : World} (h : s.run P w = .ok v w') : (do pure (Next.value (← s)) : Sem Next).run P w = .ok (.value v) w' := by
  simp [h]

set_option maxHeartbeats 1000000 in
theorem evOp_ok {o : Oper} {raw : Bool} {orc : Option Value} {v : Value} {nd : List Prop} (hs : St n D Γ a) (hc : Holds a.tmps ch)
    (he : evOp P S Γ ch o raw orc = some (v, nd)) (hn : ∀ p ∈ nd, p) (hsel : ∀ cs b, o.op ≠ .select cs b) : Yl P S a.eval o v := by
  intro w hw
  have hO : ∀ {x : Operand} {u : Value}, opd Γ ch x = some u → a.eval x = u := fun h => opd_ok hs hc h
  unfold evOp at he
  split at he
  · -- raw
    rename_i u
    cases hb : o.op.operands.all (fun x => (opd Γ ch x).isSome) with
    | false => simp [hb] at he
    | true =>
      simp only [hb, cond_true, Option.some.injEq, Prod.mk.injEq] at he
      obtain ⟨rfl, rfl⟩ := he
      have h1 := hn _ (List.mem_cons_self ..) w hw
      rw [execOp_congr (ρ' := a.eval) o hsel (fun x hx => ?_)] at h1
      · exact h1
      · have := Array.all_eq_true_iff_forall_mem.1 hb x hx
        obtain ⟨y, hy⟩ := Option.isSome_iff_exists.1 this
        rw [hy, hO hy]; rfl
  · cases he
  · obtain ⟨dst, op, ty, pos, after, guard⟩ := o
    dsimp only at he
    split at he
    · -- move
      rename_i x hx
      simp only [Option.map_eq_some_iff, Prod.mk.injEq] at he
      obtain ⟨y, hy, rfl, rfl⟩ := he
      simp [execOp, hO hy]
    · rename_i x hx
      simp only [Option.map_eq_some_iff, Prod.mk.injEq] at he
      obtain ⟨y, hy, rfl, rfl⟩ := he
      simp [execOp, hO hy]
    · -- pick
      rename_i t x y
      split at he
      · rename_i c va vb h1 h2 h3
        simp only [Option.some.injEq, Prod.mk.injEq] at he
        obtain ⟨rfl, rfl⟩ := he
        have hl : a.eval (.tmp t) = .bool c := look_ok hs hc h1
        have hl' : a.tmps.getD t undef = .bool c := hl
        cases c with
        | true =>
          rw [pkV_true x y va vb (fun b hb => by subst hb; simpa [opd] using h2.symm)]
          simp [execOp, hl, asBool, opd_ok hs (hc.cons hl') h2]
        | false =>
          rw [pkV_false x y va vb (fun b hb => by subst hb; simpa [opd] using h3.symm)]
          simp [execOp, hl, asBool, opd_ok hs (hc.cons hl') h3]
      · cases he
    · -- binOp
      rename_i bop bty x y yty
      split at he
      · rename_i k u k' u' h1 h2
        split at he
        · simp only [Option.some.injEq, Prod.mk.injEq] at he
          obtain ⟨rfl, rfl⟩ := he
          obtain ⟨hb0, hb1⟩ := hn _ (List.mem_append_left _ (List.mem_cons_self ..))
          have hm : min u'.toNat k.bits = u'.toNat := Nat.min_eq_left hb1
          have hnv := nv_ok (k := k) (n := u * ((2 ^ u'.toNat : Nat) : Int)) (fun p hp => hn p (List.mem_append_right _ hp))
          rw [← hnv]
          simp [execOp, hO h1, hO h2, binOp, Op.shift, show ¬ u' < 0 by omega, hm, eqGuard]
        · simp only [Option.some.injEq, Prod.mk.injEq] at he
          obtain ⟨rfl, rfl⟩ := he
          obtain ⟨hb0, hb1⟩ := hn _ (List.mem_cons_self ..)
          have hm : min u'.toNat k.bits = u'.toNat := Nat.min_eq_left hb1
          have hf : u.fdiv (2 ^ u'.toNat) = u / ((2 ^ u'.toNat : Nat) : Int) := by
            rw [Int.fdiv_eq_ediv_of_nonneg _ (Int.le_of_lt (Int.pow_pos (by decide)))]; simp
          simp [execOp, hO h1, hO h2, binOp, Op.shift, show ¬ u' < 0 by omega, hm, eqGuard, hf]
        · rename_i hne1 hne2
          by_cases hk : k = k'
          · subst hk
            simp only [decide_true, cond_true] at he
            have := run_binI (P := P) (w := w) (ty := bty) he hn
            simp [execOp, hO h1, hO h2, this, eqGuard_at_int]
          · simp [hk] at he
      · rename_i s s' h1 h2
        have := run_binS (P := P) (w := w) (ty := bty) he hn
        simp [execOp, hO h1, hO h2, this, eqGuard_at_string]
      · rename_i u u' h1 h2
        split at he
        · rename_i hu
          simp only [Option.some.injEq, Prod.mk.injEq] at he
          obtain ⟨rfl, rfl⟩ := he
          have := run_bin_eql (w := w) (.inl rfl) (.inl ⟨_, rfl⟩) (run_equal_bool (x := u) (y := u') (w := w) hu)
          simp only [execOp, hO h1, hO h2, eqGuard_at_bool, Sem.run_bind, Sem.run_pure, Result.andThen_ok, this]; rfl
        · rename_i hu
          simp only [Option.some.injEq, Prod.mk.injEq] at he
          obtain ⟨rfl, rfl⟩ := he
          have := run_bin_eql (w := w) (.inr rfl) (.inl ⟨_, rfl⟩) (run_equal_bool (x := u) (y := u') (w := w) hu)
          simp only [execOp, hO h1, hO h2, eqGuard_at_bool, Sem.run_bind, Sem.run_pure, Result.andThen_ok, this]; rfl
        · cases he
      · rename_i u h1 h2
        split at he
        · rename_i hu
          simp only [Option.some.injEq, Prod.mk.injEq] at he
          obtain ⟨rfl, rfl⟩ := he
          have := run_bin_eql (w := w) (.inl rfl) (.inr (.inl ⟨_, rfl⟩)) (run_equal_nil (x := u) (w := w) hu)
          simp only [execOp, hO h1, hO h2, eqGuard_at_pointer, Sem.run_bind, Sem.run_pure, Result.andThen_ok, this]; rfl
        · rename_i hu
          simp only [Option.some.injEq, Prod.mk.injEq] at he
          obtain ⟨rfl, rfl⟩ := he
          have := run_bin_eql (w := w) (.inr rfl) (.inr (.inl ⟨_, rfl⟩)) (run_equal_nil (x := u) (w := w) hu)
          simp only [execOp, hO h1, hO h2, eqGuard_at_pointer, Sem.run_bind, Sem.run_pure, Result.andThen_ok, this]; rfl
        · cases he
      · rename_i u n1 c1 n2 c2 h1 h2
        split at he
        · rename_i hu
          simp only [Option.some.injEq, Prod.mk.injEq] at he
          obtain ⟨rfl, rfl⟩ := he
          have := run_bin_sl (P := P) (w := w) (.inl rfl) (n1 := n1) (c1 := c1) (n2 := n2) (c2 := c2) (run_equal_snil (x := u) (w := w) hu)
          simp only [execOp, hO h1, hO h2, eqGuard_slice, Sem.run_bind, Sem.run_pure, Result.andThen_ok, this]; rfl
        · rename_i hu
          simp only [Option.some.injEq, Prod.mk.injEq] at he
          obtain ⟨rfl, rfl⟩ := he
          have := run_bin_sl (P := P) (w := w) (.inr rfl) (n1 := n1) (c1 := c1) (n2 := n2) (c2 := c2) (run_equal_snil (x := u) (w := w) hu)
          simp only [execOp, hO h1, hO h2, eqGuard_slice, Sem.run_bind, Sem.run_pure, Result.andThen_ok, this]; rfl
        · cases he
      · rename_i xs ys h1 h2
        cases hgd : P.eqGuardType P.depth bty with
        | true => simp [hgd] at he
        | false =>
          simp only [hgd, cond_false] at he
          split at he
          · rename_i u
            simp only [Option.some.injEq, Prod.mk.injEq] at he
            obtain ⟨rfl, rfl⟩ := he
            have h3 := hn _ (List.mem_cons_self ..) w hw
            have := run_bin_eql (w := w) (.inl rfl) (.inr (.inr ⟨_, rfl⟩)) h3
            simp only [execOp, hO h1, hO h2, Sem.run_bind, run_eqGuard_agg (P := P) w _ bty x y xs ys hgd, Result.andThen_ok, this, Sem.run_pure]; rfl
          · rename_i u
            simp only [Option.some.injEq, Prod.mk.injEq] at he
            obtain ⟨rfl, rfl⟩ := he
            have h3 := hn _ (List.mem_cons_self ..) w hw
            have := run_bin_eql (w := w) (.inr rfl) (.inr (.inr ⟨_, rfl⟩)) h3
            simp only [execOp, hO h1, hO h2, Sem.run_bind, run_eqGuard_agg (P := P) w _ bty x y xs ys hgd, Result.andThen_ok, this, Sem.run_pure]; rfl
          · cases he
      · cases he
    · -- not
      split at he
      · rename_i b h1
        simp only [Option.some.injEq, Prod.mk.injEq] at he
        obtain ⟨rfl, rfl⟩ := he
        simp [execOp, hO h1, Op.unary]
      · cases he
    · -- neg
      split at he
      · rename_i k m h1
        simp only [Option.some.injEq] at he
        have := run_nv he hn
        simp [execOp, hO h1, Op.unary, Op.intArith] at *
        exact this
      · cases he
    · -- complement
      split at he
      · rename_i k m h1
        cases hk : sg k with
        | true => simp [hk] at he
        | false =>
          simp only [hk, cond_false] at he
          have := run_binI (P := P) (w := w) (ty := 0) he hn
          have h2 : k.signed = false := by cases k <;> first | rfl | cases hk
          have h3 : k.max = hi k := by cases k <;> first | rfl | cases hk
          have h4 : (Op.unary .xor (.int k m)).run P w = (binOp .xor 0 (.int k (hi k)) (.int k m)).run P w := by
            rw [← h3]; simp [Op.unary, h2, binOp]
          simp [execOp, hO h1, h4, this]
      · cases he
    · -- convert
      rename_i src dst x
      split at he
      · rename_i d0 k' k m h0 h1 h2
        simp only [Option.some.injEq] at he
        have hw' : Value.int k' (k'.wrap m) = v := by
          unfold cvt at he
          cases hb : (sg k' || (!(sg k) && decide (hi k ≤ hi k'))) with
          | true =>
            simp only [hb, cond_true, Prod.mk.injEq] at he
            obtain ⟨rfl, rfl⟩ := he
            rw [wrap_in (hn _ (List.mem_cons_self ..))]
          | false =>
            simp only [hb, cond_false, Prod.mk.injEq] at he
            obtain ⟨rfl, rfl⟩ := he
            simp only [Bool.or_eq_false_iff] at hb
            rw [wrap_un hb.1]
        simp [execOp, hO h2, convert, run_underlying' h0, run_underlying' h1, Conv.intToInt, hw']
      · rename_i e x' n' c' u h0 h1 h2
        split at he
        · rename_i h3
          simp only [Option.some.injEq, Prod.mk.injEq] at he
          obtain ⟨rfl, rfl⟩ := he
          have := hn _ (List.mem_cons_self ..) w hw
          simp [execOp, hO h2, run_convert_bytes_string w src dst e x' n' c' h0 h3 h1, this]
        · cases he
      · cases he
    · -- build
      rename_i t ps
      split at he
      · rename_i vs u h1
        simp only [Option.some.injEq, Prod.mk.injEq] at he
        obtain ⟨rfl, rfl⟩ := he
        have h2 := hn _ (List.mem_cons_self ..) w hw
        have h3 := partsV_ok hs hc h1
        have h4 : (ps.map fun x => match x with | (i, x) => (i, a.eval x)) = vs.toArray := by
          apply Array.ext'
          rw [← h3]; simp
        simp only [execOp]
        rw [h4]
        exact run_v h2
      · cases he
    · -- makeInterface
      rename_i t x
      split at he
      · rename_i u h1
        cases hc' : P.concrete t with
        | false => simp [hc'] at he
        | true =>
          simp only [hc', cond_true, Option.some.injEq, Prod.mk.injEq] at he
          obtain ⟨rfl, rfl⟩ := he
          simp [execOp, hO h1, run_makeInterface (h := hc')]
      · cases he
    · -- makeFunc
      rename_i f first caps
      split at he
      · rename_i x y h1 h2
        simp only [Option.some.injEq, Prod.mk.injEq] at he
        obtain ⟨rfl, rfl⟩ := he
        have e1 : first.map a.eval = x.toArray := by
          apply Array.ext'
          simpa using opdL_ok hs hc h1
        have e2 : caps.map a.eval = y.toArray := by
          apply Array.ext'
          simpa using opdL_ok hs hc h2
        simp [execOp, Instr.makeFunc, e1, e2]
      · cases he
    · -- extract
      rename_i t i
      split at he
      · rename_i vs h1
        simp only [Option.map_eq_some_iff, Prod.mk.injEq] at he
        obtain ⟨y, hy, rfl, rfl⟩ := he
        simp [execOp, hO h1, Instr.extract, hy]
      · cases he
    · -- nilCheck
      split at he
      · rename_i p h1
        simp only [Option.some.injEq, Prod.mk.injEq] at he
        obtain ⟨rfl, rfl⟩ := he
        simp [execOp, hO h1]
      · cases he
    · -- fieldAddr
      rename_i s x f
      split at he
      · rename_i fs b off h1 h2
        split at he
        · rename_i fl hf
          split at he
          · rename_i inf hinf
            cases hz : Nat.beq inf.size 0 with
            | true => simp [hz] at he
            | false =>
              simp only [hz, cond_false, Option.some.injEq, Prod.mk.injEq] at he
              obtain ⟨rfl, rfl⟩ := he
              have hz' : ¬ inf.size = 0 := fun hh => by rw [beq_iff.2 hh] at hz; cases hz
              simp [execOp, hO h2, Instr.fieldAt, run_underlying' h1, hf, Instr.sureAddr, fieldPlace, run_sizeOf' hinf, hz', add_none]
          · cases he
        · cases he
      · cases he
    · -- indexAddr
      rename_i ty' x ix
      split at he
      · rename_i e b off len cap k i h1 h2 h3
        simp only [Option.map_eq_some_iff, Prod.mk.injEq] at he
        obtain ⟨inf, hinf, rfl, rfl⟩ := he
        have hb := hn _ (List.mem_cons_self ..)
        simp [execOp, hO h2, hO h3, Instr.indexAt, asIntOf, run_underlying' h1, hb, run_sizeOf' hinf, add_none, addO_eq, mulS_eq]
      · rename_i len e b off k i h1 h2 h3
        simp only [Option.map_eq_some_iff, Prod.mk.injEq] at he
        obtain ⟨inf, hinf, rfl, rfl⟩ := he
        have hb := hn _ (List.mem_cons_self ..)
        simp [execOp, hO h2, hO h3, Instr.indexAt, asIntOf, run_underlying' h1, hb, run_sizeOf' hinf, add_none, addO_eq, mulS_eq, Instr.sureAddr]
      · cases he
    · -- load
      rename_i ty' x
      split at he
      · rename_i p u h1 
        cases hg : aggB P ty' with
        | true =>
          simp only [hg, cond_true, Option.some.injEq, Prod.mk.injEq] at he
          obtain ⟨rfl, rfl⟩ := he
          have := hn _ (List.mem_cons_self ..) w hw
          simp [execOp, hO h1, Instr.loadAt, Instr.sureAddr, this]
        | false =>
          simp only [hg, cond_false, Option.some.injEq, Prod.mk.injEq] at he
          obtain ⟨rfl, rfl⟩ := he
          have := hn _ (List.mem_cons_self ..) w hw
          simp [execOp, hO h1, Instr.loadAt, Instr.sureAddr, loadVar, run_isAgg' hg, load, Sem.run, this]
      · cases he
    · -- index
      rename_i ty' x ix
      split at he
      · rename_i s k i h1 h2 h3 
        simp only [Option.some.injEq, Prod.mk.injEq] at he
        obtain ⟨rfl, rfl⟩ := he
        obtain ⟨hb0, hb1⟩ := hn _ (List.mem_cons_self ..)
        have hlt : i.toNat < s.size := by omega
        have hg : s[i.toNat]? = some s[i.toNat] := getElem?_pos s i.toNat hlt
        have hv : s.data[i.toNat]?.getD 0 = s[i.toNat] := by
          have : s.data[i.toNat]? = some (s.data[i.toNat]'hlt) := getElem?_pos s.data i.toNat hlt
          rw [this]; rfl
        simp [execOp, hO h2, hO h3, Instr.index, asIntOf, run_underlying' h1, hb0, hg, sbyte, hv]
      · rename_i len e cs k i u h1 h2 h3
        split at he
        · rename_i inf hinf
          cases hg : (Nat.beq inf.size 1 && !(aggB P e)) with
          | false => simp [hg] at he
          | true =>
            simp only [hg, cond_true, Option.some.injEq, Prod.mk.injEq] at he
            obtain ⟨rfl, rfl⟩ := he
            have hb := hn _ (List.mem_cons_self ..)
            have hc' := hn _ (List.mem_cons_of_mem _ (List.mem_cons_self ..))
            simp only [Bool.and_eq_true, beq_iff, Bool.not_eq_true'] at hg
            simp [execOp, hO h2, hO h3, Instr.index, asIntOf, run_underlying' h1, hb, run_sizeOf' hinf, hg.1, part, run_isAgg' hg.2, hc']
        · cases he
      · cases he
    · -- slice
      rename_i ty' x l h
      split at he
      · rename_i s h1 h2
        split at he
        · rename_i l' n1 h' n2 hl hh
          simp only [Option.some.injEq, Prod.mk.injEq] at he
          obtain ⟨rfl, rfl⟩ := he
          obtain ⟨hb1, hb2⟩ := hn _ (List.mem_append_right _ (List.mem_cons_self ..))
          have := run_sliceBounds (P := P) (w := w) (isSlice := false) (cap := s.size) hs hc hl hh (fun p hp => hn p (List.mem_append_left _ (List.mem_append_left _ hp))) (fun p hp => hn p (List.mem_append_left _ (List.mem_append_right _ hp))) hb1 hb2
          simp [execOp, hO h2, Instr.sliceAt, Instr.slice, run_underlying' h1, this]
        · cases he
      · rename_i e b off len cap h1 h2
        split at he
        · rename_i h' n2 inf hh hinf
          split at he
          · simp only [Option.some.injEq, Prod.mk.injEq] at he
            obtain ⟨rfl, rfl⟩ := he
            have hb2 := hn _ (List.mem_append_right _ (List.mem_cons_self ..))
            have := run_sliceBounds (P := P) (w := w) (isSlice := true) (cap := cap) (lo := none) (l := 0) hs hc rfl hh (fun p hp => by cases hp) (fun p hp => hn p (List.mem_append_left _ hp)) (Nat.zero_le _) hb2
            simp at this
            simp [execOp, hO h2, Instr.sliceAt, Instr.slice, run_underlying' h1, this, run_sizeOf' hinf, Addr.add]
          · rename_i lx
            split at he
            · rename_i l' n1 hl
              simp only [Option.some.injEq, Prod.mk.injEq] at he
              obtain ⟨rfl, rfl⟩ := he
              obtain ⟨hb1, hb2⟩ := hn _ (List.mem_append_right _ (List.mem_cons_self ..))
              have := run_sliceBounds (P := P) (w := w) (isSlice := true) (cap := cap) hs hc hl hh (fun p hp => hn p (List.mem_append_left _ (List.mem_append_left _ hp))) (fun p hp => hn p (List.mem_append_left _ (List.mem_append_right _ hp))) hb1 hb2
              simp at this
              simp [execOp, hO h2, Instr.sliceAt, Instr.slice, run_underlying' h1, this, run_sizeOf' hinf, add_none, addO_eq, mulS_eq]
              split <;> rfl
            · cases he
        · cases he
      · rename_i len e b off h1 h2
        split at he
        · rename_i h' n2 inf hh hinf
          split at he
          · simp only [Option.some.injEq, Prod.mk.injEq] at he
            obtain ⟨rfl, rfl⟩ := he
            have hb2 := hn _ (List.mem_append_right _ (List.mem_cons_self ..))
            have := run_sliceBounds (P := P) (w := w) (isSlice := false) (cap := len) (lo := none) (l := 0) hs hc rfl hh (fun p hp => by cases hp) (fun p hp => hn p (List.mem_append_left _ hp)) (Nat.zero_le _) hb2
            simp at this
            simp [execOp, hO h2, Instr.sliceAt, Instr.sureAddr, run_underlying' h1, this, run_sizeOf' hinf, Addr.add]
          · rename_i lx
            split at he
            · rename_i l' n1 hl
              simp only [Option.some.injEq, Prod.mk.injEq] at he
              obtain ⟨rfl, rfl⟩ := he
              obtain ⟨hb1, hb2⟩ := hn _ (List.mem_append_right _ (List.mem_cons_self ..))
              have := run_sliceBounds (P := P) (w := w) (isSlice := false) (cap := len) hs hc hl hh (fun p hp => hn p (List.mem_append_left _ (List.mem_append_left _ hp))) (fun p hp => hn p (List.mem_append_left _ (List.mem_append_right _ hp))) hb1 hb2
              simp at this
              simp [execOp, hO h2, Instr.sliceAt, Instr.sureAddr, run_underlying' h1, this, run_sizeOf' hinf, add_none, addO_eq, mulS_eq]
              split <;> rfl
            · cases he
        · cases he
      · cases he
    · -- call
      rename_i c
      split at he
      · rename_i x ty'
        split at he
        · rename_i s h1 h2
          simp only [Option.some.injEq, Prod.mk.injEq] at he
          obtain ⟨rfl, rfl⟩ := he
          simp [execOp, resolve, invoke, builtin, Builtin.len_, hO h2, run_underlying' h1, goInt]
        · rename_i h1 h2
          simp only [Option.some.injEq, Prod.mk.injEq] at he
          obtain ⟨rfl, rfl⟩ := he
          simp [execOp, resolve, invoke, builtin, Builtin.len_, hO h2, run_underlying' h1, goInt]
        · cases he
      · rename_i x ty'
        split at he
        · rename_i h1 h2
          simp only [Option.some.injEq, Prod.mk.injEq] at he
          obtain ⟨rfl, rfl⟩ := he
          simp [execOp, resolve, invoke, builtin, Builtin.cap_, hO h2, run_underlying' h1, goInt]
        · cases he
      · cases he
    · cases he

end
end K
end Go.Proofs.YtoopekjbikcebaaDoor
