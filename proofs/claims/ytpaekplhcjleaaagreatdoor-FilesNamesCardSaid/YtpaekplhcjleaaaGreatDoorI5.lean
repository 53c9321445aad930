import Derived.Test.YtpaekplhcjleaaaGreatDoorI4
namespace Go.Proofs.YtpaekplhcjleaaaGreatDoor
namespace I
open K (one aggB run_underlying' run_sizeOf' add_none)
set_option linter.unusedVariables false

/-! ### Rows of cells -/
def RowRel (σ : Sg) (n : Nat) (t : AV) (cs : Array Value) : Prop :=
  cs.size = n ∧ (∀ (i : Nat) v, cs[i]? = some v → one v = true) ∧ ∀ (i : Nat) v, cs[i]? = some v → Rel σ (cget (lg n) t i) v

def rowA : AV → Option (Nat × AV)
  | .agg n t => some (n, t)
  | a => bif scalarA a then some (1, a) else none

section
variable {P : Program} {σ : Sg} {w : World}

theorem rowA_ok {a : AV} {v : Value} {m : Nat} {s : AV} (hr : Rel σ a v) (h : rowA a = some (m, s)) : RowRel σ m s v.cells := by
  cases a with
  | agg n t =>
    simp only [rowA, Option.some.injEq, Prod.mk.injEq] at h
    obtain ⟨rfl, rfl⟩ := h
    cases hr with
    | agg _ _ cs hn h1 h2 => exact ⟨hn, h1, h2⟩
  | _ =>
    all_goals
      simp only [rowA] at h
      cases hs : scalarA _ with
      | false => rw [hs] at h; simp at h
      | true =>
        rw [hs] at h
        simp only [cond_true, Option.some.injEq, Prod.mk.injEq] at h
        obtain ⟨rfl, rfl⟩ := h
        have h1 := hr.one hs
        have hc : v.cells = #[v] := by cases v <;> first | rfl | simp [one] at h1
        rw [hc]
        refine ⟨rfl, fun i u hu => ?_, fun i u hu => ?_⟩
        · cases i with
          | zero => simp at hu; rw [← hu]; exact h1
          | succ i => simp at hu
        · cases i with
          | zero => simp at hu; rw [← hu]; exact hr
          | succ i => simp at hu

/-! ### Constants -/
def scalarC : Value → AV
  | .bool b => .bool b
  | .int k n => .int k n
  | .string s => .str s.size (val s.data.toList)
  | .pointer none => .nilp
  | .slice none 0 0 => .nils
  | .map none => .nilm
  | .nilFunc => .nilf
  | .nilIface => .nili
  | _ => .bad

theorem scalarC_ok (σ : Sg) (v : Value) : Rel σ (scalarC v) v := by
  unfold scalarC
  split
  · exact .bool _
  · exact .int _ _
  · exact .str _ _ _ rfl rfl
  · exact .nilp
  · exact .nils
  · exact .nilm
  · exact .nilf
  · exact .nili
  · exact .bad _

def allSc : List Value → Option (List AV)
  | [] => some []
  | v :: l => bif scalarA (scalarC v) then (allSc l).map (scalarC v :: ·) else none

theorem allSc_ok : ∀ {l : List Value} {as : List AV}, allSc l = some as → as = l.map scalarC ∧ ∀ v ∈ l, scalarA (scalarC v) = true
  | [], as, h => by simp only [allSc, Option.some.injEq] at h; subst h; simp
  | v :: l, as, h => by
    unfold allSc at h
    cases hb : scalarA (scalarC v) with
    | false => simp [hb] at h
    | true =>
      simp only [hb, cond_true, Option.map_eq_some_iff] at h
      obtain ⟨as', h1, rfl⟩ := h
      obtain ⟨rfl, h2⟩ := allSc_ok h1
      refine ⟨rfl, fun u hu => ?_⟩
      rcases List.mem_cons.1 hu with rfl | hu
      · exact hb
      · exact h2 u hu

def kn : IntKind → Nat
  | .i8 => 0 | .i16 => 1 | .i32 => 2 | .i64 => 3 | .u8 => 4 | .u16 => 5 | .u32 => 6 | .u64 => 7
theorem kn_inj {k k' : IntKind} (h : Nat.beq (kn k) (kn k') = true) : k = k' := by
  have := beqn_iff.1 h
  cases k <;> cases k' <;> first | rfl | simp [kn] at this

def allI (k : IntKind) (n : Int) : List AV → Bool
  | [] => true
  | .int k' n' :: l => Nat.beq (kn k') (kn k) && ieq n' n && allI k n l
  | _ => false

theorem allI_ok {k : IntKind} {n : Int} : ∀ {l : List AV}, allI k n l = true → ∀ a ∈ l, a = .int k n
  | [], _, a, ha => by cases ha
  | x :: l, h, a, ha => by
    unfold allI at h
    split at h
    · rename_i heq; cases heq
    · rename_i k' n' l' heq
      simp only [List.cons.injEq] at heq
      obtain ⟨rfl, rfl⟩ := heq
      simp only [Bool.and_eq_true] at h
      obtain ⟨⟨h1, h2⟩, h3⟩ := h
      have := kn_inj h1
      subst this
      rw [ieq_eq] at h2
      have := of_decide_eq_true h2
      subst this
      rcases List.mem_cons.1 ha with rfl | ha
      · rfl
      · exact allI_ok h3 a ha
    · cases h

def treeOf (n : Nat) (l : List AV) : AV :=
  match l with
  | .int k m :: l' => bif allI k m l' then unid (lg n) (.int k m) else cmk (fun i => l.getD i .undef) (lg n) 0 n
  | l => cmk (fun i => l.getD i .undef) (lg n) 0 n

theorem treeOf_get {n : Nat} {l : List AV} (hl : l.length = n) {i : Nat} (hi : i < n) : cget (lg n) (treeOf n l) i = l.getD i .undef := by
  unfold treeOf
  split
  · rename_i k m l'
    cases hb : allI k m l' with
    | true =>
      simp only [cond_true, cget_unid]
      have h1 : i < (AV.int k m :: l').length := by omega
      rw [List.getD_eq_getElem?_getD, List.getElem?_eq_getElem h1, Option.getD_some]
      rcases List.mem_cons.1 (List.getElem_mem h1) with h | h
      · exact h.symm
      · exact (allI_ok hb _ h).symm
    | false => simp only [cond_false]; rw [cget_cmk _ _ _ _ _ (lg_le n) hi, Nat.zero_add]
  · rw [cget_cmk _ _ _ _ _ (lg_le n) hi, Nat.zero_add]

def ofConst : Value → AV
  | .agg cs => match allSc cs.toList with
    | some l => .agg cs.size (treeOf cs.size l)
    | none => .bad
  | v => scalarC v

theorem ofConst_ok (σ : Sg) (v : Value) : Rel σ (ofConst v) v := by
  unfold ofConst
  split
  · rename_i cs
    split
    · rename_i l hl
      obtain ⟨rfl, h2⟩ := allSc_ok hl
      have hlen : (cs.toList.map scalarC).length = cs.size := by simp
      refine .agg _ _ _ rfl (fun i v hv => ?_) (fun i v hv => ?_)
      · have hm : v ∈ cs.toList := by rw [Array.mem_toList_iff]; exact Array.mem_of_getElem? hv
        exact (scalarC_ok σ v).one (h2 v hm)
      · have hi : i < cs.size := by
          rcases Nat.lt_or_ge i cs.size with h | h
          · exact h
          · rw [Array.getElem?_eq_none h] at hv; cases hv
        rw [treeOf_get hlen hi, List.getD_eq_getElem?_getD, List.getElem?_map]
        have : cs.toList[i]? = some v := by simpa using hv
        rw [this]
        exact scalarC_ok σ v
    · exact .bad _
  · exact scalarC_ok σ _

def zeroA (P : Program) (t : TypeId) : AV :=
  match (P.info? t).bind (·.zero) with
  | some v => ofConst v
  | none => .bad

theorem run_zeroValue {t : TypeId} {z : Value} (h : (P.info? t).bind (·.zero) = some z) : (zeroValue t).run P w = .ok z w := by
  obtain ⟨inf, hi, hz⟩ := Option.bind_eq_some_iff.1 h
  simp [zeroValue, typeInfo, program, Sem.run, hi, hz]

theorem zeroA_ok {t : TypeId} {a : AV} (h : zeroA P t = a) (hb : a ≠ .bad) (σ : Sg) : ∃ z, (P.info? t).bind (·.zero) = some z ∧ Rel σ a z := by
  unfold zeroA at h
  split at h
  · rename_i z hz
    exact ⟨z, hz, h ▸ ofConst_ok σ z⟩
  · exact absurd h.symm hb

/-! ### Parts laid into a row -/
theorem zip_set {vs : List Value} : ∀ (k off : Nat) (cs : Array Value), ((vs.zipIdx k).foldl (fun (cs : Array Value) (p : Value × Nat) => cs.setIfInBounds (off + p.2) p.1) cs).size = cs.size ∧
    ∀ j, off + k + vs.length ≤ cs.size → ((vs.zipIdx k).foldl (fun (cs : Array Value) (p : Value × Nat) => cs.setIfInBounds (off + p.2) p.1) cs)[j]? = if off + k ≤ j ∧ j < off + k + vs.length then vs[j - (off + k)]? else cs[j]? := by
  induction vs with
  | nil => intro k off cs; refine ⟨rfl, fun j _ => ?_⟩; rw [if_neg (by simp)]; rfl
  | cons v vs ih =>
    intro k off cs
    simp only [List.zipIdx_cons, List.foldl_cons]
    obtain ⟨h1, h2⟩ := ih (k + 1) off (cs.setIfInBounds (off + k) v)
    refine ⟨by rw [h1]; simp, fun j hj => ?_⟩
    simp only [List.length_cons] at hj
    rw [h2 j (by simp; omega)]
    by_cases hjk : j = off + k
    · subst hjk
      rw [if_neg (by omega), if_pos (by simp), Array.getElem?_setIfInBounds]
      simp; omega
    · by_cases hin : off + (k + 1) ≤ j ∧ j < off + (k + 1) + vs.length
      · rw [if_pos hin, if_pos (by simp; omega), show j - (off + k) = (j - (off + (k + 1))) + 1 by omega, List.getElem?_cons_succ]
      · rw [if_neg hin, if_neg (by simp; omega), Array.getElem?_setIfInBounds, if_neg (by omega)]

def fillA (place : Nat → Option (Nat × Nat)) (n : Nat) : List (Nat × AV) → AV → Option AV
  | [], t => some t
  | (i, v) :: l, t => match place i, rowA v with
    | some (off, size), some (m, s) => bif Nat.beq m size && Nat.ble (off + m) n then fillA place n l (cblit (lg n) t off m s) else none
    | _, _ => none

theorem RowRel.blit {n m off : Nat} {t s : AV} {cs vs : Array Value} (h : RowRel σ n t cs) (hv : RowRel σ m s vs) (ho : off + m ≤ n) :
    RowRel σ n (cblit (lg n) t off m s) (vs.zipIdx.foldl (fun cs (x : Value × Nat) => cs.setIfInBounds (off + x.2) x.1) cs) := by
  have e : vs.zipIdx.foldl (fun (cs : Array Value) (x : Value × Nat) => cs.setIfInBounds (off + x.2) x.1) cs = (vs.toList.zipIdx 0).foldl (fun (cs : Array Value) (x : Value × Nat) => cs.setIfInBounds (off + x.2) x.1) cs := by
    rw [← Array.foldl_toList, Array.toList_zipIdx]
  rw [e]
  obtain ⟨h1, h2⟩ := zip_set (vs := vs.toList) 0 off cs
  have hlen : vs.toList.length = m := by simpa using hv.1
  have hb : off + 0 + vs.toList.length ≤ cs.size := by rw [hlen, h.1]; omega
  have hn := lg_le n
  refine ⟨h1.trans h.1, fun i v hi => ?_, fun i v hi => ?_⟩
  · rw [h2 i hb] at hi
    split at hi
    · exact hv.2.1 (i - (off + 0)) v (by simpa using hi)
    · exact h.2.1 i v hi
  · have hlt : i < n := by
      have := (Array.getElem?_eq_some_iff.1 hi).1
      rw [h1, h.1] at this; exact this
    rw [h2 i hb, hlen] at hi
    rw [cget_cblit (by omega) (by omega)]
    simp only [Nat.add_zero] at hi
    split at hi
    · rename_i hc
      rw [if_pos hc]
      exact hv.2.2 (i - off) v (by simpa using hi)
    · rename_i hc
      rw [if_neg hc]
      exact h.2.2 i v hi

theorem fillA_ok {place : Nat → Option (Nat × Nat)} {n : Nat} : ∀ {ps : List (Nat × AV)} {vs : List (Nat × Value)} {t t' : AV} {cs : Array Value}, (ps.length = vs.length) →
    (∀ (i : Nat) p q, ps[i]? = some p → vs[i]? = some q → p.1 = q.1 ∧ Rel σ p.2 q.2) → RowRel σ n t cs → fillA place n ps t = some t' → ∃ cs', Instr.fill place cs vs = some cs' ∧ RowRel σ n t' cs'
  | [], [], t, t', cs, _, _, hr, h => by
    simp only [fillA, Option.some.injEq] at h
    subst h
    exact ⟨cs, rfl, hr⟩
  | (i, a) :: ps, (j, v) :: vs, t, t', cs, hl, hp, hr, h => by
    obtain ⟨hij, hav⟩ := hp 0 (i, a) (j, v) rfl rfl
    simp only at hij hav
    subst hij
    unfold fillA at h
    split at h
    · rename_i off size m s h1 h2
      cases hb : (Nat.beq m size && Nat.ble (off + m) n) with
      | false => simp [hb] at h
      | true =>
        simp only [hb, cond_true] at h
        simp only [Bool.and_eq_true] at hb
        have e1 := beqn_iff.1 hb.1
        have e2 := ble_iff.1 hb.2
        have hrow := rowA_ok hav h2
        obtain ⟨cs', h3, h4⟩ := fillA_ok (place := place) (vs := vs) (by simpa using hl) (fun k p q hk hk' => hp (k + 1) p q (by simpa using hk) (by simpa using hk')) (hr.blit hrow e2) h
        refine ⟨cs', ?_, h4⟩
        unfold Instr.fill
        simp only [h1]
        have c1 : ¬ (v.cells.size ≠ size) := by rw [hrow.1]; omega
        have c2 : ¬ (off + v.cells.size > cs.size) := by rw [hrow.1, hr.1]; omega
        simp only [c1, c2, decide_false, Bool.or_self, Bool.false_eq_true, if_false]
        exact h3
    · cases h
  | [], _ :: _, _, _, _, hl, _, _, _ => by simp at hl
  | _ :: _, [], _, _, _, hl, _, _, _ => by simp at hl

end
end I
end Go.Proofs.YtpaekplhcjleaaaGreatDoor
