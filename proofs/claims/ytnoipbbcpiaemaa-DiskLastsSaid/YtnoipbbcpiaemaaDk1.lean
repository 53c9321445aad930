/- disk: what a disk is, and how it lies. -/
import Derived.Test.YtnoipbbcpiaemaaChecked
import Derived.Test.YtnoipbbcpiaemaaK22
import Derived.Test.YtnoipbbcpiaemaaOpen3
namespace Go.Proofs.Ytnoipbbcpiaemaa
open K
set_option linter.unusedVariables false

def zb : List UInt8 := List.replicate 512 0
theorem zb_len : zb.length = 512 := List.length_replicate
abbrev Wt := List (Int × List UInt8)
/-- What waits, as a map's content. -/
def wv2 (W : Wt) : List (Int × Value) := W.map fun p => (p.1, Value.agg (bv p.2))
def wget (W : Wt) (k : Int) : Option (List UInt8) := match W with
  | [] => none
  | p :: W => if k = p.1 then some p.2 else wget W k
def wset (W : Wt) (k : Int) (v : List UInt8) : Wt := match W with
  | [] => [(k, v)]
  | p :: W => if k = p.1 then (k, v) :: W else p :: wset W k v
def keysW (W : Wt) : List Int := srt ((wv2 W).map (·.1))
theorem keysW_len (W : Wt) : (keysW W).length = W.length := by unfold keysW; rw [srt_len, List.length_map]; unfold wv2; rw [List.length_map]
theorem mget_wv (k : Int) : ∀ W : Wt, mget (wv2 W) k = (wget W k).map fun b => Value.agg (bv b)
  | [] => rfl
  | p :: W => by
    show (if k = p.1 then some (Value.agg (bv p.2)) else mget (wv2 W) k) = _
    unfold wget
    split
    · rfl
    · exact mget_wv k W
theorem mset_wv (k : Int) (b : List UInt8) : ∀ W : Wt, mset (wv2 W) k (.agg (bv b)) = wv2 (wset W k b)
  | [] => rfl
  | p :: W => by
    show (if k = p.1 then (k, Value.agg (bv b)) :: wv2 W else (p.1, Value.agg (bv p.2)) :: mset (wv2 W) k (.agg (bv b))) = _
    unfold wset
    split
    · rfl
    · rw [mset_wv k b W]; rfl
theorem wget_set (W : Wt) (k : Int) (v : List UInt8) (j : Int) : wget (wset W k v) j = if j = k then some v else wget W j := by
  induction W with
  | nil => simp [wset, wget]
  | cons p W ih =>
    unfold wset
    by_cases h : k = p.1
    · rw [if_pos h]
      unfold wget
      by_cases hj : j = k
      · rw [if_pos hj, if_pos hj]
      · simp only [if_neg hj]
        rw [if_neg (show ¬ j = p.1 from fun e => hj (by rw [e, h]))]
    · rw [if_neg h]
      unfold wget
      by_cases hj : j = p.1
      · rw [if_pos hj, if_neg (fun e => h (by rw [← e, hj])), if_pos hj]
      · rw [if_neg hj, if_neg hj, ih]
theorem wset_mem {W : Wt} {k : Int} {v : List UInt8} : ∀ p ∈ wset W k v, p = (k, v) ∨ p ∈ W := by
  induction W with
  | nil => intro p hp; exact .inl (List.mem_singleton.1 hp)
  | cons q W ih =>
    intro p hp
    unfold wset at hp
    split at hp
    · rcases List.mem_cons.1 hp with rfl | hp
      · exact .inl rfl
      · exact .inr (List.mem_cons_of_mem _ hp)
    · rcases List.mem_cons.1 hp with rfl | hp
      · exact .inr (List.mem_cons_self ..)
      · rcases ih p hp with h | h
        · exact .inl h
        · exact .inr (List.mem_cons_of_mem _ h)
theorem wset_len (W : Wt) (k : Int) (v : List UInt8) : (wset W k v).length ≤ W.length + 1 := by
  induction W with
  | nil => exact Nat.le_refl _
  | cons q W ih =>
    unfold wset
    split
    · simp
    · simp only [List.length_cons]; omega
theorem wget_mem {k : Int} {b : List UInt8} : ∀ {W : Wt}, wget W k = some b → (k, b) ∈ W
  | [], h => by cases h
  | p :: W, h => by
    unfold wget at h
    split at h
    · rename_i hk
      rw [← Option.some.inj h, hk]; exact List.mem_cons_self ..
    · exact List.mem_cons_of_mem _ (wget_mem h)
/-- A disk. -/
structure DK where
  fuse : Int
  steps : Int
  down : Bool
  last : List (List UInt8)
  wait : Wt
/-- Where it lies. -/
structure DM where
  d : Nat
  lb : Nat
  mb : Nat
abbrev MX := Array MapEntry × Nat
def rows (l : List (List UInt8)) : List Value := l.flatMap fun b => (bv b).toList
def dC (D : DK) (m : DM) : Array Value := #[.int .i64 D.fuse, .int .i64 D.steps, .bool D.down, .slice (some ⟨m.lb, 0, none⟩) D.last.length D.last.length, .map (some m.mb)]
def dO (D : DK) (m : DM) (x : MX) : List (Nat × Obj) := [(m.d, .cells (dC D m) 60 (0, 0)), (m.lb, .cells (rows D.last).toArray 33 (0, 0)), (m.mb, .map x.1 x.2)]
def W5 (l : List (List UInt8)) : Prop := ∀ b ∈ l, b.length = 512
/-- What is always so of a disk. -/
structure DG (D : DK) : Prop where
  w : W5 D.last
  ww : ∀ p ∈ D.wait, p.2.length = 512
  k : ∀ p ∈ D.wait, 0 ≤ p.1 ∧ p.1 < (D.last.length : Int)
  n : D.last.length ≤ 4096
  nd : (D.wait.map (·.1)).Nodup
  f : -1 ≤ D.fuse ∧ D.fuse ≤ 9223372036854775807
theorem nodup_len : ∀ (n : Nat) (l : List Int), l.Nodup → (∀ x ∈ l, 0 ≤ x ∧ x < (n : Int)) → l.length ≤ n
  | 0, l, _, h => by
    cases l with
    | nil => exact Nat.le_refl _
    | cons a l => have := h a (List.mem_cons_self ..); omega
  | n + 1, l, hd, h => by
    by_cases hm : (n : Int) ∈ l
    · have h1 := nodup_len n (l.erase n) (hd.erase _) (fun x hx => by
        have h2 := h x (List.mem_of_mem_erase hx)
        have h3 := (hd.mem_erase_iff.1 hx).1
        omega)
      rw [List.length_erase_of_mem hm] at h1
      omega
    · have h1 := nodup_len n l hd (fun x hx => by
        have h2 := h x hx
        have h3 : x ≠ (n : Int) := fun e => hm (e ▸ hx)
        omega)
      omega
theorem DG.wn {D : DK} (h : DG D) : D.wait.length ≤ D.last.length := by
  have h1 := nodup_len D.last.length _ h.nd (fun x hx => by
    obtain ⟨p, hp, rfl⟩ := List.mem_map.1 hx
    exact h.k p hp)
  rw [List.length_map] at h1; exact h1
theorem DG.wl {D : DK} (h : DG D) : D.wait.length ≤ 1000000 := by have := h.wn; have := h.n; omega
theorem W5.at {l : List (List UInt8)} (h : W5 l) {i : Nat} (hi : i < l.length) : (l.getD i zb).length = 512 := by
  rw [List.getD_eq_getElem?_getD, List.getElem?_eq_getElem hi]; exact h _ (List.getElem_mem hi)
theorem W5.at' {l : List (List UInt8)} (h : W5 l) (i : Nat) : (l.getD i zb).length = 512 := by
  by_cases hi : i < l.length
  · exact h.at hi
  · rw [List.getD_eq_getElem?_getD, List.getElem?_eq_none (by omega)]; exact zb_len
theorem rows_len {l : List (List UInt8)} (h : W5 l) : (rows l).length = l.length * 512 := by
  induction l with
  | nil => rfl
  | cons b l ih =>
    have hb := h b (List.mem_cons_self ..)
    rw [rows, List.flatMap_cons, List.length_append, Array.length_toList, bv_size, hb]
    have := ih (fun x hx => h x (List.mem_cons_of_mem _ hx))
    unfold rows at this
    rw [this, List.length_cons]; omega
theorem rows_get {l : List (List UInt8)} (h : W5 l) {i j : Nat} (hi : i < l.length) (hj : j < 512) : (rows l)[i * 512 + j]? = some (.int .u8 (((l.getD i zb).getD j 0).toNat : Int)) := by
  have h1 := flat_get (fun b : List UInt8 => (bv b).toList) 512 (l := l) (fun x hx => by rw [Array.length_toList, bv_size, h x hx]) hi hj
  unfold rows
  have e : l.getD i zb = l[i] := by rw [List.getD_eq_getElem?_getD, List.getElem?_eq_getElem hi]; rfl
  rw [h1, Array.getElem?_toList, e]
  exact bv_get (h _ (List.getElem_mem hi)) hj
theorem rows_split (l : List (List UInt8)) (i : Nat) (hi : i < l.length) : rows l = rows (l.take i) ++ (bv l[i]).toList ++ rows (l.drop (i + 1)) := by
  have e : l = l.take i ++ (l[i] :: l.drop (i + 1)) := by rw [← List.drop_eq_getElem_cons hi, List.take_append_drop]
  conv => lhs; rw [e]
  unfold rows
  rw [List.flatMap_append, List.flatMap_cons, List.append_assoc]
theorem rows_set {l : List (List UInt8)} {b : List UInt8} {i off : Nat} (h : W5 l) (hb : b.length = 512) (hi : i < l.length) (ho : off = i * 512) : spl (rows l).toArray off (bv b).toList = (rows (l.set i b)).toArray := by
  have h1 := spl_at (L := rows l) (A := rows (l.take i)) (B := (bv l[i]).toList) (T := rows (l.drop (i + 1))) (vs := (bv b).toList) (off := off) (rows_split l i hi)
    (by rw [rows_len (fun x hx => h x (List.mem_of_mem_take hx)), List.length_take, ho]; congr 1; omega) (by rw [Array.length_toList, Array.length_toList, bv_size, bv_size, hb, h _ (List.getElem_mem hi)])
  rw [h1]
  have h2 : i < (l.set i b).length := by rw [List.length_set]; exact hi
  rw [rows_split (l.set i b) i h2]
  have e1 : (l.set i b).take i = l.take i := by rw [List.take_set, List.set_eq_of_length_le (by rw [List.length_take]; omega)]
  have e2 : (l.set i b).drop (i + 1) = l.drop (i + 1) := by rw [List.drop_set]; rw [if_pos (by omega)]
  have e3 : (l.set i b)[i] = b := List.getElem_set_self h2
  rw [e1, e2, e3]
theorem sect_cell {w : World} {b n off : Nat} {l : List (List UInt8)} {t : TypeId} {fr : Nat × Nat} (hW : W5 l) (h : w.heap[b]? = some (.cells (rows l).toArray t fr)) {i : Nat} (ho : off = i * 512) (hi : i < l.length) (j : Nat) (hj : j < 512) : w.cell? ⟨b, off + j, none⟩ = some (.int .u8 (((l.getD i zb).getD j 0).toNat : Int)) := by
  rw [cell_cells h, List.getElem?_toArray, ho]; exact rows_get hW hi hj
/-- What a sector shows. -/
def shown (D : DK) (q : Int) : List UInt8 := (wget D.wait q).getD (D.last.getD q.toNat zb)
theorem shown_len {D : DK} (h : DG D) (q : Int) : (shown D q).length = 512 := by
  unfold shown
  cases hg : wget D.wait q with
  | none => exact h.w.at' _
  | some b => exact h.ww _ (wget_mem hg)
def fltF (D : DK) (q : Int) : Int := if D.down = true then 13 else if 0 ≤ q ∧ q < (D.last.length : Int) then 0 else 2
def readF (D : DK) (q : Int) : List UInt8 := if fltF D q = 0 then shown D q else zb
def lastsF (D : DK) (q : Int) : List UInt8 := if 0 ≤ q ∧ q < (D.last.length : Int) then D.last.getD q.toNat zb else zb
theorem readF_len {D : DK} (h : DG D) (q : Int) : (readF D q).length = 512 := by unfold readF; split; exact shown_len h q; exact zb_len
theorem lastsF_len {D : DK} (h : DG D) (q : Int) : (lastsF D q).length = 512 := by unfold lastsF; split; exact h.w.at' _; exact zb_len
theorem getO_len {D : DK} (h : DG D) (q : Int) : ((wget D.wait q).getD zb).length = 512 := by
  cases hg : wget D.wait q with
  | none => exact zb_len
  | some b => exact h.ww _ (wget_mem hg)
theorem zsz512 : (bv (List.replicate 512 0)).size = 512 := by rw [bv_size, List.length_replicate]
theorem Eff.waitGet {C : Cx} {R O : List (Nat × Obj)} {Γ : Env} {op : Oper} {x y : Operand} {ok : Bool} (hP : C.P = Try.prog) (ho : op.op = .lookup 56 x y ok) {r : Nat} {k : Int} (hx : opd Γ [] x = some (.map (some r))) (hy : opd Γ [] y = some (.int .i64 k))
    {es : Array MapEntry} {ck : Nat} {W : Wt} (h : MapOk es ck (wv2 W)) (hb : ∀ w, HP C.w0 C.M R O w → w.heap[r]? = some (.map es ck)) :
    Eff C R O Γ op Unit (fun _ => if ok then .tuple #[.agg (bv ((wget W k).getD zb)), .bool (wget W k).isSome] else .agg (bv ((wget W k).getD zb))) (fun _ => O) (fun _ => True) := by
  have h1 := Eff.mapGet (C := C) (z := .agg (bv zb)) ho (by rw [hP]; exact Try.underlying56) (by rw [hP]; exact Try.underlying3) (by rw [hP]; kernel_rfl) hx hy h hb
  have e : (mget (wv2 W) k).getD (.agg (bv zb)) = .agg (bv ((wget W k).getD zb)) := by rw [mget_wv]; cases wget W k <;> rfl
  have e2 : (mget (wv2 W) k).isSome = (wget W k).isSome := by rw [mget_wv]; cases wget W k <;> rfl
  rw [e, e2] at h1
  exact h1

theorem fltF_in {D : DK} {q : Int} (h : fltF D q = 0) : 0 ≤ q ∧ q < (D.last.length : Int) := by
  unfold fltF at h
  split at h
  · cases h
  · split at h
    · assumption
    · cases h

end Go.Proofs.Ytnoipbbcpiaemaa
