import Derived.Test.YtpaekplhcjleaaaGreatDoorI2
import Derived.MapKept
import Derived.Test.YtpaekplhcjleaaaGreatDoorK11
namespace Go.Proofs.YtpaekplhcjleaaaGreatDoor
namespace I
open K (one)
set_option linter.unusedVariables false

/-! ### What an abstract value stands for -/

/-- Where an abstract block lies: real block, first cell, how many cells the real block has. -/
abbrev Pl := Nat × Nat × Nat
abbrev Sg := Nat → Option Pl

def Sub (σ σ' : Sg) : Prop := ∀ b p, σ b = some p → σ' b = some p

def toList : AV → List AV
  | .lcons a l => a :: toList l
  | _ => []

def ofList : List AV → AV
  | [] => .lnil
  | a :: l => .lcons a (ofList l)

theorem toList_ofList : ∀ (l : List AV), toList (ofList l) = l
  | [] => rfl
  | a :: l => by simp [ofList, toList, toList_ofList l]

inductive Rel (σ : Sg) : AV → Value → Prop
  | bad (v : Value) : Rel σ .bad v
  | undef : Rel σ .undef Go.undef
  | bool (b : Bool) : Rel σ (.bool b) (.bool b)
  | int (k : IntKind) (n : Int) : Rel σ (.int k n) (.int k n)
  | str (s : ByteArray) (n x : Nat) (hn : n = s.size) (hx : x = val s.data.toList) : Rel σ (.str n x) (.string s)
  | nilp : Rel σ .nilp (.pointer none)
  | ptr (b off r base size o : Nat) (h : σ b = some (r, base, size)) (ho : o = base + off) : Rel σ (.ptr b off) (.pointer (some ⟨r, o, none⟩))
  | nils : Rel σ .nils (.slice none 0 0)
  | sl (b off len lb sz r base size o cap : Nat) (h : σ b = some (r, base, size)) (h1 : len ≤ lb) (h2 : lb ≤ cap) (h3 : lb ≠ 0 → o = base + off) (h4 : o + cap * sz ≤ size) :
      Rel σ (.sl b off len lb sz) (.slice (some ⟨r, o, none⟩) len cap)
  | nilm : Rel σ .nilm (.map none)
  | map (b r base size : Nat) (h : σ b = some (r, base, size)) : Rel σ (.map b) (.map (some r))
  | nilf : Rel σ .nilf .nilFunc
  | yld (b r base size : Nat) (h : σ b = some (r, base, size)) : Rel σ (.yld b) (.func (.yield r) #[] #[])
  | fn (f : Nat) (first caps : AV) (xs ys : Array Value) (h1 : (toList first).length = xs.size) (h2 : (toList caps).length = ys.size)
      (h3 : ∀ (i : Nat) a v, (toList first)[i]? = some a → xs[i]? = some v → Rel σ a v) (h4 : ∀ (i : Nat) a v, (toList caps)[i]? = some a → ys[i]? = some v → Rel σ a v) :
      Rel σ (.fn f first caps) (.func (.func f) xs ys)
  | nili : Rel σ .nili .nilIface
  | ifc (t : Nat) (a : AV) (v : Value) (h : Rel σ a v) : Rel σ (.ifc t a) (.iface t v)
  | agg (n : Nat) (t : AV) (cs : Array Value) (hn : cs.size = n) (h1 : ∀ (i : Nat) v, cs[i]? = some v → one v = true) (h2 : ∀ (i : Nat) v, cs[i]? = some v → Rel σ (cget (lg n) t i) v) : Rel σ (.agg n t) (.agg cs)
  | tup (l : AV) (vs : Array Value) (h1 : (toList l).length = vs.size) (h2 : ∀ (i : Nat) a v, (toList l)[i]? = some a → vs[i]? = some v → Rel σ a v) : Rel σ (.tup l) (.tuple vs)

theorem Rel.mono {σ σ' : Sg} (hs : Sub σ σ') {a : AV} {v : Value} (h : Rel σ a v) : Rel σ' a v := by
  induction h with
  | bad v => exact .bad v
  | undef => exact .undef
  | bool b => exact .bool b
  | int k n => exact .int k n
  | str s n x hn hx => exact .str s n x hn hx
  | nilp => exact .nilp
  | ptr b off r base size o h ho => exact .ptr b off r base size o (hs _ _ h) ho
  | nils => exact .nils
  | sl b off len lb sz r base size o cap h h1 h2 h3 h4 => exact .sl b off len lb sz r base size o cap (hs _ _ h) h1 h2 h3 h4
  | nilm => exact .nilm
  | map b r base size h => exact .map b r base size (hs _ _ h)
  | nilf => exact .nilf
  | yld b r base size h => exact .yld b r base size (hs _ _ h)
  | fn f first caps xs ys h1 h2 _ _ ih3 ih4 => exact .fn f first caps xs ys h1 h2 ih3 ih4
  | nili => exact .nili
  | ifc t a v _ ih => exact .ifc t a v ih
  | agg n t cs hn h1 _ ih => exact .agg n t cs hn h1 ih
  | tup l vs h1 _ ih => exact .tup l vs h1 ih

/-- A value of one cell. -/
def scalarA : AV → Bool
  | .bool _ | .int _ _ | .str _ _ | .nilp | .ptr _ _ | .nils | .sl .. | .nilm | .map _ | .nilf | .fn .. | .yld _ | .nili | .ifc .. => true
  | _ => false

theorem Rel.one {σ : Sg} {a : AV} {v : Value} (h : Rel σ a v) (hs : scalarA a = true) : K.one v = true := by
  cases h <;> first | rfl | simp [scalarA] at hs

/-! ### Memory -/
def HD : Nat := 18

def EsRel (σ : Sg) : AV → List MapEntry → Prop
  | .lcons (.lcons k v) l, e :: es => Rel σ k e.key ∧ Rel σ v e.val ∧ EsRel σ l es
  | .lnil, [] => True
  | _, _ => False

theorem EsRel.mono {σ σ' : Sg} (hs : Sub σ σ') : ∀ {l : AV} {es : List MapEntry}, EsRel σ l es → EsRel σ' l es
  | .lcons (.lcons _ _) l, e :: es, h => ⟨h.1.mono hs, h.2.1.mono hs, EsRel.mono hs h.2.2⟩
  | .lnil, [], _ => trivial
  | .lnil, _ :: _, h => h.elim
  | .lcons (.lcons _ _) _, [], h => h.elim

def MsRel (σ : Sg) (l : AV) (es : Array MapEntry) (clock : Nat) : Prop := EsRel σ l es.toList ∧ Go.MapKept.Stamped es clock

theorem MsRel.mono {σ σ' : Sg} (hs : Sub σ σ') {l : AV} {es : Array MapEntry} {clock : Nat} (h : MsRel σ l es clock) : MsRel σ' l es clock := ⟨h.1.mono hs, h.2⟩

def Calm (fr : Nat × Nat) (size : Nat) : Prop := ∀ i, i < size → (decide (fr.1 ≤ i) && decide (i < fr.2)) = false

def stOf : Nat → LoopState
  | 0 => .ready
  | 1 => .busy
  | 2 => .done
  | _ => .exhausted

/-- A pending jump as a number. -/
def pendOf : Nat → Option Code
  | 0 => none
  | 1 => some .ret
  | id + 2 => some (.exit id)

/-- Which real blocks may be changed; which may be known at all. -/
structure Fr where
  wr : Nat → Prop
  acc : Nat → Prop

def BlkRel (σ : Sg) (w0 : World) (B : Fr) (w : World) (b : Nat) : AV → Prop
  | .cells ty n ro t => ∃ r base size cs fr tt, σ b = some (r, base, size) ∧ w.heap[r]? = some (.cells cs tt fr) ∧ cs.size = size ∧ (base = 0 ∧ base + n ≤ size ∧ (ty % 2 = 1 → n = size)) ∧
      (∀ i, i < n → ∃ v, cs[base + i]? = some v ∧ one v = true ∧ Rel σ (cget (lg n) t i) v) ∧ (ro = false → Calm fr size ∧ (B.wr r ∨ w0.heap.size ≤ r)) ∧ ((ro = false ∨ ty % 2 = 1) → tt = ty / 2)
  | .mp l => ∃ r base size es clock, σ b = some (r, base, size) ∧ w.heap[r]? = some (.map es clock) ∧ MsRel σ l es clock ∧ (B.wr r ∨ w0.heap.size ≤ r)
  | .lp n ps assign body tm st pend db => ∃ r base size rc dr dbase dsize, σ b = some (r, base, size) ∧ w.heap[r]? = some (.loop rc) ∧ σ db = some (dr, dbase, dsize) ∧
      (rc.state = stOf st ∧ rc.pending = pendOf pend ∧ rc.params = ps.toArray ∧ rc.assign = assign ∧ rc.body = body ∧ rc.defers = dr ∧ rc.tmps.size = n) ∧ (∀ t, t < n → Rel σ (cget (lg n) tm t) (rc.tmps.getD t Go.undef)) ∧ (B.wr r ∨ w0.heap.size ≤ r)
  | .df => ∃ r base size, σ b = some (r, base, size) ∧ w.heap[r]? = some (.deferred (some [])) ∧ (B.wr r ∨ w0.heap.size ≤ r)
  | _ => True

def live : AV → Bool
  | .cells .. | .mp _ | .lp .. | .df => true
  | _ => false
def liveW : AV → Bool
  | .cells _ _ ro _ => !ro
  | .mp _ | .lp .. | .df => true
  | _ => false

theorem live_of {x : AV} (h : liveW x = true) : live x = true := by cases x <;> first | rfl | cases h

structure HS (σ : Sg) (h : AV) (nx : Nat) (w0 : World) (B : Fr) (w : World) : Prop where
  os : w.os = w0.os
  tape : w.tape = w0.tape
  output : w.output = w0.output
  size : w0.heap.size ≤ w.heap.size
  block : ∀ k, k < w0.heap.size → ¬ B.wr k → w.heap[k]? = w0.heap[k]?
  blk : ∀ b, b < 2 ^ HD → BlkRel σ w0 B w b (cget HD h b)
  dom : ∀ b p, σ b = some p → b < nx
  nxle : nx ≤ 2 ^ HD
  dist : ∀ b b' p p', b ≠ b' → σ b = some p → σ b' = some p' → liveW (cget HD h b) = true → live (cget HD h b') = true → p.1 ≠ p'.1
  acc : ∀ b p, σ b = some p → live (cget HD h b) = true → B.acc p.1 ∨ w0.heap.size ≤ p.1

section
variable {σ σ' : Sg} {h h' : AV} {nx : Nat} {w0 w w' : World} {B : Fr} {b : Nat}

theorem BlkRel.mono {x : AV} (hx : BlkRel σ w0 B w b x) (hs : Sub σ σ') (hw : ∀ p, σ b = some p → live x = true → w'.heap[p.1]? = w.heap[p.1]?) : BlkRel σ' w0 B w' b x := by
  cases x with
  | cells ty n ro t =>
    obtain ⟨r, base, size, cs, fr, tt, h1, h2, h3, h4, h5, h6⟩ := hx
    refine ⟨r, base, size, cs, fr, tt, hs _ _ h1, (hw _ h1 rfl).trans h2, h3, h4, fun i hi => ?_, h6⟩
    obtain ⟨v, h7, h8, h9⟩ := h5 i hi
    exact ⟨v, h7, h8, h9.mono hs⟩
  | mp l =>
    obtain ⟨r, base, size, es, clock, h1, h2, h3, h4⟩ := hx
    exact ⟨r, base, size, es, clock, hs _ _ h1, (hw _ h1 rfl).trans h2, h3.mono hs, h4⟩
  | lp n ps assign body tm st pend db =>
    obtain ⟨r, base, size, rc, dr, dbase, dsize, h1, h2, h3, h4, h5, h6⟩ := hx
    exact ⟨r, base, size, rc, dr, dbase, dsize, hs _ _ h1, (hw _ h1 rfl).trans h2, hs _ _ h3, h4, fun t ht => (h5 t ht).mono hs, h6⟩
  | df =>
    obtain ⟨r, base, size, h1, h2, h3⟩ := hx
    exact ⟨r, base, size, hs _ _ h1, (hw _ h1 rfl).trans h2, h3⟩
  | _ => trivial

theorem BlkRel.name {x : AV} (hx : BlkRel σ w0 B w b x) (hl : live x = true) : ∃ p, σ b = some p := by
  cases x with
  | cells ty n ro t => obtain ⟨r, base, size, cs, fr, tt, h1, _⟩ := hx; exact ⟨_, h1⟩
  | mp l => obtain ⟨r, base, size, es, clock, h1, _⟩ := hx; exact ⟨_, h1⟩
  | lp n ps assign body tm st pend db => obtain ⟨r, base, size, rc, dr, dbase, dsize, h1, _⟩ := hx; exact ⟨_, h1⟩
  | df => obtain ⟨r, base, size, h1, _⟩ := hx; exact ⟨_, h1⟩
  | _ => simp [live] at hl

theorem BlkRel.wr {x : AV} {p : Pl} (hx : BlkRel σ w0 B w b x) (hl : liveW x = true) (hb : σ b = some p) : B.wr p.1 ∨ w0.heap.size ≤ p.1 := by
  cases x with
  | cells ty n ro t =>
    obtain ⟨r, base, size, cs, fr, tt, g1, _, _, _, _, g6, _⟩ := hx
    rw [hb] at g1; simp only [Option.some.injEq] at g1; subst g1
    simp only [liveW, Bool.not_eq_true'] at hl
    exact (g6 hl).2
  | mp l =>
    obtain ⟨r, base, size, es, clock, g1, _, _, g4⟩ := hx
    rw [hb] at g1; simp only [Option.some.injEq] at g1; subst g1
    exact g4
  | lp n ps assign body tm st pend db =>
    obtain ⟨r, base, size, rc, dr, dbase, dsize, g1, _, _, _, _, g6⟩ := hx
    rw [hb] at g1; simp only [Option.some.injEq] at g1; subst g1
    exact g6
  | df =>
    obtain ⟨r, base, size, g1, _, g3⟩ := hx
    rw [hb] at g1; simp only [Option.some.injEq] at g1; subst g1
    exact g3
  | _ => simp [liveW] at hl

theorem BlkRel.rebase {x : AV} {w1 : World} {B' : Fr} (hx : BlkRel σ w0 B w b x) (h : ∀ p, σ b = some p → liveW x = true → (B'.wr p.1 ∨ w1.heap.size ≤ p.1)) : BlkRel σ w1 B' w b x := by
  cases x with
  | cells ty n ro t =>
    obtain ⟨r, base, size, cs, fr, tt, g1, g2, g3, g4, g5, g6, g7⟩ := hx
    exact ⟨r, base, size, cs, fr, tt, g1, g2, g3, g4, g5, fun hr => ⟨(g6 hr).1, h _ g1 (by simp [liveW, hr])⟩, g7⟩
  | mp l =>
    obtain ⟨r, base, size, es, clock, g1, g2, g3, g4⟩ := hx
    exact ⟨r, base, size, es, clock, g1, g2, g3, h _ g1 rfl⟩
  | lp n ps assign body tm st pend db =>
    obtain ⟨r, base, size, rc, dr, dbase, dsize, g1, g2, g3, g4, g5, g6⟩ := hx
    exact ⟨r, base, size, rc, dr, dbase, dsize, g1, g2, g3, g4, g5, h _ g1 rfl⟩
  | df =>
    obtain ⟨r, base, size, g1, g2, g3⟩ := hx
    exact ⟨r, base, size, g1, g2, h _ g1 rfl⟩
  | _ => trivial

theorem HS.lt (H : HS σ h nx w0 B w) {p : Pl} (hb : σ b = some p) : b < 2 ^ HD := Nat.lt_of_lt_of_le (H.dom b p hb) H.nxle

theorem HS.cells (H : HS σ h nx w0 B w) {r base size ty n : Nat} {ro : Bool} {t : AV} (hb : σ b = some (r, base, size)) (hc : cget HD h b = .cells ty n ro t) :
    ∃ cs fr tt, w.heap[r]? = some (.cells cs tt fr) ∧ cs.size = size ∧ (base = 0 ∧ base + n ≤ size ∧ (ty % 2 = 1 → n = size)) ∧ (∀ i, i < n → ∃ v, cs[base + i]? = some v ∧ one v = true ∧ Rel σ (cget (lg n) t i) v) ∧ (ro = false → Calm fr size ∧ (B.wr r ∨ w0.heap.size ≤ r)) ∧ ((ro = false ∨ ty % 2 = 1) → tt = ty / 2) := by
  have := H.blk b (H.lt hb)
  rw [hc] at this
  obtain ⟨r', base', size', cs, fr, tt, h1, h2, h3, h4, h5, h6⟩ := this
  rw [hb] at h1
  simp only [Option.some.injEq, Prod.mk.injEq] at h1
  obtain ⟨rfl, rfl, rfl⟩ := h1
  exact ⟨cs, fr, tt, h2, h3, h4, h5, h6⟩

/-- The same where the block's type is known. -/
theorem HS.cellsT (H : HS σ h nx w0 B w) {r base size ty n : Nat} {ro : Bool} {t : AV} (hb : σ b = some (r, base, size)) (hc : cget HD h b = .cells ty n ro t) (hk : ro = false ∨ ty % 2 = 1) :
    ∃ cs fr, w.heap[r]? = some (.cells cs (ty / 2) fr) ∧ cs.size = size ∧ (base = 0 ∧ base + n ≤ size ∧ (ty % 2 = 1 → n = size)) ∧ (∀ i, i < n → ∃ v, cs[base + i]? = some v ∧ one v = true ∧ Rel σ (cget (lg n) t i) v) ∧ (ro = false → Calm fr size ∧ (B.wr r ∨ w0.heap.size ≤ r)) := by
  obtain ⟨cs, fr, tt, h1, h2, h3, h4, h5, h6⟩ := H.cells hb hc
  rw [h6 hk] at h1
  exact ⟨cs, fr, h1, h2, h3, h4, h5⟩

theorem HS.drew (H : HS σ h nx w0 B w) : HS σ h nx w0 B { w with drawn := w.drawn + 1 } :=
  ⟨H.os, H.tape, H.output, H.size, H.block, fun b hb => (H.blk b hb).mono (fun _ _ h => h) (fun _ _ _ => rfl), H.dom, H.nxle, H.dist, H.acc⟩

theorem lt_of_get {k : Nat} {o : Obj} (h : w.heap[k]? = some o) : k < w.heap.size := K.lt_of_get h

def ext (σ : Sg) (nx : Nat) (p : Pl) : Sg := fun b => if b = nx then some p else σ b

theorem HS.sub_ext (H : HS σ h nx w0 B w) (p : Pl) : Sub σ (ext σ nx p) := by
  intro b q hb
  have := H.dom b q hb
  unfold ext
  rw [if_neg (by omega)]; exact hb

theorem HS.real_lt (H : HS σ h nx w0 B w) {p : Pl} (hb : σ b = some p) (hl : live (cget HD h b) = true) : p.1 < w.heap.size := by
  have := H.blk b (H.lt hb)
  cases hx : cget HD h b with
  | cells ty n ro t =>
    rw [hx] at this
    obtain ⟨r, base, size, cs, fr, tt, h1, h2, _⟩ := this
    rw [hb] at h1; simp only [Option.some.injEq] at h1; subst h1
    exact lt_of_get h2
  | mp l =>
    rw [hx] at this
    obtain ⟨r, base, size, es, clock, h1, h2, _⟩ := this
    rw [hb] at h1; simp only [Option.some.injEq] at h1; subst h1
    exact lt_of_get h2
  | lp n ps assign body tm st pend db =>
    rw [hx] at this
    obtain ⟨r, base, size, rc, dr, dbase, dsize, h1, h2, _⟩ := this
    rw [hb] at h1; simp only [Option.some.injEq] at h1; subst h1
    exact lt_of_get h2
  | df =>
    rw [hx] at this
    obtain ⟨r, base, size, h1, h2, _⟩ := this
    rw [hb] at h1; simp only [Option.some.injEq] at h1; subst h1
    exact lt_of_get h2
  | _ => rw [hx] at hl; simp [live] at hl

/-- A new block. -/
theorem HS.new (H : HS σ h nx w0 B w) (hnx : nx < 2 ^ HD) {x : AV} {o : Obj} {p : Pl} (hp : p.1 = w.heap.size) (hw : w'.heap = w.heap.push o) (h1 : w'.os = w.os) (h2 : w'.tape = w.tape) (h3 : w'.output = w.output)
    (hx : BlkRel (ext σ nx p) w0 B w' nx x) : HS (ext σ nx p) (cput HD h nx x) (nx + 1) w0 B w' := by
  have hold : ∀ k, k < w.heap.size → w'.heap[k]? = w.heap[k]? := fun k hk => by rw [hw, Array.getElem?_push, if_neg (by omega)]
  have hget : ∀ b, b < 2 ^ HD → cget HD (cput HD h nx x) b = if b = nx then x else cget HD h b := fun b hb => cget_cput HD h nx b x hnx hb
  refine ⟨h1.trans H.os, h2.trans H.tape, h3.trans H.output, by rw [hw]; simp; have := H.size; omega, fun k hk hB => ?_, fun b hb => ?_, fun b q hb => ?_, hnx, fun b b' q q' hne hb hb' hl hl' => ?_, fun b q hb hl => ?_⟩
  · rw [hold k (by have := H.size; omega)]; exact H.block k hk hB
  · rw [hget b hb]
    by_cases hbn : b = nx
    · rw [if_pos hbn, hbn]; exact hx
    · rw [if_neg hbn]
      exact (H.blk b hb).mono (H.sub_ext p) (fun q hq hl => hold _ (H.real_lt hq hl))
  · unfold ext at hb
    by_cases hbn : b = nx
    · omega
    · rw [if_neg hbn] at hb; have := H.dom b q hb; omega
  · have hblt : b < 2 ^ HD := by
      by_cases hbn : b = nx
      · omega
      · unfold ext at hb; rw [if_neg hbn] at hb; exact H.lt hb
    have hblt' : b' < 2 ^ HD := by
      by_cases hbn : b' = nx
      · omega
      · unfold ext at hb'; rw [if_neg hbn] at hb'; exact H.lt hb'
    rw [hget b hblt] at hl
    rw [hget b' hblt'] at hl'
    by_cases hbn : b = nx
    · have hbn' : b' ≠ nx := fun h => hne (hbn.trans h.symm)
      unfold ext at hb hb'
      rw [if_pos hbn] at hb
      rw [if_neg hbn'] at hb' hl'
      simp only [Option.some.injEq] at hb
      have := H.real_lt hb' hl'
      rw [← hb, hp]; omega
    · unfold ext at hb hb'
      rw [if_neg hbn] at hb hl
      by_cases hbn' : b' = nx
      · rw [if_pos hbn'] at hb'
        simp only [Option.some.injEq] at hb'
        have hlb : live (cget HD h b) = true := live_of hl
        have := H.real_lt hb hlb
        rw [← hb', hp]; omega
      · rw [if_neg hbn'] at hb' hl'
        exact H.dist b b' q q' hne hb hb' hl hl'
  · have hblt : b < 2 ^ HD := by
      by_cases hbn : b = nx
      · omega
      · unfold ext at hb; rw [if_neg hbn] at hb; exact H.lt hb
    rw [hget b hblt] at hl
    unfold ext at hb
    by_cases hbn : b = nx
    · rw [if_pos hbn] at hb
      simp only [Option.some.injEq] at hb
      rw [← hb, hp]; exact .inr H.size
    · rw [if_neg hbn] at hb hl
      exact H.acc b q hb hl

/-- Another content of a block that may be written. -/
theorem HS.upd (H : HS σ h nx w0 B w) {p : Pl} (hb : σ b = some p) (hl : liveW (cget HD h b) = true) (hm : B.wr p.1 ∨ w0.heap.size ≤ p.1) {x : AV} {o : Obj} (hw : w'.heap = w.heap.setIfInBounds p.1 o) (h1 : w'.os = w.os) (h2 : w'.tape = w.tape) (h3 : w'.output = w.output)
    (hx : BlkRel σ w0 B w' b x) : HS σ (cput HD h b x) nx w0 B w' := by
  have hold : ∀ k, k ≠ p.1 → w'.heap[k]? = w.heap[k]? := fun k hk => by rw [hw]; simp [Ne.symm hk]
  have hblt := H.lt hb
  have hget : ∀ c, c < 2 ^ HD → cget HD (cput HD h b x) c = if c = b then x else cget HD h c := fun c hc => cget_cput HD h b c x hblt hc
  refine ⟨h1.trans H.os, h2.trans H.tape, h3.trans H.output, by rw [hw]; simpa using H.size, fun k hk hB => ?_, fun c hc => ?_, H.dom, H.nxle, fun c c' q q' hne hc hc' hlc hlc' => ?_, fun c q hc hlc => ?_⟩
  · have : k ≠ p.1 := fun e => by
      rcases hm with hm | hm
      · exact hB (e ▸ hm)
      · omega
    rw [hold k this]; exact H.block k hk hB
  · rw [hget c hc]
    by_cases hcb : c = b
    · rw [if_pos hcb, hcb]; exact hx
    · rw [if_neg hcb]
      exact (H.blk c hc).mono (fun _ _ h => h) (fun q hq hlc => hold _ (fun e => H.dist b c p q (fun h => hcb h.symm) hb hq hl hlc e.symm))
  · rw [hget c (H.lt hc)] at hlc
    rw [hget c' (H.lt hc')] at hlc'
    by_cases hcb : c = b
    · have hcb' : c' ≠ b := fun h => hne (hcb.trans h.symm)
      rw [if_neg hcb'] at hlc'
      subst hcb
      exact H.dist c c' q q' hne hc hc' hl hlc'
    · rw [if_neg hcb] at hlc
      by_cases hcb' : c' = b
      · subst hcb'
        have hlb : live (cget HD h c') = true := live_of hl
        exact H.dist c c' q q' hne hc hc' hlc hlb
      · rw [if_neg hcb'] at hlc'
        exact H.dist c c' q q' hne hc hc' hlc hlc'
  · rw [hget c (H.lt hc)] at hlc
    by_cases hcb : c = b
    · subst hcb
      have hlb : live (cget HD h c) = true := live_of hl
      exact H.acc c q hc hlb
    · rw [if_neg hcb] at hlc
      exact H.acc c q hc hlc

/-- A block that is known no longer. -/
theorem HS.kill (H : HS σ h nx w0 B w) (hb : b < 2 ^ HD) : HS σ (cput HD h b .dead) nx w0 B w := by
  have hget : ∀ c, c < 2 ^ HD → cget HD (cput HD h b .dead) c = if c = b then .dead else cget HD h c := fun c hc => cget_cput HD h b c .dead hb hc
  refine ⟨H.os, H.tape, H.output, H.size, H.block, fun c hc => ?_, H.dom, H.nxle, fun c c' q q' hne hc hc' hlc hlc' => ?_, fun c q hc hlc => ?_⟩
  · rw [hget c hc]
    by_cases hcb : c = b
    · rw [if_pos hcb]; trivial
    · rw [if_neg hcb]; exact H.blk c hc
  · rw [hget c (H.lt hc)] at hlc
    rw [hget c' (H.lt hc')] at hlc'
    split at hlc
    · simp [liveW] at hlc
    · split at hlc'
      · simp [live] at hlc'
      · exact H.dist c c' q q' hne hc hc' hlc hlc'
  · rw [hget c (H.lt hc)] at hlc
    split at hlc
    · simp [live] at hlc
    · exact H.acc c q hc hlc

/-- A new name for a place of a real block whose old name is dropped; its content may change. -/
theorem HS.rename (H : HS σ h nx w0 B w) (hnx : nx < 2 ^ HD) {p q : Pl} (hb : σ b = some p) (hl : liveW (cget HD h b) = true) (hm : B.wr p.1 ∨ w0.heap.size ≤ p.1) (hq : q.1 = p.1) {x : AV} {o : Obj} (hw : w'.heap = w.heap.setIfInBounds p.1 o)
    (h1 : w'.os = w.os) (h2 : w'.tape = w.tape) (h3 : w'.output = w.output) (hx : BlkRel (ext σ nx q) w0 B w' nx x) :
    HS (ext σ nx q) (cput HD (cput HD h b .dead) nx x) (nx + 1) w0 B w' := by
  have hK : HS σ (cput HD h b .dead) nx w0 B w' := H.upd hb hl hm hw h1 h2 h3 trivial
  have hblt := H.lt hb
  have hbnx := H.dom b p hb
  have hgb : cget HD (cput HD h b .dead) b = .dead := by rw [cget_cput HD h b b .dead hblt hblt, if_pos rfl]
  have hget : ∀ c, c < 2 ^ HD → cget HD (cput HD (cput HD h b .dead) nx x) c = if c = nx then x else cget HD (cput HD h b .dead) c := fun c hc => cget_cput HD _ nx c x hnx hc
  have hother : ∀ c u, c ≠ b → σ c = some u → live (cget HD h c) = true → u.1 ≠ p.1 := fun c u hcb hc hlc e => H.dist b c p u (fun h => hcb h.symm) hb hc hl hlc e.symm
  have hk : ∀ c, c ≠ b → c < 2 ^ HD → cget HD (cput HD h b .dead) c = cget HD h c := fun c hc hlt => by rw [cget_cput HD h b c .dead hblt hlt, if_neg hc]
  have hne2 : ∀ c u, σ c = some u → live (cget HD (cput HD h b .dead) c) = true → u.1 ≠ q.1 := by
    intro c u hc hlc
    have hcb : c ≠ b := fun e => by rw [e, hgb] at hlc; simp [live] at hlc
    rw [hk c hcb (H.lt hc)] at hlc
    rw [hq]; exact hother c u hcb hc hlc
  refine ⟨hK.os, hK.tape, hK.output, hK.size, hK.block, fun c hc => ?_, fun c u hc => ?_, hnx, fun c c' u u' hne hc hc' hlc hlc' => ?_, fun c u hc hlc => ?_⟩
  · rw [hget c hc]
    by_cases hcn : c = nx
    · rw [if_pos hcn, hcn]; exact hx
    · rw [if_neg hcn]; exact (hK.blk c hc).mono (hK.sub_ext q) (fun _ _ _ => rfl)
  · unfold ext at hc
    by_cases hcn : c = nx
    · omega
    · rw [if_neg hcn] at hc; have := H.dom c u hc; omega
  · have hlt : ∀ c u, ext σ nx q c = some u → c < 2 ^ HD := fun c u hc => by
      by_cases hcn : c = nx
      · omega
      · unfold ext at hc; rw [if_neg hcn] at hc; exact H.lt hc
    rw [hget c (hlt c u hc)] at hlc
    rw [hget c' (hlt c' u' hc')] at hlc'
    unfold ext at hc hc'
    by_cases hcn : c = nx
    · have hcn' : c' ≠ nx := fun h => hne (hcn.trans h.symm)
      rw [if_pos hcn] at hc
      rw [if_neg hcn'] at hc' hlc'
      simp only [Option.some.injEq] at hc
      have := hne2 c' u' hc' hlc'
      rw [← hc]; exact fun e => this e.symm
    · rw [if_neg hcn] at hc hlc
      have hlcl : live (cget HD (cput HD h b .dead) c) = true := live_of hlc
      by_cases hcn' : c' = nx
      · rw [if_pos hcn'] at hc'
        simp only [Option.some.injEq] at hc'
        rw [← hc']; exact hne2 c u hc hlcl
      · rw [if_neg hcn'] at hc' hlc'
        exact hK.dist c c' u u' hne hc hc' hlc hlc'
  · have hlt : c < 2 ^ HD := by
      by_cases hcn : c = nx
      · omega
      · unfold ext at hc; rw [if_neg hcn] at hc; exact H.lt hc
    rw [hget c hlt] at hlc
    unfold ext at hc
    by_cases hcn : c = nx
    · rw [if_pos hcn] at hc
      simp only [Option.some.injEq] at hc
      have hlb : live (cget HD h b) = true := live_of hl
      rw [← hc, hq]; exact H.acc b p hb hlb
    · rw [if_neg hcn] at hc hlc
      exact hK.acc c u hc hlc

end
end I
end Go.Proofs.YtpaekplhcjleaaaGreatDoor
