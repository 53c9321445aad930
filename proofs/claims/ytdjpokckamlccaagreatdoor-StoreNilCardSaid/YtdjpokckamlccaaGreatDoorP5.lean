/- Texts on which the proof of this claim stands: IS, IR, IW, Wx, IT, IU, IV. -/
import Derived.Test.YtdjpokckamlccaaGreatDoorP3
import Derived.Lib.SlKeysI
import Derived.Below
import Derived.Lib.Repeat
import Derived.Test.YtdjpokckamlccaaGreatDoorP4
import Derived.Shelf.SlIterI.Nil
import Derived.Sort.KeysCollected
import Derived.Sort.Walk0
import Derived.Shelf.SlIter.Nil
namespace Go.Proofs.YtdjpokckamlccaaGreatDoor
namespace I
open K (one aggB run_underlying' run_sizeOf' add_none run_v cell_cells)
set_option linter.unusedVariables false
/-- What the two functions come to. -/
structure SortedKeys (P : Program) (fS fK ety : Nat) : Prop where
  has : ∃ fn c, P.funcs[fS]? = some fn ∧ (fn.name == "runtime.NumGoroutine") = false ∧ fn.body = some c
  some : ∀ (Bm b : Nat) (es : Array MapEntry) (clock : Nat) (ks : List Int) (w : World), w.heap[b]? = .some (.map es clock) → Go.MapKept.Stamped es clock → es.toList.map (·.key) = ks.map encZ →
    (∀ x ∈ ks, (Lit.int .i64 x).wf = true) → ks.length ≤ 1000000 → w.cell? ⟨Bm, 0, none⟩ = .some (.map (.some b)) →
    Calls P fS #[.func (.func fK) #[] #[.pointer (.some ⟨Bm, 0, none⟩)]] w fun e w' => ∃ v, e = .returned v ∧ w'.ownsRow w.heap.size ety 1 v ks.length ((ks.mergeSort leI).map encZ) ∧ (v = .slice none 0 0 ↔ ks = []) ∧ Go.RowKit.Below w.heap.size w w'
  none : ∀ (Bm : Nat) (w : World), w.cell? ⟨Bm, 0, none⟩ = .some (.map none) →
    Calls P fS #[.func (.func fK) #[] #[.pointer (.some ⟨Bm, 0, none⟩)]] w fun e w' => e = .returned (.slice none 0 0) ∧ Go.RowKit.Below w.heap.size w w'
def in64 : Int → Bool
  | .ofNat a => Nat.blt a 9223372036854775808
  | .negSucc a => Nat.blt a 9223372036854775808
/-- The keys of a map. -/
def keysI : AV → Option (List Int)
  | .lcons (.lcons (.int .i64 x) _) l => match keysI l with
    | some ks => bif in64 x then some (x :: ks) else none
    | none => none
  | .lnil => some []
  | _ => none
def insI (x : Int) : List Int → List Int
  | [] => [x]
  | y :: l => bif ilt y x then y :: insI x l else x :: y :: l
def sortI : List Int → List Int
  | [] => []
  | x :: l => insI x (sortI l)
def sortX (fS fK ety : Nat) : KF := fun f args h nx =>
  bif Nat.beq f fS then match args with
    | [.fn g .lnil (.lcons (.ptr b 0) .lnil)] => bif Nat.beq g fK then match cget HD h b with
      | .cells _ n _ t => bif Nat.blt 0 n then match cget (lg n) t 0 with
        | .map m => match cget HD h m with
          | .mp l => match keysI l with
            | some ks => bif Nat.beq ks.length 0 then some (.nils, h, nx) else
              bif Nat.blt nx (2 ^ HD) && Nat.ble ks.length 1000000 then
                some (.sl nx 0 ks.length ks.length 1, cput HD h nx (.cells (2 * ety) ks.length false (cmk (fun i => .int .i64 ((sortI ks).getD i 0)) (lg ks.length) 0 ks.length)), nx + 1) else none
            | none => none
          | _ => none
        | .nilm => some (.nils, h, nx)
        | _ => none
        else none
      | _ => none
      else none
    | _ => none
  else none
section
variable {P : Program} {G : Nat} {σ : Sg}
theorem insI_perm (x : Int) : ∀ l, (insI x l).Perm (x :: l)
  | [] => .refl _
  | y :: l => by
    unfold insI
    cases ilt y x with
    | true => exact ((insI_perm x l).cons y).trans (.swap x y l)
    | false => exact .refl _
theorem sortI_perm : ∀ l, (sortI l).Perm l
  | [] => .refl _
  | x :: l => (insI_perm x _).trans ((sortI_perm l).cons x)
theorem insI_sorted (x : Int) : ∀ l, l.Pairwise (fun a b => leI a b = true) → (insI x l).Pairwise (fun a b => leI a b = true)
  | [], _ => by simp [insI]
  | y :: l, h => by
    obtain ⟨h1, h2⟩ := List.pairwise_cons.1 h
    unfold insI
    cases hb : ilt y x with
    | true =>
      simp only [cond_true]
      refine List.pairwise_cons.2 ⟨fun z hz => ?_, insI_sorted x l h2⟩
      rcases List.mem_cons.1 ((insI_perm x l).mem_iff.1 hz) with rfl | hz
      · rw [ilt_eq] at hb
        simp only [decide_eq_true_eq, leI] at hb ⊢
        omega
      · exact h1 z hz
    | false =>
      simp only [cond_false]
      rw [ilt_eq] at hb
      simp only [decide_eq_false_iff_not] at hb
      refine List.pairwise_cons.2 ⟨fun z hz => ?_, h⟩
      rcases List.mem_cons.1 hz with rfl | hz
      · simp only [leI, decide_eq_true_eq]; omega
      · have := h1 z hz
        simp only [leI, decide_eq_true_eq] at this ⊢; omega
theorem sortI_sorted : ∀ l, (sortI l).Pairwise (fun a b => leI a b = true)
  | [] => .nil
  | x :: l => insI_sorted x _ (sortI_sorted l)
theorem sortI_eq (l : List Int) : l.mergeSort leI = sortI l := by
  have tr : ∀ a b c : Int, leI a b = true → leI b c = true → leI a c = true := fun a b c h1 h2 => by simp only [leI, decide_eq_true_eq] at *; exact Int.le_trans h1 h2
  have to : ∀ a b : Int, (leI a b || leI b a) = true := fun a b => by simp only [leI, Bool.or_eq_true, decide_eq_true_eq]; exact Int.le_total a b
  refine List.Perm.eq_of_pairwise (le := fun a b => leI a b = true) (fun a b _ _ h1 h2 => ?_) (List.pairwise_mergeSort tr to l) (sortI_sorted l) ((List.mergeSort_perm l leI).trans (sortI_perm l).symm)
  simp only [leI, decide_eq_true_eq] at h1 h2
  exact Int.le_antisymm h1 h2
theorem in64_wf {x : Int} (h : in64 x = true) : (Lit.int .i64 x).wf = true := by
  have : -9223372036854775808 ≤ x ∧ x ≤ 9223372036854775807 := by
    cases x with
    | ofNat a => have := blt_iff.1 h; simp only [Int.ofNat_eq_natCast]; omega
    | negSucc a => have := blt_iff.1 h; rw [Int.negSucc_eq]; omega
  simp only [Lit.wf]
  simp
  exact this
theorem keysI_ok : ∀ {l : AV} {es : List MapEntry} {ks : List Int}, EsRel σ l es → keysI l = some ks → es.map (·.key) = ks.map encZ ∧ ∀ x ∈ ks, (Lit.int .i64 x).wf = true
  | .lcons (.lcons k v) l, es, ks, he, h => by
    obtain ⟨e, es', rfl, h1, h2, h3⟩ := he.cons_of
    unfold keysI at h
    split at h
    · rename_i x _ l' heq
      simp only [AV.lcons.injEq] at heq
      obtain ⟨⟨rfl, _⟩, rfl⟩ := heq
      split at h
      · rename_i ks' hk
        cases hb : in64 x with
        | false => simp [hb] at h
        | true =>
          simp only [hb, cond_true, Option.some.injEq] at h
          subst h
          obtain ⟨g1, g2⟩ := keysI_ok h3 hk
          generalize hkv : e.key = kv at h1
          cases h1
          refine ⟨by simp [g1, hkv], fun y hy => ?_⟩
          rcases List.mem_cons.1 hy with rfl | hy
          · exact in64_wf hb
          · exact g2 y hy
      · cases h
    · rename_i heq; cases heq
    · cases h
  | .lnil, es, ks, he, h => by
    have := he.nil_of
    subst this
    simp only [keysI, Option.some.injEq] at h
    subst h
    exact ⟨rfl, fun x hx => by cases hx⟩
theorem sortX_ok {fS fK ety : Nat} (S : SortedKeys P fS fK ety) : XOk P G (sortX fS fK ety) := by
  intro f args h nx v h' nx' hh
  unfold sortX at hh
  cases hf : Nat.beq f fS with
  | false => simp [hf] at hh
  | true =>
    have := beqn_iff.1 hf
    subst this
    simp only [hf, cond_true] at hh
    intro σ w0 B w vs H hG hr
    unfold CalleeOk
    rw [if_pos (by omega), show 2 * f / 2 = f by omega]
    refine ⟨S.has, ?_⟩
    split at hh
    · rename_i g b
      cases hg : Nat.beq g fK with
      | false => simp [hg] at hh
      | true =>
        have := beqn_iff.1 hg
        subst this
        simp only [hg, cond_true] at hh
        have hv : ∃ bm : Nat, ∃ base size, vs = [.func (.func g) #[] #[.pointer (some ⟨bm, base, none⟩)]] ∧ σ b = some (bm, base, size) := by
          obtain ⟨hl, hi⟩ := hr
          match vs, hl with
          | [u], _ =>
            have h1 := hi 0 _ u rfl rfl
            cases h1 with
            | fn _ _ _ xs ys e1 e2 e3 e4 =>
            have hx : xs = #[] := by
              apply Array.eq_empty_of_size_eq_zero
              simpa [toList] using e1.symm
            have hy : ∃ y, ys = #[y] := by
              have : ys.size = 1 := by simpa [toList] using e2.symm
              exact ⟨ys[0], by apply Array.ext <;> simp [this]; intro i hi; subst hi; rfl⟩
            obtain ⟨y, rfl⟩ := hy
            have h2 := e4 0 (.ptr b 0) y rfl rfl
            cases h2 with
            | ptr _ _ r base size o q1 q2 => exact ⟨r, base, size, by subst hx; simp [q2], q1⟩
        obtain ⟨bm, base, size, rfl, hb⟩ := hv
        split at hh
        · rename_i ty n ro t hc
          cases hn : Nat.blt 0 n with
          | false => simp [hn] at hh
          | true =>
            have hn' := blt_iff.1 hn
            simp only [hn, cond_true] at hh
            obtain ⟨cs, fr, tt, g1, g2, ⟨rfl, g3, _⟩, g4, g5⟩ := H.cells hb hc
            obtain ⟨u, u1, u2, u3⟩ := g4 0 hn'
            have hcell : w.cell? ⟨bm, 0, none⟩ = some u := by
              rw [cell_cells g1]; simpa using u1
            split at hh
            · rename_i m hm
              rw [hm] at u3
              cases u3 with
              | map _ r mbase msize hs =>
              split at hh
              · rename_i l hl
                obtain ⟨es, clock, h2, h3, h4, hst⟩ := H.mp hs hl
                split at hh
                · rename_i ks hks
                  obtain ⟨k1, k2⟩ := keysI_ok h3 hks
                  cases hz : Nat.beq ks.length 0 with
                  | true =>
                    simp only [hz, cond_true, Option.some.injEq, Prod.mk.injEq] at hh
                    obtain ⟨rfl, rfl, rfl⟩ := hh
                    have hnil : ks = [] := List.eq_nil_of_length_eq_zero (beqn_iff.1 hz)
                    refine (S.some bm r es clock ks w h2 hst k1 k2 (by simp [hnil]) hcell).mono ?_
                    rintro e w' ⟨v, rfl, _, hv, hB⟩
                    obtain rfl := hv.2 hnil
                    exact ⟨σ, _, SubX.refl _ _, Dk.refl _ _, Nat.le_refl _, rfl, .nils, H.more hB.block hB.size hB.os hB.tape hB.output⟩
                  | false =>
                    simp only [hz, cond_false] at hh
                    cases hq : (Nat.blt nx (2 ^ HD) && Nat.ble ks.length 1000000) with
                    | false => simp [hq] at hh
                    | true =>
                      simp only [hq, cond_true, Option.some.injEq, Prod.mk.injEq] at hh
                      obtain ⟨rfl, rfl, rfl⟩ := hh
                      simp only [Bool.and_eq_true] at hq
                      have hnx := blt_iff.1 hq.1
                      have hle := ble_iff.1 hq.2
                      have hk0 : ks.length ≠ 0 := fun e => by rw [beqn_iff.2 e] at hz; cases hz
                      refine (S.some bm r es clock ks w h2 hst k1 k2 hle hcell).mono ?_
                      rintro e w' ⟨v, rfl, hrow, hv, hB⟩
                      rcases hrow.2 with ⟨_, h0⟩ | ⟨gb, cap, cur, rfl, hbase, hgb, r1, r2, r3, r4⟩
                      · exact absurd h0 hk0
                      · have H1 := (H.more hB.block hB.size hB.os hB.tape hB.output).skip (Nat.le_succ nx) hnx
                        have h0 : σ nx = none := by
                          cases hx : σ nx with
                          | none => rfl
                          | some p => have := H.dom nx p hx; omega
                        obtain ⟨hsub, H2⟩ := H1.bind (p := (gb, 0, cur.size)) h0 (Nat.lt_succ_self nx)
                        have hcell' : ∀ i, i < ks.length → cur[i]? = some (.int .i64 ((sortI ks).getD i 0)) := fun i hi => by
                          have e1 : (cur.toList.take (ks.length * 1))[i]? = ((ks.mergeSort leI).map encZ)[i]? := by rw [r4]
                          rw [sortI_eq, List.getElem?_take, if_pos (by omega), List.getElem?_map] at e1
                          have hlen : (sortI ks).length = ks.length := (sortI_perm ks).length_eq
                          rw [Array.getElem?_toList] at e1
                          rw [e1, List.getD_eq_getElem?_getD, List.getElem?_eq_getElem (by omega)]
                          rfl
                        have hblk : BlkRel (ext σ nx (gb, 0, cur.size)) w0 B w' nx (.cells (2 * ety) ks.length false (cmk (fun i => .int .i64 ((sortI ks).getD i 0)) (lg ks.length) 0 ks.length)) := by
                          refine ⟨gb, 0, cur.size, cur, (0, 0), ety, by simp [ext], hgb, rfl, ⟨rfl, by omega, fun hx => by omega⟩, fun i hi => ⟨_, by rw [Nat.zero_add]; exact hcell' i hi, rfl, ?_⟩, fun _ => ⟨calm0 _, .inr (Nat.le_trans H.size hbase)⟩, fun _ => (even_half ety).symm⟩
                          rw [cget_cmk _ _ _ _ _ (lg_le _) hi, Nat.zero_add]
                          exact .int _ _
                        have H3 := H2.lay (b0 := nx) (p := (gb, 0, cur.size)) (by simp [ext]) hblk (Nat.le_trans H.size hbase) (fun c q hcn hq hl => by
                          unfold ext at hq
                          rw [if_neg hcn] at hq
                          have := H.real_lt hq hl
                          omega)
                        refine ⟨_, _, ⟨hsub, fun c hc => by unfold ext; rw [if_neg (by omega)]⟩, fun c hc hlc => ?_, Nat.le_succ nx, rfl, ?_, H3⟩
                        · rw [cget_cput HD h nx c _ hnx (by omega), if_neg (by omega)] at hlc
                          exact hlc
                        · exact .sl nx 0 _ _ 1 gb 0 cur.size 0 cap (by simp [ext]) (Nat.le_refl _) r1 (fun _ => rfl) (by omega)
                · cases hh
              · cases hh
            · rename_i hm
              rw [hm] at u3
              cases u3
              simp only [Option.some.injEq, Prod.mk.injEq] at hh
              obtain ⟨rfl, rfl, rfl⟩ := hh
              refine (S.none bm w hcell).mono ?_
              rintro e w' ⟨rfl, hB⟩
              exact ⟨σ, _, SubX.refl _ _, Dk.refl _ _, Nat.le_refl _, rfl, .nils, H.more hB.block hB.size hB.os hB.tape hB.output⟩
            · cases hh
        · cases hh
    · cases hh
end
end I
end Go.Proofs.YtdjpokckamlccaaGreatDoor
namespace Go.Proofs.YtdjpokckamlccaaGreatDoor
namespace I
open K (one aggB run_underlying' run_sizeOf' add_none run_v cell_cells)
set_option linter.unusedVariables false
def orI (X Y : KF) : KF := fun f args h nx => match X f args h nx with
  | some r => some r
  | none => Y f args h nx
theorem orI_ok {P : Program} {G : Nat} {X Y : KF} (hX : XOk P G X) (hY : XOk P G Y) : XOk P G (orI X Y) := by
  intro f args h nx v h' nx' hh
  unfold orI at hh
  split at hh
  · rename_i r hr
    simp only [Option.some.injEq] at hh
    subst hh
    exact hX f args h nx v h' nx' hr
  · exact hY f args h nx v h' nx' hh
structure RepeatOk (P : Program) (fR : Nat) : Prop where
  has : ∃ fn c, P.funcs[fR]? = some fn ∧ (fn.name == "runtime.NumGoroutine") = false ∧ fn.body = some c
  run : ∀ (s : ByteArray) (c : Nat) (w : World), c ≤ 9223372036854775807 → s.size * c ≤ 140737488355328 →
    Calls P fR #[.string s, .int .i64 c] w fun e w' => e = .returned (.string ⟨(Lib.repeatL s.data.toList c).toArray⟩) ∧ Go.RowKit.Below w.heap.size w w'
def repV (n x : Nat) : Nat → Nat
  | 0 => 0
  | k + 1 => repV n x k + x * 256 ^ (n * k)
def repX (fR : Nat) : KF := fun f args h nx =>
  bif Nat.beq f fR then match args with
    | [.str n x, .int .i64 (.ofNat c)] => bif Nat.ble c 9223372036854775807 && Nat.ble (n * c) 140737488355328 then some (.str (n * c) (repV n x c), h, nx) else none
    | _ => none
  else none
theorem repV_eq (l : List UInt8) : ∀ c, val (Lib.repeatL l c) = repV l.length (val l) c := by
  intro c
  induction c with
  | zero => rfl
  | succ c ih =>
    rw [show Lib.repeatL l (c + 1) = l ++ Lib.repeatL l c from rfl, val_append, ih, repV, Lib.repeatL_length, Nat.mul_comm c, Nat.add_comm]
theorem repX_ok {P : Program} {G fR : Nat} (S : RepeatOk P fR) : XOk P G (repX fR) := by
  intro f args h nx v h' nx' hh
  unfold repX at hh
  cases hf : Nat.beq f fR with
  | false => simp [hf] at hh
  | true =>
    have := beqn_iff.1 hf
    subst this
    simp only [hf, cond_true] at hh
    intro σ w0 B w vs H hG hr
    unfold CalleeOk
    rw [if_pos (by omega), show 2 * f / 2 = f by omega]
    refine ⟨S.has, ?_⟩
    split at hh
    · rename_i n x c
      cases hc : (Nat.ble c 9223372036854775807 && Nat.ble (n * c) 140737488355328) with
      | false => simp [hc] at hh
      | true =>
        simp only [hc, cond_true, Option.some.injEq, Prod.mk.injEq] at hh
        obtain ⟨rfl, rfl, rfl⟩ := hh
        simp only [Bool.and_eq_true] at hc
        obtain ⟨hl, hi⟩ := hr
        match vs, hl with
        | [u, z], _ =>
          have h1 := hi 0 _ u rfl rfl
          have h2 := hi 1 _ z rfl rfl
          cases h1 with
          | str t _ _ hn hx =>
          cases h2 with
          | int _ _ =>
          refine (S.run t c w (ble_iff.1 hc.1) (by rw [← hn]; exact ble_iff.1 hc.2)).mono ?_
          rintro e w' ⟨rfl, hB⟩
          have hlen : t.data.toList.length = n := by rw [hn]; simp
          refine ⟨σ, _, SubX.refl _ _, Dk.refl _ _, Nat.le_refl _, rfl, .str _ _ _ ?_ ?_, H.more hB.block hB.size hB.os hB.tape hB.output⟩
          · show n * c = ((Lib.repeatL t.data.toList c).toArray).size
            rw [List.size_toArray, Lib.repeatL_length, hlen]; exact Nat.mul_comm _ _
          · show repV n x c = val (Lib.repeatL t.data.toList c).toArray.toList
            rw [repV_eq, hlen, hx]
    · cases hh
end I
end Go.Proofs.YtdjpokckamlccaaGreatDoor
namespace Go.Proofs.YtdjpokckamlccaaGreatDoor
namespace I
open K (one aggB run_underlying' run_sizeOf' add_none run_v cell_cells)
set_option linter.unusedVariables false
def joinB (ss : List ByteArray) : List UInt8 := ss.flatMap fun s => s.data.toList
/-- A function that lays the texts of a row behind a text. -/
structure WithOk (P : Program) (fW : Nat) : Prop where
  has : ∃ fn c, P.funcs[fW]? = some fn ∧ (fn.name == "runtime.NumGoroutine") = false ∧ fn.body = some c
  run : ∀ (s : ByteArray) (la : Option Addr) (cap : Nat) (ss : List ByteArray) (Rl : List (Nat × Obj)) (w : World), K.InS Rl la ss.length (fun j => .string (ss.getD j ByteArray.empty)) → K.Has w Rl → ss.length ≤ Go.maxLen → s.size + (joinB ss).length ≤ 140737488355328 →
    Calls P fW #[.agg #[.string s], .slice la ss.length cap] w fun e w' => e = .returned (.agg #[.string ⟨(s.data.toList ++ joinB ss).toArray⟩]) ∧ K.Ext [] w w'
/-- Texts of a row, behind one text. -/
def catRow (d : Nat) (t : AV) : Nat → Nat → Nat → Nat → Option (Nat × Nat)
  | 0, _, n, x => some (n, x)
  | k + 1, i, n, x => match cget d t i with
    | .str m y => catRow d t k (i + 1) (n + m) (x * 256 ^ m + y)
    | _ => none
def withX (fW : Nat) : KF := fun f args h nx =>
  bif Nat.beq f fW then match args with
    | [.agg 1 (.str n x), .nils] => bif Nat.ble n 140737488355328 then some (.agg 1 (.str n x), h, nx) else none
    | [.agg 1 (.str n x), .sl b off len lb 1] => match cget HD h b with
      | .cells _ m _ u => bif Nat.ble (off + len) m && (Nat.ble 1 len && Nat.ble len 1000000) then match catRow (lg m) u len off n x with
        | some (n', x') => bif Nat.ble n' 140737488355328 then some (.agg 1 (.str n' x'), h, nx) else none
        | none => none
        else none
      | _ => none
    | _ => none
  else none
theorem catRow_ok {σ : Sg} {d : Nat} {t : AV} {cs : Array Value} {base : Nat} : ∀ (k i n x : Nat) (s : List UInt8) {a : Nat × Nat}, catRow d t k i n x = some a → n = s.length → x = val s →
    (∀ j, i ≤ j → j < i + k → ∃ v, cs[base + j]? = some v ∧ Rel σ (cget d t j) v) →
    ∃ ss : List ByteArray, ss.length = k ∧ (∀ j, j < k → cs[base + (i + j)]? = some (.string (ss.getD j ByteArray.empty))) ∧ a.1 = (s ++ joinB ss).length ∧ a.2 = val (s ++ joinB ss)
  | 0, i, n, x, s, a, h, hn, hx, hc => by
    simp only [catRow, Option.some.injEq] at h
    subst h
    exact ⟨[], rfl, fun j hj => absurd hj (by omega), by simp [joinB, hn], by simp [joinB, hx]⟩
  | k + 1, i, n, x, s, a, h, hn, hx, hc => by
    unfold catRow at h
    split at h
    · rename_i m y heq
      obtain ⟨v, hv, hr⟩ := hc i (Nat.le_refl _) (by omega)
      rw [heq] at hr
      cases hr with
      | str b _ _ h1 h2 =>
      have e0 : b.data.toList.length = m := by rw [h1]; simp
      obtain ⟨ss, g1, g2, g3, g4⟩ := catRow_ok k (i + 1) (n + m) (x * 256 ^ m + y) (s ++ b.data.toList) h (by rw [List.length_append, e0, hn]) (by rw [val_append, e0, hx, h2]) (fun j hj hj' => hc j (by omega) (by omega))
      have e : joinB (b :: ss) = b.data.toList ++ joinB ss := by simp [joinB]
      refine ⟨b :: ss, by simp [g1], fun j hj => ?_, by rw [e, ← List.append_assoc]; exact g3, by rw [e, ← List.append_assoc]; exact g4⟩
      cases j with
      | zero => simp only [Nat.add_zero, List.getD_cons_zero]; exact hv
      | succ j => rw [List.getD_cons_succ, show i + (j + 1) = i + 1 + j by omega]; exact g2 j (by omega)
    · cases h
theorem szl (s : ByteArray) : s.data.toList.length = s.size := Array.length_toList
theorem szm (l : List UInt8) : (⟨l.toArray⟩ : ByteArray).size = l.length := List.size_toArray
theorem agg1 {σ : Sg} {n x : Nat} {v : Value} (h : Rel σ (.agg 1 (.str n x)) v) : ∃ s : ByteArray, v = .agg #[.string s] ∧ n = s.size ∧ x = val s.data.toList := by
  cases h with
  | agg _ _ cs hn h1 h2 =>
  have h3 := h2 0 cs[0] (by simp [hn])
  have e : cget (lg 1) (.str n x) 0 = .str n x := rfl
  rw [e] at h3
  generalize hv : cs[0] = u at h3
  cases h3 with
  | str s _ _ g1 g2 =>
  refine ⟨s, ?_, g1, g2⟩
  congr 1
  apply Array.ext
  · simp [hn]
  · intro i hi hi'
    have : i = 0 := by simp at hi'; omega
    subst this
    simp [hv]
theorem agg1_mk {σ : Sg} (s : ByteArray) {n x : Nat} (hn : n = s.size) (hx : x = val s.data.toList) : Rel σ (.agg 1 (.str n x)) (.agg #[.string s]) :=
  .agg 1 _ _ rfl (fun i v hv => by
    cases i with
    | zero => simp at hv; subst hv; rfl
    | succ i => simp at hv) (fun i v hv => by
    cases i with
    | zero => simp at hv; subst hv; exact .str s _ _ hn hx
    | succ i => simp at hv)
theorem ext_more {σ : Sg} {h : AV} {nx : Nat} {w0 w w' : World} {B : Fr} (H : HS σ h nx w0 B w) (hB : K.Ext [] w w') : HS σ h nx w0 B w' :=
  H.more (fun k hk => hB.block k hk (by simp)) hB.size hB.os hB.tape hB.output
theorem withX_ok {P : Program} {G fW : Nat} (S : WithOk P fW) : XOk P G (withX fW) := by
  intro f args h nx v h' nx' hh
  unfold withX at hh
  cases hf : Nat.beq f fW with
  | false => simp [hf] at hh
  | true =>
    have := beqn_iff.1 hf
    subst this
    simp only [hf, cond_true] at hh
    intro σ w0 B w vs H hG hr
    unfold CalleeOk
    rw [if_pos (by omega), show 2 * f / 2 = f by omega]
    refine ⟨S.has, ?_⟩
    split at hh
    · rename_i n x
      cases hc : Nat.ble n 140737488355328 with
      | false => simp [hc] at hh
      | true =>
        simp only [hc, cond_true, Option.some.injEq, Prod.mk.injEq] at hh
        obtain ⟨rfl, rfl, rfl⟩ := hh
        obtain ⟨hl, hi⟩ := hr
        match vs, hl with
        | [u, z], _ =>
          obtain ⟨s, rfl, g1, g2⟩ := agg1 (hi 0 _ u rfl rfl)
          have h2 := hi 1 _ z rfl rfl
          cases h2
          have hle := ble_iff.1 hc
          refine (S.run s none 0 [] [] w (fun hk => absurd hk (by decide)) (fun e he => by cases he) (by decide) (by show s.size + 0 ≤ _; omega)).mono ?_
          rintro e w' ⟨rfl, hB⟩
          exact ⟨σ, _, SubX.refl _ _, Dk.refl _ _, Nat.le_refl _, rfl, agg1_mk _ (by rw [szm]; show n = (s.data.toList ++ []).length; rw [List.append_nil, szl, g1]) (by show x = val (s.data.toList ++ []); rw [List.append_nil, g2]), ext_more H hB⟩
    · rename_i n x b off len lb
      split at hh
      · rename_i ty m ro u hc
        cases hb : (Nat.ble (off + len) m && (Nat.ble 1 len && Nat.ble len 1000000)) with
        | false => simp [hb] at hh
        | true =>
          simp only [hb, cond_true] at hh
          simp only [Bool.and_eq_true] at hb
          have b1 := ble_iff.1 hb.1
          have b2 := ble_iff.1 hb.2.1
          have b3 := ble_iff.1 hb.2.2
          split at hh
          · rename_i n' x' hcat
            cases hd : Nat.ble n' 140737488355328 with
            | false => simp [hd] at hh
            | true =>
              simp only [hd, cond_true, Option.some.injEq, Prod.mk.injEq] at hh
              obtain ⟨rfl, rfl, rfl⟩ := hh
              have hle := ble_iff.1 hd
              obtain ⟨hl, hi⟩ := hr
              match vs, hl with
              | [z1, z2], _ =>
                obtain ⟨s, rfl, g1, g2⟩ := agg1 (hi 0 _ z1 rfl rfl)
                have h2 := hi 1 _ z2 rfl rfl
                cases h2 with
                | sl _ _ _ _ _ r base size o cap hs q1 q2 q3 q4 =>
                obtain ⟨cs, fr, tt, k1, k2, k3, k4, k5⟩ := H.cells hs hc
                have ho := q3 (by omega)
                obtain ⟨ss, t1, t2, t3, t4⟩ := catRow_ok (σ := σ) (cs := cs) (base := base) len off n x s.data.toList hcat (by rw [g1, szl]) g2 (fun j hj hj' => by
                  obtain ⟨v, v1, v2, v3⟩ := k4 j (by omega)
                  exact ⟨v, v1, v3⟩)
                have hlen : ss.length = len := t1
                subst hlen
                have hsz : s.size + (joinB ss).length ≤ 140737488355328 := by
                  have t5 : n' = (s.data.toList ++ joinB ss).length := t3
                  rw [List.length_append, szl] at t5
                  omega
                refine (S.run s (some ⟨r, o, none⟩) cap ss [(r, .cells cs tt fr)] w (fun hk => ⟨r, o, cs, tt, fr, rfl, List.mem_singleton.2 rfl, fun j hj => ?_⟩) (fun e he => by rw [List.mem_singleton.1 he]; exact k1) (Nat.le_trans b3 (by decide)) hsz).mono ?_
                · rw [ho, show base + off + j = base + (off + j) by omega]; exact t2 j hj
                · rintro e w' ⟨rfl, hB⟩
                  exact ⟨σ, _, SubX.refl _ _, Dk.refl _ _, Nat.le_refl _, rfl, agg1_mk _ (by rw [szm]; exact t3) t4, ext_more H hB⟩
          · cases hh
      · cases hh
    · cases hh
/-- The last k bytes of a number. -/
def beL (n : Nat) : Nat → List UInt8
  | 0 => []
  | k + 1 => UInt8.ofNat (n / 256 ^ k) :: beL n k
theorem beL_len (n : Nat) : ∀ k, (beL n k).length = k
  | 0 => rfl
  | k + 1 => by rw [beL, List.length_cons, beL_len n k]
theorem val_beL (n : Nat) : ∀ k, val (beL n k) = n % 256 ^ k
  | 0 => by simp [beL, val, strOf, Nat.mod_one]
  | k + 1 => by
    have e : (UInt8.ofNat (n / 256 ^ k)).toNat = n / 256 ^ k % 256 := by simp
    rw [beL, val_cons, beL_len, val_beL n k, e, Nat.pow_succ, Nat.mod_mul, Nat.add_comm, Nat.mul_comm]
structure ByteOk (P : Program) (fB : Nat) : Prop where
  has : ∃ fn c, P.funcs[fB]? = some fn ∧ (fn.name == "runtime.NumGoroutine") = false ∧ fn.body = some c
  run : ∀ (s : ByteArray) (n : Nat) (w : World), n < 256 → s.size + 1 ≤ 140737488355328 →
    Calls P fB #[.agg #[.string s], .int .u8 (n : Int)] w fun e w' => e = .returned (.agg #[.string ⟨(s.data.toList ++ beL n 1).toArray⟩]) ∧ K.Ext [] w w'
def byteX (fB : Nat) : KF := fun f args h nx =>
  bif Nat.beq f fB then match args with
    | [.agg 1 (.str n x), .int .u8 (.ofNat c)] => bif Nat.blt c 256 && Nat.ble (n + 1) 140737488355328 then some (.agg 1 (.str (n + 1) (x * 256 + c)), h, nx) else none
    | _ => none
  else none
theorem byteX_ok {P : Program} {G fB : Nat} (S : ByteOk P fB) : XOk P G (byteX fB) := by
  intro f args h nx v h' nx' hh
  unfold byteX at hh
  cases hf : Nat.beq f fB with
  | false => simp [hf] at hh
  | true =>
    have := beqn_iff.1 hf
    subst this
    simp only [hf, cond_true] at hh
    intro σ w0 B w vs H hG hr
    unfold CalleeOk
    rw [if_pos (by omega), show 2 * f / 2 = f by omega]
    refine ⟨S.has, ?_⟩
    split at hh
    · rename_i n x c
      cases hc : (Nat.blt c 256 && Nat.ble (n + 1) 140737488355328) with
      | false => simp [hc] at hh
      | true =>
        simp only [hc, cond_true, Option.some.injEq, Prod.mk.injEq] at hh
        obtain ⟨rfl, rfl, rfl⟩ := hh
        simp only [Bool.and_eq_true] at hc
        have c1 := blt_iff.1 hc.1
        have c2 := ble_iff.1 hc.2
        obtain ⟨hl, hi⟩ := hr
        match vs, hl with
        | [u, z], _ =>
          obtain ⟨s, rfl, g1, g2⟩ := agg1 (hi 0 _ u rfl rfl)
          have h2 := hi 1 _ z rfl rfl
          cases h2
          refine (S.run s c w c1 (by omega)).mono ?_
          rintro e w' ⟨rfl, hB⟩
          refine ⟨σ, _, SubX.refl _ _, Dk.refl _ _, Nat.le_refl _, rfl, agg1_mk _ (by rw [szm, List.length_append, beL_len, szl, g1]) ?_, ext_more H hB⟩
          show x * 256 + c = val (s.data.toList ++ beL c 1)
          rw [val_append, beL_len, val_beL, g2]
          omega
    · cases hh
def joinN (m : Nat) (xs : List Nat) : List UInt8 := xs.flatMap fun n => beL n m
/-- A function that lays the numbers (kind k) of a row, m bytes each, behind a text. -/
structure RowOk (P : Program) (fF : Nat) (k : IntKind) (m : Nat) : Prop where
  has : ∃ fn c, P.funcs[fF]? = some fn ∧ (fn.name == "runtime.NumGoroutine") = false ∧ fn.body = some c
  run : ∀ (s : ByteArray) (la : Option Addr) (cap : Nat) (xs : List Nat) (Rl : List (Nat × Obj)) (w : World), K.InS Rl la xs.length (fun j => .int k ((xs.getD j 0 : Nat) : Int)) → K.Has w Rl → xs.length ≤ Go.maxLen → s.size + (joinN m xs).length ≤ 140737488355328 → (∀ i, xs.getD i 0 < 256 ^ m) →
    Calls P fF #[.agg #[.string s], .slice la xs.length cap] w fun e w' => e = .returned (.agg #[.string ⟨(s.data.toList ++ joinN m xs).toArray⟩]) ∧ K.Ext [] w w'
def numRow (k : IntKind) (d : Nat) (t : AV) (m : Nat) : Nat → Nat → Nat → Option Nat
  | 0, _, x => some x
  | q + 1, i, x => match cget d t i with
    | .int k' (.ofNat c) => bif Nat.beq (kn k) (kn k') && Nat.blt c (256 ^ m) then numRow k d t m q (i + 1) (x * 256 ^ m + c) else none
    | _ => none
def rowX (fF : Nat) (k : IntKind) (md : Nat) : KF := fun f args h nx =>
  bif Nat.beq f fF then match args with
    | [.agg 1 (.str n x), .sl b off len lb 1] => match cget HD h b with
      | .cells _ m _ u => bif Nat.ble (off + len) m && (Nat.ble 1 len && (Nat.ble len 1000000 && Nat.ble (n + len * md) 140737488355328)) then match numRow k (lg m) u md len off x with
        | some x' => some (.agg 1 (.str (n + len * md) x'), h, nx)
        | none => none
        else none
      | _ => none
    | _ => none
  else none
theorem numRow_ok {σ : Sg} {k : IntKind} {d m : Nat} {t : AV} {cs : Array Value} {base : Nat} : ∀ (q i x : Nat) (s : List UInt8) {a : Nat}, numRow k d t m q i x = some a → x = val s →
    (∀ j, i ≤ j → j < i + q → ∃ v, cs[base + j]? = some v ∧ Rel σ (cget d t j) v) →
    ∃ xs : List Nat, xs.length = q ∧ (∀ j, j < q → cs[base + (i + j)]? = some (.int k ((xs.getD j 0 : Nat) : Int))) ∧ (∀ y ∈ xs, y < 256 ^ m) ∧ (joinN m xs).length = q * m ∧ a = val (s ++ joinN m xs)
  | 0, i, x, s, a, h, hx, hc => by
    simp only [numRow, Option.some.injEq] at h
    subst h
    refine ⟨[], rfl, fun j hj => absurd hj (Nat.not_lt_zero j), ?_, ?_, ?_⟩
    · intro y hy; cases hy
    · simp [joinN]
    · simp [joinN, hx]
  | q + 1, i, x, s, a, h, hx, hc => by
    unfold numRow at h
    split at h
    · rename_i k' c heq
      cases hb : (Nat.beq (kn k) (kn k') && Nat.blt c (256 ^ m)) with
      | false => simp [hb] at h
      | true =>
        simp only [hb, cond_true] at h
        simp only [Bool.and_eq_true] at hb
        have hk := kn_inj hb.1
        subst hk
        have hc2 := blt_iff.1 hb.2
        obtain ⟨v, hv, hr⟩ := hc i (Nat.le_refl _) (by omega)
        rw [heq] at hr
        cases hr
        obtain ⟨xs, g1, g2, g3, g4, g5⟩ := numRow_ok q (i + 1) (x * 256 ^ m + c) (s ++ beL c m) h (by rw [val_append, beL_len, val_beL, hx, Nat.mod_eq_of_lt hc2]) (fun j hj hj' => hc j (by omega) (by omega))
        have e : joinN m (c :: xs) = beL c m ++ joinN m xs := by simp [joinN]
        refine ⟨c :: xs, by simp [g1], fun j hj => ?_, fun y hy => ?_, by rw [e, List.length_append, beL_len, g4, Nat.succ_mul, Nat.add_comm], by rw [e, ← List.append_assoc]; exact g5⟩
        · cases j with
          | zero => simp only [Nat.add_zero, List.getD_cons_zero]; exact hv
          | succ j => rw [List.getD_cons_succ, show i + (j + 1) = i + 1 + j by omega]; exact g2 j (by omega)
        · rcases List.mem_cons.1 hy with rfl | hy
          · exact hc2
          · exact g3 y hy
    · cases h
theorem rowX_ok {P : Program} {G fF md : Nat} {k : IntKind} (S : RowOk P fF k md) : XOk P G (rowX fF k md) := by
  intro f args h nx v h' nx' hh
  unfold rowX at hh
  cases hf : Nat.beq f fF with
  | false => simp [hf] at hh
  | true =>
    have := beqn_iff.1 hf
    subst this
    simp only [hf, cond_true] at hh
    intro σ w0 B w vs H hG hr
    unfold CalleeOk
    rw [if_pos (by omega), show 2 * f / 2 = f by omega]
    refine ⟨S.has, ?_⟩
    split at hh
    · rename_i n x b off len lb
      split at hh
      · rename_i ty m ro u hc
        cases hb : (Nat.ble (off + len) m && (Nat.ble 1 len && (Nat.ble len 1000000 && Nat.ble (n + len * md) 140737488355328))) with
        | false => simp [hb] at hh
        | true =>
          simp only [hb, cond_true] at hh
          simp only [Bool.and_eq_true] at hb
          have b1 := ble_iff.1 hb.1
          have b2 := ble_iff.1 hb.2.1
          have b3 := ble_iff.1 hb.2.2.1
          have hle := ble_iff.1 hb.2.2.2
          split at hh
          · rename_i x' hcat
            simp only [Option.some.injEq, Prod.mk.injEq] at hh
            obtain ⟨rfl, rfl, rfl⟩ := hh
            obtain ⟨hl, hi⟩ := hr
            match vs, hl with
            | [z1, z2], _ =>
              obtain ⟨s, rfl, g1, g2⟩ := agg1 (hi 0 _ z1 rfl rfl)
              have h2 := hi 1 _ z2 rfl rfl
              cases h2 with
              | sl _ _ _ _ _ r base size o cap hs q1 q2 q3 q4 =>
              obtain ⟨cs, fr, tt, k1, k2, k3, k4, k5⟩ := H.cells hs hc
              have ho := q3 (by omega)
              obtain ⟨xs, t1, t2, t3, t4, t5⟩ := numRow_ok (σ := σ) (cs := cs) (base := base) len off x s.data.toList hcat g2 (fun j hj hj' => by
                obtain ⟨v, v1, v2, v3⟩ := k4 j (by omega)
                exact ⟨v, v1, v3⟩)
              have hlen : xs.length = len := t1
              subst hlen
              refine (S.run s (some ⟨r, o, none⟩) cap xs [(r, .cells cs tt fr)] w (fun hk => ⟨r, o, cs, tt, fr, rfl, List.mem_singleton.2 rfl, fun j hj => ?_⟩) (fun e he => by rw [List.mem_singleton.1 he]; exact k1) (Nat.le_trans b3 (by decide)) (by rw [t4, ← g1]; exact hle) (fun i => ?_)).mono ?_
              · rw [ho, show base + off + j = base + (off + j) by omega]; exact t2 j hj
              · rw [List.getD_eq_getElem?_getD]
                cases he : xs[i]? with
                | none => exact Nat.pow_pos (by decide)
                | some y => exact t3 y (List.mem_of_getElem? he)
              · rintro e w' ⟨rfl, hB⟩
                exact ⟨σ, _, SubX.refl _ _, Dk.refl _ _, Nat.le_refl _, rfl, agg1_mk _ (by rw [szm, List.length_append, t4, szl, g1]) t5, ext_more H hB⟩
          · cases hh
      · cases hh
    · cases hh
end I
end Go.Proofs.YtdjpokckamlccaaGreatDoor
namespace Go.Proofs.YtdjpokckamlccaaGreatDoor
set_option linter.unusedVariables false
theorem be_beL (n : Nat) : ∀ k, be n k = I.beL n k
  | 0 => rfl
  | k + 1 => by rw [be, I.beL, be_beL n k]
theorem flat_four (xs : List Nat) : flat four xs = I.joinN 4 xs := by
  show xs.flatMap (fun n => be n 4) = xs.flatMap (fun n => I.beL n 4)
  rw [show (fun n => be n 4) = fun n => I.beL n 4 from funext fun n => be_beL n 4]
theorem withOk : I.WithOk Tryz.prog 155 := ⟨⟨_, _, Tryz.func155, rfl, rfl⟩, fun s la cap ss Rl w hI hR hn hr => wWith s la cap ss Rl w hI hR hn hr⟩
theorem rawOk : I.WithOk Tryz.prog 173 := ⟨⟨_, _, Tryz.func173, rfl, rfl⟩, fun s la cap ss Rl w hI hR hn hr => wRaw s la cap ss Rl w hI hR hn hr⟩
theorem byteOk : I.ByteOk Tryz.prog 85 := ⟨⟨_, _, Tryz.func85, rfl, rfl⟩, fun s n w hn hr => by
  have h := wByte s n w hn hr
  rw [be_beL] at h
  exact h⟩
theorem fourOk : I.RowOk Tryz.prog 161 .u32 4 := ⟨⟨_, _, Tryz.func161, rfl, rfl⟩, fun s la cap xs Rl w hI hR hn hr hx => by
  have h := wFour s la cap xs Rl w hI hR hn (by rw [flat_four]; exact hr) hx
  rw [flat_four] at h
  exact h⟩
end Go.Proofs.YtdjpokckamlccaaGreatDoor
namespace Go.Proofs.YtdjpokckamlccaaGreatDoor
namespace I
open Go.RowKit Go.Maps Go.Sort Go.Shelf Go.WideElems
set_option linter.unusedVariables false
/-- How a map's values read: not at all. -/
def noRead (_ : Value) : Option (DataW Unit × List MemPlace) := some (.nil, [])
theorem keyOf_int {P : Program} {k : TypeId} {x : Int} (hk : P.underlying k = some (.int .i64)) (hw : (Lit.int .i64 x).wf = true) : keyOf P k (encZ x) = some (.int .i64 x) := by
  simp [keyOf, hk, mapKey, hw]
theorem keys_perm {P : Program} {k : TypeId} (hk : P.underlying k = some (.int .i64)) : ∀ {es : List MapEntry} {ks : List Int}, es.map (·.key) = ks.map encZ → (∀ x ∈ ks, (Lit.int .i64 x).wf = true) →
    (∀ x ∈ es, ∃ y, rd P k noRead x = some y) ∧ (es.map (rg P k noRead)).map (fun p => intOf p.1) = ks
  | [], [], _, _ => ⟨fun x hx => (by cases hx), rfl⟩
  | [], _ :: _, h, _ => by simp at h
  | _ :: _, [], h, _ => by simp at h
  | e :: es, x :: ks, h, hw => by
    simp only [List.map_cons, List.cons.injEq] at h
    obtain ⟨h1, h2⟩ := h
    obtain ⟨g1, g2⟩ := keys_perm hk h2 (fun y hy => hw y (List.mem_cons_of_mem _ hy))
    have hrd : rd P k noRead e = some (.int .i64 x, .nil) := by
      have := keyOf_int hk (hw x (List.mem_cons_self ..))
      simp [rd, h1, this, noRead]
    refine ⟨fun y hy => ?_, ?_⟩
    · rcases List.mem_cons.1 hy with rfl | hy
      · exact ⟨_, hrd⟩
      · exact g1 y hy
    · simp only [List.map_cons, g2, rg_of hrd]
      rfl
theorem sortedKeys_of {P : Program} {ρk ρs : Ren} (Lk : SlLaysZI.n7 P ρk) (Ls : SlLaysZI.n6 P ρs) (hsort : ∀ m, AnyZI.SortsIn P ρs Fence.wide m) (e9 : ∀ args w, (callFunc (ρs.f 9) args).run P w = .ok (.enter (ρs.f 9) args) w) :
    SortedKeys P (ρs.f 6) (ρk.f 10) (ρs.t 26) := by
  have eg : ∀ args w, (callFunc (ρk.f 10) args).run P w = .ok (.enter (ρk.f 10) args) w := Lk.f10.enters rfl
  refine ⟨?_, fun Bm b es clock ks w hb hst hk hw hle hcell => ?_, fun Bm w hcell => ?_⟩
  · obtain ⟨nm, h1, h2⟩ := Ls.f6
    exact ⟨_, _, h2, h1, rfl⟩
  · obtain ⟨g1, g2⟩ := keys_perm (P := P) Lk.t26 hk hw
    have hlen : es.size = ks.length := by
      have := congrArg List.length hk
      simpa using this
    have hp : (intKeys (DataW.map ((es.toList.map (rg P (ρk.t 26) noRead)).foldr DataW.insert []))).Perm ks := by
      have := ((WideShapes.sorted_perm (es.toList.map (rg P (ρk.t 26) noRead))).map (fun p => intOf p.1))
      rw [g2] at this
      exact this
    have hsz : Maps.size (DataW.map ((es.toList.map (rg P (ρk.t 26) noRead)).foldr DataW.insert [])) = ks.length := by
      have := (WideShapes.sorted_perm (es.toList.map (rg P (ρk.t 26) noRead))).length_eq
      simpa [Maps.size, hlen] using this
    have hown : w.ownsMap P (ρk.t 26) noRead b es.size (DataW.map ((es.toList.map (rg P (ρk.t 26) noRead)).foldr DataW.insert [])) :=
      ⟨es, clock, hb, ⟨by rw [hlen]; exact Nat.le_trans hle (by decide), hst, g1⟩, Nat.le_refl _, rfl⟩
    have hBm : Bm < w.heap.size := by
      cases hx : w.heap[Bm]? with
      | none => simp [World.cell?, hx] at hcell
      | some o => exact (Array.getElem?_eq_some_iff.1 hx).1
    have hseq := AnyZI.keys_gives (ρ := ρk) { Lk with } Fence.wide 2 trivial rfl (by omega) Bm b es.size _ w hBm hcell hown
    have cS := AnyZI.sorted_in Ls Fence.wide 5 trivial trivial trivial trivial rfl (by omega) (hsort _) e9 (ρk.f 10) #[.pointer (some ⟨Bm, 0, none⟩)] trivial eg _ _ (by rw [hsz]; exact Nat.le_trans hle (by decide)) (by rw [hsz]; omega) w hseq
    refine ((callsIn_wide (n := 5)).1 cS).mono ?_
    rintro e w' ⟨v, ss, rfl, hS, hrow, hnil, hB⟩
    have hpp : ss.Perm ks := hS.trans hp
    rw [hpp.length_eq, mergeSort_of_perm_i hpp] at hrow
    refine ⟨v, rfl, hrow, ?_, hB⟩
    rw [hnil]
    constructor
    · intro h; subst h; exact List.Perm.nil_eq hpp |>.symm
    · intro h; subst h; exact List.Perm.eq_nil hpp
  · have hBm : Bm < w.heap.size := by
      cases hx : w.heap[Bm]? with
      | none => simp [World.cell?, hx] at hcell
      | some o => exact (Array.getElem?_eq_some_iff.1 hx).1
    have hseq := AnyZI.keys_gives_nil (ρ := ρk) { Lk with } Fence.wide 2 trivial rfl Bm w hBm hcell
    have cS := AnyZI.sorted_in Ls Fence.wide 5 trivial trivial trivial trivial rfl (by omega) (hsort _) e9 (ρk.f 10) #[.pointer (some ⟨Bm, 0, none⟩)] trivial eg _ 0 (Nat.zero_le _) (by omega) w hseq
    refine ((callsIn_wide (n := 5)).1 cS).mono ?_
    rintro e w' ⟨v, ss, rfl, rfl, hrow, hnil, hB⟩
    obtain rfl := hnil.2 rfl
    exact ⟨rfl, hB⟩
end I
end Go.Proofs.YtdjpokckamlccaaGreatDoor
namespace Go.Proofs.YtdjpokckamlccaaGreatDoor
namespace I
open K (one aggB run_underlying' run_sizeOf' add_none run_v cell_cells)
set_option linter.unusedVariables false
/-- What the two functions come to. -/
structure SortedKeysS (P : Program) (fS fK ety : Nat) : Prop where
  has : ∃ fn c, P.funcs[fS]? = some fn ∧ (fn.name == "runtime.NumGoroutine") = false ∧ fn.body = some c
  some : ∀ (Bm b : Nat) (es : Array MapEntry) (clock : Nat) (ks : List (List UInt8)) (w : World), w.heap[b]? = .some (.map es clock) → Go.MapKept.Stamped es clock → es.toList.map (·.key) = ks.map Go.Proofs.encStr →
    (∀ x ∈ ks, x.length ≤ Go.maxLen) → ks.length ≤ 1000000 → w.cell? ⟨Bm, 0, none⟩ = .some (.map (.some b)) →
    Calls P fS #[.func (.func fK) #[] #[.pointer (.some ⟨Bm, 0, none⟩)]] w fun e w' => ∃ v, e = .returned v ∧ w'.ownsRow w.heap.size ety 1 v ks.length ((ks.mergeSort leB).map Go.Proofs.encStr) ∧ (v = .slice none 0 0 ↔ ks = []) ∧ Go.RowKit.Below w.heap.size w w'
  none : ∀ (Bm : Nat) (w : World), w.cell? ⟨Bm, 0, none⟩ = .some (.map none) →
    Calls P fS #[.func (.func fK) #[] #[.pointer (.some ⟨Bm, 0, none⟩)]] w fun e w' => e = .returned (.slice none 0 0) ∧ Go.RowKit.Below w.heap.size w w'
/-- The keys of a map. -/
def keysS : AV → Option (List (Nat × Nat))
  | .lcons (.lcons (.str n x) _) l => match keysS l with
    | some ks => bif Nat.ble n 1000000 then some ((n, x) :: ks) else none
    | none => none
  | .lnil => some []
  | _ => none
def insS (p : Nat × Nat) : List (Nat × Nat) → List (Nat × Nat)
  | [] => [p]
  | q :: l => bif strLess q.1 q.2 p.1 p.2 then q :: insS p l else p :: q :: l
def sortS : List (Nat × Nat) → List (Nat × Nat)
  | [] => []
  | p :: l => insS p (sortS l)
def strA (p : Nat × Nat) : AV := .str p.1 p.2
def sortXS (fS fK ety : Nat) : KF := fun f args h nx =>
  bif Nat.beq f fS then match args with
    | [.fn g .lnil (.lcons (.ptr b 0) .lnil)] => bif Nat.beq g fK then match cget HD h b with
      | .cells _ n _ t => bif Nat.blt 0 n then match cget (lg n) t 0 with
        | .map m => match cget HD h m with
          | .mp l => match keysS l with
            | some ks => bif Nat.beq ks.length 0 then some (.nils, h, nx) else
              bif Nat.blt nx (2 ^ HD) && Nat.ble ks.length 1000000 then
                some (.sl nx 0 ks.length ks.length 1, cput HD h nx (.cells (2 * ety) ks.length false (cmk (fun i => strA ((sortS ks).getD i (0, 0))) (lg ks.length) 0 ks.length)), nx + 1) else none
            | none => none
          | _ => none
        | .nilm => some (.nils, h, nx)
        | _ => none
        else none
      | _ => none
      else none
    | _ => none
  else none
section
variable {P : Program} {G : Nat} {σ : Sg}
/-- A text's numbers. -/
def enS (l : List UInt8) : Nat × Nat := (l.length, val l)
theorem enS_less (a b : List UInt8) : strLess (enS a).1 (enS a).2 (enS b).1 (enS b).2 = decide (a < b) := by
  show strLess a.length (val a) b.length (val b) = _
  rw [← strLess_ok]; exact Go.Proofs.bytesLess_eq a b
def insB (x : List UInt8) : List (List UInt8) → List (List UInt8)
  | [] => [x]
  | y :: l => bif decide (y < x) then y :: insB x l else x :: y :: l
def sortB : List (List UInt8) → List (List UInt8)
  | [] => []
  | x :: l => insB x (sortB l)
theorem insS_map (x : List UInt8) : ∀ l, insS (enS x) (l.map enS) = (insB x l).map enS
  | [] => rfl
  | y :: l => by
    simp only [List.map_cons, insS, insB, enS_less]
    cases decide (y < x) with
    | true => simp only [cond_true, List.map_cons, insS_map x l]
    | false => simp only [cond_false, List.map_cons]
theorem sortS_map : ∀ l, sortS (l.map enS) = (sortB l).map enS
  | [] => rfl
  | x :: l => by simp only [List.map_cons, sortS, sortB, sortS_map l, insS_map]
theorem insB_perm (x : List UInt8) : ∀ l, (insB x l).Perm (x :: l)
  | [] => .refl _
  | y :: l => by
    unfold insB
    cases decide (y < x) with
    | true => exact ((insB_perm x l).cons y).trans (.swap x y l)
    | false => exact .refl _
theorem sortB_perm : ∀ l, (sortB l).Perm l
  | [] => .refl _
  | x :: l => (insB_perm x _).trans ((sortB_perm l).cons x)
theorem insB_sorted (x : List UInt8) : ∀ l, l.Pairwise (fun a b => leB a b = true) → (insB x l).Pairwise (fun a b => leB a b = true)
  | [], _ => by simp [insB]
  | y :: l, h => by
    obtain ⟨h1, h2⟩ := List.pairwise_cons.1 h
    unfold insB
    cases hb : decide (y < x) with
    | true =>
      have hlt := of_decide_eq_true hb
      simp only [cond_true]
      refine List.pairwise_cons.2 ⟨fun z hz => ?_, insB_sorted x l h2⟩
      rcases List.mem_cons.1 ((insB_perm x l).mem_iff.1 hz) with rfl | hz
      · exact decide_eq_true (List.le_of_lt hlt)
      · exact h1 z hz
    | false =>
      have hle := of_decide_eq_false hb
      simp only [cond_false]
      refine List.pairwise_cons.2 ⟨fun z hz => ?_, h⟩
      rcases List.mem_cons.1 hz with rfl | hz
      · exact decide_eq_true hle
      · have := of_decide_eq_true (h1 z hz)
        exact decide_eq_true (List.le_trans hle this)
theorem sortB_sorted : ∀ l, (sortB l).Pairwise (fun a b => leB a b = true)
  | [] => .nil
  | x :: l => insB_sorted x _ (sortB_sorted l)
theorem sortB_eq (l : List (List UInt8)) : l.mergeSort leB = sortB l := by
  have tr : ∀ a b c : List UInt8, leB a b = true → leB b c = true → leB a c = true := fun a b c h1 h2 => by simp only [leB, decide_eq_true_eq] at *; exact List.le_trans h1 h2
  have to : ∀ a b : List UInt8, (leB a b || leB b a) = true := fun a b => by simp only [leB, Bool.or_eq_true, decide_eq_true_eq]; exact List.le_total a b
  refine List.Perm.eq_of_pairwise (le := fun a b => leB a b = true) (fun a b _ _ h1 h2 => ?_) (List.pairwise_mergeSort tr to l) (sortB_sorted l) ((List.mergeSort_perm l leB).trans (sortB_perm l).symm)
  simp only [leB, decide_eq_true_eq] at h1 h2
  exact List.le_antisymm h1 h2
theorem keysS_ok : ∀ {l : AV} {es : List MapEntry} {ks : List (Nat × Nat)}, EsRel σ l es → keysS l = some ks → ∃ bs : List (List UInt8), ks = bs.map enS ∧ es.map (·.key) = bs.map Go.Proofs.encStr ∧ ∀ x ∈ bs, x.length ≤ Go.maxLen
  | .lcons (.lcons k v) l, es, ks, he, h => by
    obtain ⟨e, es', rfl, h1, h2, h3⟩ := he.cons_of
    unfold keysS at h
    split at h
    · rename_i n x _ l' heq
      simp only [AV.lcons.injEq] at heq
      obtain ⟨⟨rfl, _⟩, rfl⟩ := heq
      split at h
      · rename_i ks' hk
        cases hb : Nat.ble n 1000000 with
        | false => simp [hb] at h
        | true =>
        have hn6 := ble_iff.1 hb
        simp only [hb, cond_true, Option.some.injEq] at h
        subst h
        obtain ⟨bs, g1, g2, g3⟩ := keysS_ok h3 hk
        generalize hkv : e.key = kv at h1
        cases h1 with
        | str s _ _ hn hx =>
        refine ⟨s.data.toList :: bs, ?_, ?_, fun y hy => ?_⟩
        · rw [g1, List.map_cons, enS, hn, hx]; rfl
        · rw [List.map_cons, List.map_cons, g2, hkv]
        · rcases List.mem_cons.1 hy with rfl | hy
          · rw [Array.length_toList]
            have : s.data.size = n := hn.symm
            have h7 : 1000000 ≤ Go.maxLen := by decide
            omega
          · exact g3 y hy
      · cases h
    · rename_i heq; cases heq
    · cases h
  | .lnil, es, ks, he, h => by
    have := he.nil_of
    subst this
    simp only [keysS, Option.some.injEq] at h
    subst h
    exact ⟨[], rfl, rfl, fun x hx => by cases hx⟩
theorem sortXS_ok {fS fK ety : Nat} (S : SortedKeysS P fS fK ety) : XOk P G (sortXS fS fK ety) := by
  intro f args h nx v h' nx' hh
  unfold sortXS at hh
  cases hf : Nat.beq f fS with
  | false => simp [hf] at hh
  | true =>
    have := beqn_iff.1 hf
    subst this
    simp only [hf, cond_true] at hh
    intro σ w0 B w vs H hG hr
    unfold CalleeOk
    rw [if_pos (by omega), show 2 * f / 2 = f by omega]
    refine ⟨S.has, ?_⟩
    split at hh
    · rename_i g b
      cases hg : Nat.beq g fK with
      | false => simp [hg] at hh
      | true =>
        have := beqn_iff.1 hg
        subst this
        simp only [hg, cond_true] at hh
        have hv : ∃ bm : Nat, ∃ base size, vs = [.func (.func g) #[] #[.pointer (some ⟨bm, base, none⟩)]] ∧ σ b = some (bm, base, size) := by
          obtain ⟨hl, hi⟩ := hr
          match vs, hl with
          | [u], _ =>
            have h1 := hi 0 _ u rfl rfl
            cases h1 with
            | fn _ _ _ xs ys e1 e2 e3 e4 =>
            have hx : xs = #[] := by
              apply Array.eq_empty_of_size_eq_zero
              simpa [toList] using e1.symm
            have hy : ∃ y, ys = #[y] := by
              have : ys.size = 1 := by simpa [toList] using e2.symm
              exact ⟨ys[0], by apply Array.ext <;> simp [this]; intro i hi; subst hi; rfl⟩
            obtain ⟨y, rfl⟩ := hy
            have h2 := e4 0 (.ptr b 0) y rfl rfl
            cases h2 with
            | ptr _ _ r base size o q1 q2 => exact ⟨r, base, size, by subst hx; simp [q2], q1⟩
        obtain ⟨bm, base, size, rfl, hb⟩ := hv
        split at hh
        · rename_i ty n ro t hc
          cases hn : Nat.blt 0 n with
          | false => simp [hn] at hh
          | true =>
            have hn' := blt_iff.1 hn
            simp only [hn, cond_true] at hh
            obtain ⟨cs, fr, tt, g1, g2, ⟨rfl, g3, _⟩, g4, g5⟩ := H.cells hb hc
            obtain ⟨u, u1, u2, u3⟩ := g4 0 hn'
            have hcell : w.cell? ⟨bm, 0, none⟩ = some u := by
              rw [cell_cells g1]; simpa using u1
            split at hh
            · rename_i m hm
              rw [hm] at u3
              cases u3 with
              | map _ r mbase msize hs =>
              split at hh
              · rename_i l hl
                obtain ⟨es, clock, h2, h3, h4, hst⟩ := H.mp hs hl
                split at hh
                · rename_i ks hks
                  obtain ⟨bs, k0, k1, k2⟩ := keysS_ok h3 hks
                  have hkl : ks.length = bs.length := by rw [k0, List.length_map]
                  cases hz : Nat.beq ks.length 0 with
                  | true =>
                    simp only [hz, cond_true, Option.some.injEq, Prod.mk.injEq] at hh
                    obtain ⟨rfl, rfl, rfl⟩ := hh
                    have hnil : bs = [] := List.eq_nil_of_length_eq_zero (by rw [← hkl]; exact beqn_iff.1 hz)
                    refine (S.some bm r es clock bs w h2 hst k1 k2 (by simp [hnil]) hcell).mono ?_
                    rintro e w' ⟨v, rfl, _, hv, hB⟩
                    obtain rfl := hv.2 hnil
                    exact ⟨σ, _, SubX.refl _ _, Dk.refl _ _, Nat.le_refl _, rfl, .nils, H.more hB.block hB.size hB.os hB.tape hB.output⟩
                  | false =>
                    simp only [hz, cond_false] at hh
                    cases hq : (Nat.blt nx (2 ^ HD) && Nat.ble ks.length 1000000) with
                    | false => simp [hq] at hh
                    | true =>
                      simp only [hq, cond_true, Option.some.injEq, Prod.mk.injEq] at hh
                      obtain ⟨rfl, rfl, rfl⟩ := hh
                      simp only [Bool.and_eq_true] at hq
                      have hnx := blt_iff.1 hq.1
                      have hle := ble_iff.1 hq.2
                      have hk0 : ks.length ≠ 0 := fun e => by rw [beqn_iff.2 e] at hz; cases hz
                      refine (S.some bm r es clock bs w h2 hst k1 k2 (by omega) hcell).mono ?_
                      rintro e w' ⟨v, rfl, hrow, hv, hB⟩
                      rcases hrow.2 with ⟨_, h0⟩ | ⟨gb, cap, cur, rfl, hbase, hgb, r1, r2, r3, r4⟩
                      · exact absurd (hkl.trans h0) hk0
                      · have H1 := (H.more hB.block hB.size hB.os hB.tape hB.output).skip (Nat.le_succ nx) hnx
                        have h0 : σ nx = none := by
                          cases hx : σ nx with
                          | none => rfl
                          | some p => have := H.dom nx p hx; omega
                        obtain ⟨hsub, H2⟩ := H1.bind (p := (gb, 0, cur.size)) h0 (Nat.lt_succ_self nx)
                        have hcell' : ∀ i, i < ks.length → ∃ l, (sortS ks).getD i (0, 0) = enS l ∧ cur[i]? = some (Go.Proofs.encStr l) := fun i hi => by
                          have e1 : (cur.toList.take (bs.length * 1))[i]? = ((bs.mergeSort leB).map Go.Proofs.encStr)[i]? := by rw [r4]
                          rw [sortB_eq, List.getElem?_take, if_pos (by omega), List.getElem?_map] at e1
                          have hlen : (sortB bs).length = bs.length := (sortB_perm bs).length_eq
                          have hi' : i < (sortB bs).length := by omega
                          refine ⟨(sortB bs)[i], ?_, ?_⟩
                          · rw [k0, sortS_map, List.getD_eq_getElem?_getD, List.getElem?_map, List.getElem?_eq_getElem hi']; rfl
                          · rw [Array.getElem?_toList] at e1
                            rw [e1, List.getElem?_eq_getElem hi']; rfl
                        have hblk : BlkRel (ext σ nx (gb, 0, cur.size)) w0 B w' nx (.cells (2 * ety) ks.length false (cmk (fun i => strA ((sortS ks).getD i (0, 0))) (lg ks.length) 0 ks.length)) := by
                          refine ⟨gb, 0, cur.size, cur, (0, 0), ety, by simp [ext], hgb, rfl, ⟨rfl, by omega, fun hx => by omega⟩, fun i hi => by
                            obtain ⟨l, c1, c2⟩ := hcell' i hi
                            refine ⟨Go.Proofs.encStr l, by rw [Nat.zero_add]; exact c2, rfl, ?_⟩
                            rw [cget_cmk _ _ _ _ _ (lg_le _) hi, Nat.zero_add]
                            show Rel _ (strA ((sortS ks).getD i (0, 0))) _
                            rw [c1]
                            exact .str ⟨l.toArray⟩ _ _ (by simp [enS, ByteArray.size]) (by simp [enS]), fun _ => ⟨calm0 _, .inr (Nat.le_trans H.size hbase)⟩, fun _ => (even_half ety).symm⟩
                        have H3 := H2.lay (b0 := nx) (p := (gb, 0, cur.size)) (by simp [ext]) hblk (Nat.le_trans H.size hbase) (fun c q hcn hq hl => by
                          unfold ext at hq
                          rw [if_neg hcn] at hq
                          have := H.real_lt hq hl
                          omega)
                        refine ⟨_, _, ⟨hsub, fun c hc => by unfold ext; rw [if_neg (by omega)]⟩, fun c hc hlc => ?_, Nat.le_succ nx, rfl, ?_, H3⟩
                        · rw [cget_cput HD h nx c _ hnx (by omega), if_neg (by omega)] at hlc
                          exact hlc
                        · rw [← hkl] at r1 ⊢
                          exact .sl nx 0 _ _ 1 gb 0 cur.size 0 cap (by simp [ext]) (Nat.le_refl _) r1 (fun _ => rfl) (by omega)
                · cases hh
              · cases hh
            · rename_i hm
              rw [hm] at u3
              cases u3
              simp only [Option.some.injEq, Prod.mk.injEq] at hh
              obtain ⟨rfl, rfl, rfl⟩ := hh
              refine (S.none bm w hcell).mono ?_
              rintro e w' ⟨rfl, hB⟩
              exact ⟨σ, _, SubX.refl _ _, Dk.refl _ _, Nat.le_refl _, rfl, .nils, H.more hB.block hB.size hB.os hB.tape hB.output⟩
            · cases hh
        · cases hh
    · cases hh
end
end I
end Go.Proofs.YtdjpokckamlccaaGreatDoor
namespace Go.Proofs.YtdjpokckamlccaaGreatDoor
namespace I
open Go.RowKit Go.Maps Go.Sort Go.Shelf Go.WideElems
set_option linter.unusedVariables false
/-- How a map's values read: not at all. -/
def noReadS (_ : Value) : Option (DataW Unit × List MemPlace) := some (.nil, [])
theorem keyOf_strE {P : Program} {k : TypeId} {x : List UInt8} (hk : P.underlying k = some .string) (hl : x.length ≤ maxLen) : keyOf P k (Go.Proofs.encStr x) = some (.string x) := by
  simp [keyOf, hk, mapKey, Go.Proofs.encStr, ByteArray.size]
  exact hl
theorem keys_permS {P : Program} {k : TypeId} (hk : P.underlying k = some .string) : ∀ {es : List MapEntry} {ks : List (List UInt8)}, es.map (·.key) = ks.map Go.Proofs.encStr → (∀ x ∈ ks, x.length ≤ maxLen) →
    (∀ x ∈ es, ∃ y, rd P k noReadS x = some y) ∧ (es.map (rg P k noReadS)).map (fun p => Go.strOf p.1) = ks
  | [], [], _, _ => ⟨fun x hx => (by cases hx), rfl⟩
  | [], _ :: _, h, _ => by simp at h
  | _ :: _, [], h, _ => by simp at h
  | e :: es, x :: ks, h, hw => by
    simp only [List.map_cons, List.cons.injEq] at h
    obtain ⟨h1, h2⟩ := h
    obtain ⟨g1, g2⟩ := keys_permS hk h2 (fun y hy => hw y (List.mem_cons_of_mem _ hy))
    have hrd : rd P k noReadS e = some (.string x, .nil) := by
      have := keyOf_strE hk (hw x (List.mem_cons_self ..))
      simp [rd, h1, this, noReadS]
    refine ⟨fun y hy => ?_, ?_⟩
    · rcases List.mem_cons.1 hy with rfl | hy
      · exact ⟨_, hrd⟩
      · exact g1 y hy
    · simp only [List.map_cons, g2, rg_of hrd]
      rfl
theorem sortedKeysS_of {P : Program} {ρk ρs : Ren} (Lk : SlLaysZ.n7 P ρk) (Ls : SlLaysZ.n6 P ρs) (hsort : ∀ m, AnyZ.SortsIn P ρs Fence.wide m) (e9 : ∀ args w, (callFunc (ρs.f 9) args).run P w = .ok (.enter (ρs.f 9) args) w) :
    SortedKeysS P (ρs.f 6) (ρk.f 10) (ρs.t 26) := by
  have eg : ∀ args w, (callFunc (ρk.f 10) args).run P w = .ok (.enter (ρk.f 10) args) w := Lk.f10.enters rfl
  refine ⟨?_, fun Bm b es clock ks w hb hst hk hw hle hcell => ?_, fun Bm w hcell => ?_⟩
  · obtain ⟨nm, h1, h2⟩ := Ls.f6
    exact ⟨_, _, h2, h1, rfl⟩
  · obtain ⟨g1, g2⟩ := keys_permS (P := P) Lk.t26 hk hw
    have hlen : es.size = ks.length := by
      have := congrArg List.length hk
      simpa using this
    have hp : (strKeys (DataW.map ((es.toList.map (rg P (ρk.t 26) noReadS)).foldr DataW.insert []))).Perm ks := by
      have := ((WideShapes.sorted_perm (es.toList.map (rg P (ρk.t 26) noReadS))).map (fun p => Go.strOf p.1))
      rw [g2] at this
      exact this
    have hsz : Maps.size (DataW.map ((es.toList.map (rg P (ρk.t 26) noReadS)).foldr DataW.insert [])) = ks.length := by
      have := (WideShapes.sorted_perm (es.toList.map (rg P (ρk.t 26) noReadS))).length_eq
      simpa [Maps.size, hlen] using this
    have hown : w.ownsMap P (ρk.t 26) noReadS b es.size (DataW.map ((es.toList.map (rg P (ρk.t 26) noReadS)).foldr DataW.insert [])) :=
      ⟨es, clock, hb, ⟨by rw [hlen]; exact Nat.le_trans hle (by decide), hst, g1⟩, Nat.le_refl _, rfl⟩
    have hBm : Bm < w.heap.size := by
      cases hx : w.heap[Bm]? with
      | none => simp [World.cell?, hx] at hcell
      | some o => exact (Array.getElem?_eq_some_iff.1 hx).1
    have hseq := AnyZ.keys_gives (ρ := ρk) { Lk with } Fence.wide 2 trivial rfl (by omega) Bm b es.size _ w hBm hcell hown
    have cS := AnyZ.sorted_in Ls Fence.wide 5 trivial trivial trivial trivial rfl (by omega) (hsort _) e9 (ρk.f 10) #[.pointer (some ⟨Bm, 0, none⟩)] trivial eg _ _ (by rw [hsz]; exact Nat.le_trans hle (by decide)) (by rw [hsz]; omega) w hseq
    refine ((callsIn_wide (n := 5)).1 cS).mono ?_
    rintro e w' ⟨v, ss, rfl, hS, hrow, hnil, hB⟩
    have hpp : ss.Perm ks := hS.trans hp
    rw [hpp.length_eq, mergeSort_of_perm hpp] at hrow
    refine ⟨v, rfl, hrow, ?_, hB⟩
    rw [hnil]
    constructor
    · intro h; subst h; exact List.Perm.nil_eq hpp |>.symm
    · intro h; subst h; exact List.Perm.eq_nil hpp
  · have hBm : Bm < w.heap.size := by
      cases hx : w.heap[Bm]? with
      | none => simp [World.cell?, hx] at hcell
      | some o => exact (Array.getElem?_eq_some_iff.1 hx).1
    have hseq := AnyZ.keys_gives_nil (ρ := ρk) { Lk with } Fence.wide 2 trivial rfl Bm w hBm hcell
    have cS := AnyZ.sorted_in Ls Fence.wide 5 trivial trivial trivial trivial rfl (by omega) (hsort _) e9 (ρk.f 10) #[.pointer (some ⟨Bm, 0, none⟩)] trivial eg _ 0 (Nat.zero_le _) (by omega) w hseq
    refine ((callsIn_wide (n := 5)).1 cS).mono ?_
    rintro e w' ⟨v, ss, rfl, rfl, hrow, hnil, hB⟩
    obtain rfl := hnil.2 rfl
    exact ⟨rfl, hB⟩
end I
end Go.Proofs.YtdjpokckamlccaaGreatDoor
