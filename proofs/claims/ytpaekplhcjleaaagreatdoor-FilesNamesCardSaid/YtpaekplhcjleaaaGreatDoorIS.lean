import Derived.Test.YtpaekplhcjleaaaGreatDoorI22
import Derived.Lib.SlKeysI
import Derived.Below
namespace Go.Proofs.YtpaekplhcjleaaaGreatDoor
namespace I
open K (one aggB run_underlying' run_sizeOf' add_none run_v cell_cells)

set_option linter.unusedVariables false

/-! ### slices.Sorted(maps.Keys(m)), keys of kind int -/
/-- What the two functions come to. -/
structure SortedKeys (P : Program) (fS fK ety : Nat) : Prop where
  has : ∃ fn c, P.funcs[fS]? = some fn ∧ (fn.name == "runtime.NumGoroutine") = false ∧ fn.body = some c
  some : ∀ (Bm b : Nat) (es : Array MapEntry) (clock : Nat) (ks : List Int) (w : World), w.heap[b]? = .some (.map es clock) → Go.MapKept.Stamped es clock → es.toList.map (·.key) = ks.map encZ →
    (∀ x ∈ ks, (Lit.int .i64 x).wf = true) → ks.length ≤ 1000000 → w.cell? ⟨Bm, 0, none⟩ = .some (.map (.some b)) →
    Calls P fS #[.func (.func fK) #[] #[.pointer (.some ⟨Bm, 0, none⟩)]] w fun e w' => ∃ v, e = .returned v ∧ w'.ownsRow w.heap.size ety 1 v ks.length ((ks.mergeSort leI).map encZ) ∧ (v = .slice none 0 0 ↔ ks = []) ∧ Go.RowKit.Below w.heap.size w w'
  none : ∀ (Bm : Nat) (w : World), w.cell? ⟨Bm, 0, none⟩ = .some (.map none) →
    Calls P fS #[.func (.func fK) #[] #[.pointer (.some ⟨Bm, 0, none⟩)]] w fun e w' => e = .returned (.slice none 0 0) ∧ Go.RowKit.Below w.heap.size w w'

def in64 : Int → Bool
  | .ofNat a => Nat.blt a 9223372036854775808
  | .negSucc a => Nat.blt a 9223372036854775808

/-- The keys of a map. -/
def keysI : AV → Option (List Int)
  | .lcons (.lcons (.int .i64 x) _) l => match keysI l with
    | some ks => bif in64 x then some (x :: ks) else none
    | none => none
  | .lnil => some []
  | _ => none

def insI (x : Int) : List Int → List Int
  | [] => [x]
  | y :: l => bif ilt y x then y :: insI x l else x :: y :: l
def sortI : List Int → List Int
  | [] => []
  | x :: l => insI x (sortI l)

def sortX (fS fK ety : Nat) : KF := fun f args h nx =>
  bif Nat.beq f fS then match args with
    | [.fn g .lnil (.lcons (.ptr b 0) .lnil)] => bif Nat.beq g fK then match cget HD h b with
      | .cells _ n _ t => bif Nat.blt 0 n then match cget (lg n) t 0 with
        | .map m => match cget HD h m with
          | .mp l => match keysI l with
            | some ks => bif Nat.beq ks.length 0 then some (.nils, h, nx) else
              bif Nat.blt nx (2 ^ HD) && Nat.ble ks.length 1000000 then
                some (.sl nx 0 ks.length ks.length 1, cput HD h nx (.cells (2 * ety) ks.length false (cmk (fun i => .int .i64 ((sortI ks).getD i 0)) (lg ks.length) 0 ks.length)), nx + 1) else none
            | none => none
          | _ => none
        | .nilm => some (.nils, h, nx)
        | _ => none
        else none
      | _ => none
      else none
    | _ => none
  else none

section
variable {P : Program} {G : Nat} {σ : Sg}

theorem insI_perm (x : Int) : ∀ l, (insI x l).Perm (x :: l)
  | [] => .refl _
  | y :: l => by
    unfold insI
    cases ilt y x with
    | true => exact ((insI_perm x l).cons y).trans (.swap x y l)
    | false => exact .refl _

theorem sortI_perm : ∀ l, (sortI l).Perm l
  | [] => .refl _
  | x :: l => (insI_perm x _).trans ((sortI_perm l).cons x)

theorem insI_sorted (x : Int) : ∀ l, l.Pairwise (fun a b => leI a b = true) → (insI x l).Pairwise (fun a b => leI a b = true)
  | [], _ => by simp [insI]
  | y :: l, h => by
    obtain ⟨h1, h2⟩ := List.pairwise_cons.1 h
    unfold insI
    cases hb : ilt y x with
    | true =>
      simp only [cond_true]
      refine List.pairwise_cons.2 ⟨fun z hz => ?_, insI_sorted x l h2⟩
      rcases List.mem_cons.1 ((insI_perm x l).mem_iff.1 hz) with rfl | hz
      · rw [ilt_eq] at hb
        simp only [decide_eq_true_eq, leI] at hb ⊢
        omega
      · exact h1 z hz
    | false =>
      simp only [cond_false]
      rw [ilt_eq] at hb
      simp only [decide_eq_false_iff_not] at hb
      refine List.pairwise_cons.2 ⟨fun z hz => ?_, h⟩
      rcases List.mem_cons.1 hz with rfl | hz
      · simp only [leI, decide_eq_true_eq]; omega
      · have := h1 z hz
        simp only [leI, decide_eq_true_eq] at this ⊢; omega

theorem sortI_sorted : ∀ l, (sortI l).Pairwise (fun a b => leI a b = true)
  | [] => .nil
  | x :: l => insI_sorted x _ (sortI_sorted l)

theorem sortI_eq (l : List Int) : l.mergeSort leI = sortI l := by
  have tr : ∀ a b c : Int, leI a b = true → leI b c = true → leI a c = true := fun a b c h1 h2 => by simp only [leI, decide_eq_true_eq] at *; exact Int.le_trans h1 h2
  have to : ∀ a b : Int, (leI a b || leI b a) = true := fun a b => by simp only [leI, Bool.or_eq_true, decide_eq_true_eq]; exact Int.le_total a b
  refine List.Perm.eq_of_pairwise (le := fun a b => leI a b = true) (fun a b _ _ h1 h2 => ?_) (List.pairwise_mergeSort tr to l) (sortI_sorted l) ((List.mergeSort_perm l leI).trans (sortI_perm l).symm)
  simp only [leI, decide_eq_true_eq] at h1 h2
  exact Int.le_antisymm h1 h2

theorem in64_wf {x : Int} (h : in64 x = true) : (Lit.int .i64 x).wf = true := by
  have : -9223372036854775808 ≤ x ∧ x ≤ 9223372036854775807 := by
    cases x with
    | ofNat a => have := blt_iff.1 h; simp only [Int.ofNat_eq_natCast]; omega
    | negSucc a => have := blt_iff.1 h; rw [Int.negSucc_eq]; omega
  simp only [Lit.wf]
  simp
  exact this

theorem keysI_ok : ∀ {l : AV} {es : List MapEntry} {ks : List Int}, EsRel σ l es → keysI l = some ks → es.map (·.key) = ks.map encZ ∧ ∀ x ∈ ks, (Lit.int .i64 x).wf = true
  | .lcons (.lcons k v) l, es, ks, he, h => by
    obtain ⟨e, es', rfl, h1, h2, h3⟩ := he.cons_of
    unfold keysI at h
    split at h
    · rename_i x _ l' heq
      simp only [AV.lcons.injEq] at heq
      obtain ⟨⟨rfl, _⟩, rfl⟩ := heq
      split at h
      · rename_i ks' hk
        cases hb : in64 x with
        | false => simp [hb] at h
        | true =>
          simp only [hb, cond_true, Option.some.injEq] at h
          subst h
          obtain ⟨g1, g2⟩ := keysI_ok h3 hk
          generalize hkv : e.key = kv at h1
          cases h1
          refine ⟨by simp [g1, hkv], fun y hy => ?_⟩
          rcases List.mem_cons.1 hy with rfl | hy
          · exact in64_wf hb
          · exact g2 y hy
      · cases h
    · rename_i heq; cases heq
    · cases h
  | .lnil, es, ks, he, h => by
    have := he.nil_of
    subst this
    simp only [keysI, Option.some.injEq] at h
    subst h
    exact ⟨rfl, fun x hx => by cases hx⟩

theorem sortX_ok {fS fK ety : Nat} (S : SortedKeys P fS fK ety) : XOk P G (sortX fS fK ety) := by
  intro f args h nx v h' nx' hh
  unfold sortX at hh
  cases hf : Nat.beq f fS with
  | false => simp [hf] at hh
  | true =>
    have := beqn_iff.1 hf
    subst this
    simp only [hf, cond_true] at hh
    intro σ w0 B w vs H hG hr
    unfold CalleeOk
    rw [if_pos (by omega), show 2 * f / 2 = f by omega]
    refine ⟨S.has, ?_⟩
    split at hh
    · rename_i g b
      cases hg : Nat.beq g fK with
      | false => simp [hg] at hh
      | true =>
        have := beqn_iff.1 hg
        subst this
        simp only [hg, cond_true] at hh
        have hv : ∃ bm : Nat, ∃ base size, vs = [.func (.func g) #[] #[.pointer (some ⟨bm, base, none⟩)]] ∧ σ b = some (bm, base, size) := by
          obtain ⟨hl, hi⟩ := hr
          match vs, hl with
          | [u], _ =>
            have h1 := hi 0 _ u rfl rfl
            cases h1 with
            | fn _ _ _ xs ys e1 e2 e3 e4 =>
            have hx : xs = #[] := by
              apply Array.eq_empty_of_size_eq_zero
              simpa [toList] using e1.symm
            have hy : ∃ y, ys = #[y] := by
              have : ys.size = 1 := by simpa [toList] using e2.symm
              exact ⟨ys[0], by apply Array.ext <;> simp [this]; intro i hi; subst hi; rfl⟩
            obtain ⟨y, rfl⟩ := hy
            have h2 := e4 0 (.ptr b 0) y rfl rfl
            cases h2 with
            | ptr _ _ r base size o q1 q2 => exact ⟨r, base, size, by subst hx; simp [q2], q1⟩
        obtain ⟨bm, base, size, rfl, hb⟩ := hv
        split at hh
        · rename_i ty n ro t hc
          cases hn : Nat.blt 0 n with
          | false => simp [hn] at hh
          | true =>
            have hn' := blt_iff.1 hn
            simp only [hn, cond_true] at hh
            obtain ⟨cs, fr, tt, g1, g2, ⟨rfl, g3, _⟩, g4, g5⟩ := H.cells hb hc
            obtain ⟨u, u1, u2, u3⟩ := g4 0 hn'
            have hcell : w.cell? ⟨bm, 0, none⟩ = some u := by
              rw [cell_cells g1]; simpa using u1
            split at hh
            · rename_i m hm
              rw [hm] at u3
              cases u3 with
              | map _ r mbase msize hs =>
              split at hh
              · rename_i l hl
                obtain ⟨es, clock, h2, h3, h4, hst⟩ := H.mp hs hl
                split at hh
                · rename_i ks hks
                  obtain ⟨k1, k2⟩ := keysI_ok h3 hks
                  cases hz : Nat.beq ks.length 0 with
                  | true =>
                    simp only [hz, cond_true, Option.some.injEq, Prod.mk.injEq] at hh
                    obtain ⟨rfl, rfl, rfl⟩ := hh
                    have hnil : ks = [] := List.eq_nil_of_length_eq_zero (beqn_iff.1 hz)
                    refine (S.some bm r es clock ks w h2 hst k1 k2 (by simp [hnil]) hcell).mono ?_
                    rintro e w' ⟨v, rfl, _, hv, hB⟩
                    obtain rfl := hv.2 hnil
                    exact ⟨σ, _, SubX.refl _ _, Dk.refl _ _, Nat.le_refl _, rfl, .nils, H.more hB.block hB.size hB.os hB.tape hB.output⟩
                  | false =>
                    simp only [hz, cond_false] at hh
                    cases hq : (Nat.blt nx (2 ^ HD) && Nat.ble ks.length 1000000) with
                    | false => simp [hq] at hh
                    | true =>
                      simp only [hq, cond_true, Option.some.injEq, Prod.mk.injEq] at hh
                      obtain ⟨rfl, rfl, rfl⟩ := hh
                      simp only [Bool.and_eq_true] at hq
                      have hnx := blt_iff.1 hq.1
                      have hle := ble_iff.1 hq.2
                      have hk0 : ks.length ≠ 0 := fun e => by rw [beqn_iff.2 e] at hz; cases hz
                      refine (S.some bm r es clock ks w h2 hst k1 k2 hle hcell).mono ?_
                      rintro e w' ⟨v, rfl, hrow, hv, hB⟩
                      rcases hrow.2 with ⟨_, h0⟩ | ⟨gb, cap, cur, rfl, hbase, hgb, r1, r2, r3, r4⟩
                      · exact absurd h0 hk0
                      · have H1 := (H.more hB.block hB.size hB.os hB.tape hB.output).skip (Nat.le_succ nx) hnx
                        have h0 : σ nx = none := by
                          cases hx : σ nx with
                          | none => rfl
                          | some p => have := H.dom nx p hx; omega
                        obtain ⟨hsub, H2⟩ := H1.bind (p := (gb, 0, cur.size)) h0 (Nat.lt_succ_self nx)
                        have hcell' : ∀ i, i < ks.length → cur[i]? = some (.int .i64 ((sortI ks).getD i 0)) := fun i hi => by
                          have e1 : (cur.toList.take (ks.length * 1))[i]? = ((ks.mergeSort leI).map encZ)[i]? := by rw [r4]
                          rw [sortI_eq, List.getElem?_take, if_pos (by omega), List.getElem?_map] at e1
                          have hlen : (sortI ks).length = ks.length := (sortI_perm ks).length_eq
                          rw [Array.getElem?_toList] at e1
                          rw [e1, List.getD_eq_getElem?_getD, List.getElem?_eq_getElem (by omega)]
                          rfl
                        have hblk : BlkRel (ext σ nx (gb, 0, cur.size)) w0 B w' nx (.cells (2 * ety) ks.length false (cmk (fun i => .int .i64 ((sortI ks).getD i 0)) (lg ks.length) 0 ks.length)) := by
                          refine ⟨gb, 0, cur.size, cur, (0, 0), ety, by simp [ext], hgb, rfl, ⟨rfl, by omega, fun hx => by omega⟩, fun i hi => ⟨_, by rw [Nat.zero_add]; exact hcell' i hi, rfl, ?_⟩, fun _ => ⟨calm0 _, .inr (Nat.le_trans H.size hbase)⟩, fun _ => (even_half ety).symm⟩
                          rw [cget_cmk _ _ _ _ _ (lg_le _) hi, Nat.zero_add]
                          exact .int _ _
                        have H3 := H2.lay (b0 := nx) (p := (gb, 0, cur.size)) (by simp [ext]) hblk (Nat.le_trans H.size hbase) (fun c q hcn hq hl => by
                          unfold ext at hq
                          rw [if_neg hcn] at hq
                          have := H.real_lt hq hl
                          omega)
                        refine ⟨_, _, ⟨hsub, fun c hc => by unfold ext; rw [if_neg (by omega)]⟩, fun c hc hlc => ?_, Nat.le_succ nx, rfl, ?_, H3⟩
                        · rw [cget_cput HD h nx c _ hnx (by omega), if_neg (by omega)] at hlc
                          exact hlc
                        · exact .sl nx 0 _ _ 1 gb 0 cur.size 0 cap (by simp [ext]) (Nat.le_refl _) r1 (fun _ => rfl) (by omega)
                · cases hh
              · cases hh
            · rename_i hm
              rw [hm] at u3
              cases u3
              simp only [Option.some.injEq, Prod.mk.injEq] at hh
              obtain ⟨rfl, rfl, rfl⟩ := hh
              refine (S.none bm w hcell).mono ?_
              rintro e w' ⟨rfl, hB⟩
              exact ⟨σ, _, SubX.refl _ _, Dk.refl _ _, Nat.le_refl _, rfl, .nils, H.more hB.block hB.size hB.os hB.tape hB.output⟩
            · cases hh
        · cases hh
    · cases hh

end
end I
end Go.Proofs.YtpaekplhcjleaaaGreatDoor
