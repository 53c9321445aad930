import Derived.Test.YtpaekplhcjleaaaGreatDoorIS
import Derived.Lib.Repeat
namespace Go.Proofs.YtpaekplhcjleaaaGreatDoor
namespace I
open K (one aggB run_underlying' run_sizeOf' add_none run_v cell_cells)
set_option linter.unusedVariables false

/-! ### One intrinsic behind another; strings.Repeat -/
def orI (X Y : KF) : KF := fun f args h nx => match X f args h nx with
  | some r => some r
  | none => Y f args h nx
theorem orI_ok {P : Program} {G : Nat} {X Y : KF} (hX : XOk P G X) (hY : XOk P G Y) : XOk P G (orI X Y) := by
  intro f args h nx v h' nx' hh
  unfold orI at hh
  split at hh
  · rename_i r hr
    simp only [Option.some.injEq] at hh
    subst hh
    exact hX f args h nx v h' nx' hr
  · exact hY f args h nx v h' nx' hh

structure RepeatOk (P : Program) (fR : Nat) : Prop where
  has : ∃ fn c, P.funcs[fR]? = some fn ∧ (fn.name == "runtime.NumGoroutine") = false ∧ fn.body = some c
  run : ∀ (s : ByteArray) (c : Nat) (w : World), c ≤ 9223372036854775807 → s.size * c ≤ 140737488355328 →
    Calls P fR #[.string s, .int .i64 c] w fun e w' => e = .returned (.string ⟨(Lib.repeatL s.data.toList c).toArray⟩) ∧ Go.RowKit.Below w.heap.size w w'

def repV (n x : Nat) : Nat → Nat
  | 0 => 0
  | k + 1 => repV n x k + x * 256 ^ (n * k)

def repX (fR : Nat) : KF := fun f args h nx =>
  bif Nat.beq f fR then match args with
    | [.str n x, .int .i64 (.ofNat c)] => bif Nat.ble c 9223372036854775807 && Nat.ble (n * c) 140737488355328 then some (.str (n * c) (repV n x c), h, nx) else none
    | _ => none
  else none

theorem repV_eq (l : List UInt8) : ∀ c, val (Lib.repeatL l c) = repV l.length (val l) c := by
  intro c
  induction c with
  | zero => rfl
  | succ c ih =>
    rw [show Lib.repeatL l (c + 1) = l ++ Lib.repeatL l c from rfl, val_append, ih, repV, Lib.repeatL_length, Nat.mul_comm c, Nat.add_comm]

theorem repX_ok {P : Program} {G fR : Nat} (S : RepeatOk P fR) : XOk P G (repX fR) := by
  intro f args h nx v h' nx' hh
  unfold repX at hh
  cases hf : Nat.beq f fR with
  | false => simp [hf] at hh
  | true =>
    have := beqn_iff.1 hf
    subst this
    simp only [hf, cond_true] at hh
    intro σ w0 B w vs H hG hr
    unfold CalleeOk
    rw [if_pos (by omega), show 2 * f / 2 = f by omega]
    refine ⟨S.has, ?_⟩
    split at hh
    · rename_i n x c
      cases hc : (Nat.ble c 9223372036854775807 && Nat.ble (n * c) 140737488355328) with
      | false => simp [hc] at hh
      | true =>
        simp only [hc, cond_true, Option.some.injEq, Prod.mk.injEq] at hh
        obtain ⟨rfl, rfl, rfl⟩ := hh
        simp only [Bool.and_eq_true] at hc
        obtain ⟨hl, hi⟩ := hr
        match vs, hl with
        | [u, z], _ =>
          have h1 := hi 0 _ u rfl rfl
          have h2 := hi 1 _ z rfl rfl
          cases h1 with
          | str t _ _ hn hx =>
          cases h2 with
          | int _ _ =>
          refine (S.run t c w (ble_iff.1 hc.1) (by rw [← hn]; exact ble_iff.1 hc.2)).mono ?_
          rintro e w' ⟨rfl, hB⟩
          have hlen : t.data.toList.length = n := by rw [hn]; simp
          refine ⟨σ, _, SubX.refl _ _, Dk.refl _ _, Nat.le_refl _, rfl, .str _ _ _ ?_ ?_, H.more hB.block hB.size hB.os hB.tape hB.output⟩
          · show n * c = ((Lib.repeatL t.data.toList c).toArray).size
            rw [List.size_toArray, Lib.repeatL_length, hlen]; exact Nat.mul_comm _ _
          · show repV n x c = val (Lib.repeatL t.data.toList c).toArray.toList
            rw [repV_eq, hlen, hx]
    · cases hh
end I
end Go.Proofs.YtpaekplhcjleaaaGreatDoor
