/- The digest of bytes; a call that changes one own block. -/
import Derived.Test.YtphnkangpboplaaDoorShaV
namespace Go.Proofs.YtphnkangpboplaaDoor
open K
set_option linter.unusedVariables false

namespace K
theorem HP.dropM {w0 w w' : World} {M : List Nat} {R O : List (Nat × Obj)} (h : HP w0 M R O w) (i : Nat) {b : Nat} {o : Obj} (hi : O[i]? = some (b, o)) (hx : Ext [b] w w') : HP w0 M R (O.eraseIdx i) w' :=
  h.call hx _ (List.eraseIdx_sublist ..) (by
    intro k hk
    simp only [List.mem_cons, List.not_mem_nil, or_false] at hk
    subst hk
    exact List.mem_map.2 ⟨_, List.mem_of_getElem? hi, rfl⟩) (by
    intro e he hm
    simp only [List.mem_cons, List.not_mem_nil, or_false] at hm
    obtain ⟨j, hj⟩ := List.mem_iff_getElem?.1 he
    rw [List.getElem?_eraseIdx] at hj
    split at hj
    · rename_i hlt
      have := nodup_inj h.dist (i := j) (j := i) (x := b) (by simp [hj, hm]) (by simp [hi])
      omega
    · rename_i hlt
      have := nodup_inj h.dist (i := j + 1) (j := i) (x := b) (by simp [hj, hm]) (by simp [hi])
      omega)
/-- A call that gives a known value and whatever content to one own block. -/
theorem Eff.callD {C : Cx} {R O : List (Nat × Obj)} {Γ : Env} {o : Oper} {f : FuncId} {fn : Func} {c : Code} {xs : List Operand} {tys : Array TypeId} {vs : List Value} (v : Value) (i : Nat) {b : Nat} {ob : Obj} (ho : o.op = .call ⟨.value (.func f), xs.toArray, tys⟩) (hf : C.P.funcs[f]? = some fn)
    (hnm : (fn.name == "runtime.NumGoroutine") = false) (hb : fn.body = some c) (hx : opds Γ xs = some vs) (hi : O[i]? = some (b, ob))
    (h : ∀ w, HP C.w0 C.M R O w → Calls C.P f vs.toArray w fun e w' => e = .returned v ∧ Ext [b] w w') : Eff C R O Γ o Unit (fun _ => v) (fun _ => O.eraseIdx i) (fun _ => True) :=
  Eff.call ho hf hnm hb hx fun w hp => (h w hp).mono fun _ _ hh => ⟨(), trivial, hh.1, hp.dropM i hi hh.2⟩
end K
def H8 : List Nat := [1779033703, 3144134277, 1013904242, 2773480762, 1359893119, 2600822924, 528734635, 1541459225]
def sh0 : Sh := ⟨H8, List.replicate 64 0, 0⟩
theorem sh0_ok : sh0.Ok := ⟨rfl, rfl, fun i => by
  unfold sh0 H8 rg
  rcases i with _ | _ | _ | _ | _ | _ | _ | _ | i <;> simp, by decide⟩
def sat (ss : List ByteArray) (i : Nat) : ByteArray := ss.getD i ByteArray.empty
def cat (ss : List ByteArray) : List UInt8 := ss.flatMap fun s => s.data.toList
def sz (ss : List ByteArray) (i : Nat) : Sh := feed sh0 (cat (ss.take i))
def tt (ss : List ByteArray) (i : Nat) : Nat := (cat (ss.take i)).length % 18446744073709551616
theorem take_sat {ss : List ByteArray} {i : Nat} (h : i < ss.length) : ss.take (i + 1) = ss.take i ++ [sat ss i] := by
  rw [List.take_succ_eq_append_getElem h]; simp [sat, List.getElem?_eq_getElem h]
theorem cat_app (a b : List ByteArray) : cat (a ++ b) = cat a ++ cat b := List.flatMap_append ..
theorem cat_one (s : ByteArray) : cat [s] = s.data.toList := by simp [cat]
theorem sz_succ {ss : List ByteArray} {i : Nat} (h : i < ss.length) : feed (sz ss i) (sat ss i).data.toList = sz ss (i + 1) := by
  unfold sz; rw [take_sat h, cat_app, cat_one, feed_app]
theorem tt_succ {ss : List ByteArray} {i : Nat} (h : i < ss.length) : (tt ss i + (sat ss i).size) % 18446744073709551616 = tt ss (i + 1) := by
  unfold tt; rw [take_sat h, cat_app, cat_one, List.length_append]
  have : (sat ss i).data.toList.length = (sat ss i).size := by simp
  omega
theorem sz_ok (ss : List ByteArray) (i : Nat) : (sz ss i).Ok := feed_ok _ sh0_ok
/-- The digest of bytes. -/
def shaD (l : List UInt8) : List UInt8 := shaEnd (feed sh0 l) (l.length % 18446744073709551616)
theorem shaD_len (l : List UInt8) : (shaD l).length = 32 := shaEnd_len _ _
theorem sz_all (ss : List ByteArray) : shaEnd (sz ss ss.length) (tt ss ss.length) = shaD (cat ss) := by unfold sz tt shaD; rw [List.take_length]
theorem dz (l : List UInt8) : (bv (shaD l)).size = 32 := (bv_size _).trans (shaD_len l)

end Go.Proofs.YtphnkangpboplaaDoor
