/- refs: a ref made of its parts; a row without one of its refs, whatever its room. -/
import Derived.Test.YtejgpniaoccpoaaRf6
import Derived.Test.YtejgpniaoccpoaaNameRef
namespace Go.Proofs.Ytejgpniaoccpoaa
open K
set_option linter.unusedVariables false

theorem foldl_spl (off : Nat) : ∀ (vs : List Value) (k : Nat) (cs : Array Value), (vs.zipIdx k).foldl (fun (cs : Array Value) (p : Value × Nat) => cs.setIfInBounds (off + p.2) p.1) cs = spl cs (off + k) vs
  | [], k, cs => rfl
  | v :: vs, k, cs => by
    rw [List.zipIdx_cons, List.foldl_cons, foldl_spl off vs (k + 1), spl]
    rfl
theorem build_ref (n : ByteArray) {t : List UInt8} (ht : t.length = 32) (w : World) : (Instr.build 50 #[(0, .string n), (1, .agg (bv t))]).run Try.prog w = .ok (.agg (rc (n, t)).toArray) w := by
  refine run_build w 50 _ _ ?_
  have hz : Try.prog.built 50 [(0, .string n), (1, .agg (bv t))] = Instr.fill ((#[(0, 1), (1, 32)] : Array (Nat × Nat))[·]?) (rc rz).toArray [(0, .string n), (1, .agg (bv t))] := by kernel_rfl
  show Try.prog.built 50 [(0, .string n), (1, .agg (bv t))] = _
  rw [hz]
  have h1 : ((Value.agg (bv t)).cells).size = 32 := by show (bv t).size = 32; rw [bv_size, ht]
  have e0 : (Value.string n).cells.zipIdx.foldl (fun (cs : Array Value) (p : Value × Nat) => cs.setIfInBounds (0 + p.2) p.1) (rc rz).toArray = (rc (n, List.replicate 32 0)).toArray := rfl
  have e1 : (bv t).zipIdx.foldl (fun (cs : Array Value) (p : Value × Nat) => cs.setIfInBounds (1 + p.2) p.1) (rc (n, List.replicate 32 0)).toArray = (rc (n, t)).toArray := by
    rw [← Array.foldl_toList, Array.toList_zipIdx, foldl_spl 1 (bv t).toList 0]
    have := spl_at (L := rc (n, List.replicate 32 0)) (A := [Value.string n]) (B := (bv (List.replicate 32 0)).toList) (T := []) (vs := (bv t).toList) (off := 1) (by simp [rc]) rfl (by rw [Array.length_toList, bv_size, ht]; rfl)
    rw [this]; simp [rc]
  have e0' : (Value.string n).cells.zipIdx.foldl (fun cs x => match x with | (c, j) => cs.setIfInBounds (0 + j) c) (rc rz).toArray = (rc (n, List.replicate 32 0)).toArray := e0
  have e1' : (Value.agg (bv t)).cells.zipIdx.foldl (fun cs x => match x with | (c, j) => cs.setIfInBounds (1 + j) c) (rc (n, List.replicate 32 0)).toArray = (rc (n, t)).toArray := e1
  have q1 : (decide ((Value.string n).cells.size ≠ 1) || decide (0 + (Value.string n).cells.size > (rc rz).toArray.size)) = false := rfl
  have q2 : (decide ((Value.agg (bv t)).cells.size ≠ 32) || decide (1 + (Value.agg (bv t)).cells.size > (rc (n, List.replicate 32 0)).toArray.size)) = false := by rw [h1]; rfl
  rw [Instr.fill]
  show (if (decide ((Value.string n).cells.size ≠ 1) || decide (0 + (Value.string n).cells.size > (rc rz).toArray.size)) = true then none else _) = _
  rw [q1, if_neg (by decide), e0', Instr.fill]
  show (if (decide ((Value.agg (bv t)).cells.size ≠ 32) || decide (1 + (Value.agg (bv t)).cells.size > (rc (n, List.replicate 32 0)).toArray.size)) = true then none else _) = _
  rw [q2, if_neg (by decide), e1', Instr.fill]
/-- A state. -/
structure RSt where
  hd : ByteArray
  l : List Rf
  m : List Rf
  nx : Int
def RSt.z : RSt := ⟨ByteArray.empty, [], [], 0⟩
def D0 : List UInt8 := List.replicate 32 0
def mvE (s : RSt) (n : ByteArray) (fr tt : List UInt8) : Int :=
  if refB n = false then 12 else if 0 ≤ fidx (pEq n) s.m then 17 else if atF s.l n ≠ fr then 29 else if tt = D0 then 0 else if 0 ≤ fidx (pEq n) s.l then 0 else if 16 ≤ s.l.length then 6 else 0
def mvL (l : List Rf) (n : ByteArray) (tt : List UInt8) : List Rf :=
  if tt = D0 then (if 0 ≤ fidx (pEq n) l then l.eraseIdx (fidx (pEq n) l).toNat else l) else if 0 ≤ fidx (pEq n) l then l.set (fidx (pEq n) l).toNat ((l.getD (fidx (pEq n) l).toNat rz).1, tt) else insF l (withI l (n, tt)) (n, tt)
def mvS (s : RSt) (n : ByteArray) (fr tt : List UInt8) : RSt := if mvE s n fr tt = 0 then ⟨s.hd, mvL s.l n tt, s.m, s.nx⟩ else RSt.z
theorem hp_one {w w' : World} {b : Nat} {ob : Obj} (hx : Ext [b] w w') (hb : w'.heap[b]? = some ob) : HP w [b] [] [(b, ob)] w' :=
  ⟨hx, (fun e he => by cases he), (fun e he => by cases he), (fun e he => by rw [List.mem_singleton.1 he]; exact hb), by simp, (fun e he => by rw [List.mem_singleton.1 he]; exact .inr (List.mem_singleton.2 rfl))⟩
theorem seg_front (F Q X : List (Nat × Obj)) : (F ++ (Q ++ (X ++ []))).Perm ((F ++ X) ++ (Q ++ [])) := by
  rw [List.append_nil, List.append_nil, List.append_assoc]
  exact List.Perm.append_left F List.perm_append_comm
theorem rDeleteO (o : K.Own) (i : Nat) (l : List Rf) (w : World) (hok : OwnOk o 33 l.length (rv l)) (hi : i < l.length) (hW : W32 l) (hm : l.length ≤ 4096) (hA : Has w (o.o 50 (rv l))) :
    Calls Try.prog 41 #[.slice o.a l.length o.c, .int .i64 (i : Int), .int .i64 ((i : Int) + 1)] w fun e w' => ∃ o2 : K.Own, OwnOk o2 33 (l.eraseIdx i).length (rv (l.eraseIdx i)) ∧ e = .returned (.slice o2.a (l.eraseIdx i).length o2.c) ∧ ∃ R1, HP w ((o.o 50 (rv l)).map (·.1)) R1 (o2.o 50 (rv (l.eraseIdx i))) w' := by
  obtain ⟨⟨b, cap, junk⟩, rfl⟩ := own_some hok (by omega)
  obtain ⟨h1, h2⟩ := hok.some _ rfl
  simp only at h1 h2
  have hW2 : W32 (l.eraseIdx i) := fun x hx => hW x (List.mem_of_mem_eraseIdx hx)
  have hl : (l.eraseIdx i).length = l.length - 1 := List.length_eraseIdx_of_lt hi
  refine (rDelete b cap i l junk w hi hW hm h2 (hA _ (List.mem_cons_self ..))).mono ?_
  rintro e w' ⟨he, hx, j2, hj, hb⟩
  have hl2 := rv_len hW2
  have hl1 := rv_len hW
  exact ⟨some (b, cap, j2), ⟨hl2, (fun h => by cases h), fun q hq => by cases hq; exact ⟨by simp only; omega, by simp only; omega⟩⟩, by rw [he, hl]; rfl, [], hp_one hx hb⟩
theorem set_spl {l : List Rf} {junk : List Value} {i off : Nat} {t : List UInt8} (hW : W32 l) (hi : i < l.length) (ht : t.length = 32) (ho : off = i * 33 + 1) : spl (rv l ++ junk).toArray off (bv t).toList = (rv (l.set i ((l.getD i rz).1, t)) ++ junk).toArray := by
  have e1 : l = l.take i ++ (l[i] :: l.drop (i + 1)) := by rw [← List.drop_eq_getElem_cons hi, List.take_append_drop]
  have e2 : l.set i ((l.getD i rz).1, t) = l.take i ++ ((l.getD i rz).1, t) :: l.drop (i + 1) := by rw [List.set_eq_take_append_cons_drop, if_pos hi]
  have e3 : l.getD i rz = l[i] := by rw [List.getD_eq_getElem?_getD, List.getElem?_eq_getElem hi]; rfl
  have h32 : (l[i]).2.length = 32 := hW _ (List.getElem_mem hi)
  have hs := spl_at (L := rv l ++ junk) (A := rv (l.take i) ++ [Value.string (l[i]).1]) (B := (bv (l[i]).2).toList) (T := rv (l.drop (i + 1)) ++ junk) (vs := (bv t).toList) (off := off)
    (by conv => lhs; rw [e1]
        rw [rv_app, rv_cons]; simp [rc]) (by rw [List.length_append, rvt_len hW (by omega), ho]; rfl) (by rw [Array.length_toList, Array.length_toList, bv_size, bv_size, ht, h32])
  rw [hs, e2, rv_app, rv_cons, e3]
  simp [rc]

end Go.Proofs.Ytejgpniaoccpoaa
