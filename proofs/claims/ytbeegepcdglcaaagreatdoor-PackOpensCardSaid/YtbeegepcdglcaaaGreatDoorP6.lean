/- Texts on which the proof of this claim stands: Pk3, Pk4, K34, K35, Pk5. -/
import Derived.Test.YtbeegepcdglcaaaGreatDoorP5
import Derived.Test.YtbeegepcdglcaaaGreatDoorP3
import Derived.Test.YtbeegepcdglcaaaGreatDoorP1
namespace Go.Proofs.YtbeegepcdglcaaaGreatDoor
open K
set_option linter.unusedVariables false
theorem digF_app (d r : List UInt8) (h : d.length = 32) : digF ⟨0,d ++ r⟩ = (d,⟨0,r⟩) := by
 unfold digF
 rw [nextF_app d r (by rw [h]; rfl),show dig32 d = d from if_pos h]
def takeE (z : IN) : En × IN :=
 if (byteF (digF z).2).1 = 0 then (⟨(digF z).1,tx (textF (byteF (digF z).2).2 32768).1,dzz,ByteArray.empty,0⟩,(textF (byteF (digF z).2).2 32768).2)
 else if (byteF (digF z).2).1 = 1 then (⟨(digF z).1,ByteArray.empty,(digF (byteF (digF z).2).2).1,tx (textF (digF (byteF (digF z).2).2).2 32768).1,1⟩,(textF (digF (byteF (digF z).2).2).2 32768).2)
 else (⟨(digF z).1,ByteArray.empty,dzz,ByteArray.empty,0⟩,failF (byteF (digF z).2).2 11)
theorem digF_len (z : IN) : (digF z).1.length = 32 := dig32_len _
theorem takeE_ok (z : IN) : EnOk (takeE z).1 := by
 unfold takeE
 split
 ·exact ⟨digF_len z,dzz_len,by show (tx _).size ≤ _; rw [tx_size]; exact textF_len _ 32768,Nat.zero_le _⟩
 ·split
  ·exact ⟨digF_len z,digF_len _,Nat.zero_le _,by show (tx _).size ≤ _; rw [tx_size]; exact textF_len _ 32768⟩
  ·exact ⟨digF_len z,dzz_len,Nat.zero_le _,Nat.zero_le _⟩
set_option maxRecDepth 100000 in
theorem build_e0 {d : List UInt8} (hd : d.length = 32) (w : World) : (Instr.build 62 #[(0,.agg (bv d))]).run Tryz.prog w = .ok (.agg (enc ⟨d,ByteArray.empty,dzz,ByteArray.empty,0⟩).toArray) w := by
 obtain ⟨x0,x1,x2,x3,x4,x5,x6,x7,x8,x9,x10,x11,x12,x13,x14,x15,x16,x17,x18,x19,x20,x21,x22,x23,x24,x25,x26,x27,x28,x29,x30,x31,rfl⟩ := list32e hd
 kernel_rfl
theorem enc_setp {x : En} (hx : EnL x) (n : Nat) : (enc x).toArray.setIfInBounds 66 (.int .i64 (n : Int)) = (enc { x with p := n }).toArray := by
 rw [List.setIfInBounds_toArray]
 have e : enc x = (dgc x.id ++ [.string x.t] ++ dgc x.b ++ [.string x.d]) ++ [.int .i64 (x.p : Int)] := by unfold enc; simp only [List.append_assoc]; rfl
 have hl : (dgc x.id ++ [Value.string x.t] ++ dgc x.b ++ [Value.string x.d]).length = 66 := by
  rw [List.length_append,List.length_append,List.length_append,dgc_len hx.id,dgc_len hx.b]; rfl
 rw [e,List.set_append_right _ _ om,hl]
 unfold enc
 simp only [List.append_assoc]; rfl
theorem enc_setb {x : En} (hx : EnL x) {d : List UInt8} (hd : d.length = 32) : spl (enc x).toArray 33 (bv d).toList = (enc { x with b := d }).toArray := by
 have h1 := spl_list (dgc x.id ++ [.string x.t]) (dgc x.b) [.string x.d,.int .i64 (x.p : Int)] (dgc d) (by rw [dgc_len hx.b,dgc_len hd])
 have hl : (dgc x.id ++ [Value.string x.t]).length = 33 := by rw [List.length_append,dgc_len hx.id]; rfl
 rw [hl] at h1
 have e : dgc x.id ++ [Value.string x.t] ++ dgc x.b ++ [.string x.d,.int .i64 (x.p : Int)] = enc x := by unfold enc; simp only [List.append_assoc]
 rw [e] at h1
 rw [show (bv d).toList = dgc d from rfl,h1]
 unfold enc
 simp only [List.append_assoc]
theorem enc_setd {x : En} (hx : EnL x) (s : ByteArray) : (enc x).toArray.setIfInBounds 65 (.string s) = (enc { x with d := s }).toArray := by
 rw [List.setIfInBounds_toArray]
 have e : enc x = (dgc x.id ++ [.string x.t] ++ dgc x.b) ++ [.string x.d,.int .i64 (x.p : Int)] := by unfold enc; simp only [List.append_assoc]
 have hl : (dgc x.id ++ [Value.string x.t] ++ dgc x.b).length = 65 := by
  rw [List.length_append,List.length_append,dgc_len hx.id,dgc_len hx.b]; rfl
 rw [e,List.set_append_right _ _ om,hl]
 unfold enc
 simp only [List.append_assoc]; rfl
def atR : List (List UInt8) → List UInt8 → Option Nat
 | [],_ => none
 | d :: l,k => if k = d then some l.length else atR l k
def atF (l : List (List UInt8)) (k : List UInt8) : Option Nat := atR l.reverse k
theorem atF_snoc (l : List (List UInt8)) (d k : List UInt8) : atF (l ++ [d]) k = if k = d then some l.length else atF l k := by
 unfold atF
 rw [List.reverse_append,List.reverse_cons,List.reverse_nil,List.nil_append,List.cons_append,List.nil_append,atR,List.length_reverse]
theorem atR_lt : ∀ {l : List (List UInt8)} {k : List UInt8} {j : Nat},atR l k = some j → j < l.length
 | [],_,_,h => by cases h
 | d :: l,k,j,h => by
  rw [atR] at h
  split at h
  ·rw [← Option.some.inj h]; exact Nat.lt_succ_self _
  ·exact Nat.lt_succ_of_lt (atR_lt h)
theorem atF_lt {l : List (List UInt8)} {k : List UInt8} {j : Nat} (h : atF l k = some j) : j < l.length := by have := atR_lt h; rwa [List.length_reverse] at this
def rdP : List En → List (List UInt8) → List ByteArray → Option (List ByteArray)
 | [],_,ts => some ts
 | x :: l,is,ts => if 0 < x.p then match atF is x.b with
   | none => none
   | some j => if (applyF (ts.getD j ByteArray.empty) x.d.data.toList).2 = 0 then rdP l (is ++ [x.id]) (ts ++ [tx (applyF (ts.getD j ByteArray.empty) x.d.data.toList).1]) else none
  else rdP l (is ++ [x.id]) (ts ++ [x.t])
theorem rdP_w {x : En} {l : List En} {is : List (List UInt8)} {ts : List ByteArray} (h : ¬ 0 < x.p) : rdP (x :: l) is ts = rdP l (is ++ [x.id]) (ts ++ [x.t]) := by rw [rdP,if_neg h]
theorem rdP_n {x : En} {l : List En} {is : List (List UInt8)} {ts : List ByteArray} (h : 0 < x.p) (h1 : atF is x.b = none) : rdP (x :: l) is ts = none := by rw [rdP,if_pos h,h1]
theorem rdP_d {x : En} {l : List En} {is : List (List UInt8)} {ts : List ByteArray} {j : Nat} (h : 0 < x.p) (h1 : atF is x.b = some j) (h2 : (applyF (ts.getD j ByteArray.empty) x.d.data.toList).2 = 0) : rdP (x :: l) is ts = rdP l (is ++ [x.id]) (ts ++ [tx (applyF (ts.getD j ByteArray.empty) x.d.data.toList).1]) := by rw [rdP,if_pos h,h1]; exact if_pos h2
theorem rdP_e {x : En} {l : List En} {is : List (List UInt8)} {ts : List ByteArray} {j : Nat} (h : 0 < x.p) (h1 : atF is x.b = some j) (h2 : ¬ (applyF (ts.getD j ByteArray.empty) x.d.data.toList).2 = 0) : rdP (x :: l) is ts = none := by rw [rdP,if_pos h,h1]; exact if_neg h2
def rdZ (l : List UInt8) : IN := (nextF ⟨0,l⟩ 4).2
def rdRow (l : List UInt8) : List En × IN := rowsT takeE (rdZ l) ((l.length : Int) / 37)
def readF (l : List UInt8) : Option (List ByteArray) := if (nextF ⟨0,l⟩ 4).1 = [80,65,67,75] then (if endF (rdRow l).2 = 0 then rdP (rdRow l).1 [] [] else none) else none
def rdT (l : List UInt8) : List ByteArray := (readF l).getD []
theorem rdRow_ok (l : List UInt8) : ∀ e ∈ (rdRow l).1,EnOk e := rowsF_all (p := EnOk) takeE_ok _ _ [] (fun _ h => by cases h)
theorem rdRow_len {l : List UInt8} (h : l.length ≤ 30000000) : (rdRow l).1.length ≤ 1000000 := by
 have h1 := rowsF_le (tk := takeE) (boundF (rdZ l) ((l.length : Int) / 37) 6).1 (boundF (rdZ l) ((l.length : Int) / 37) 6).2 []
 have h2 := boundF_le (rdZ l) (most := (l.length : Int) / 37) (e := 6) (m := 1000000) om
 unfold rdRow rowsT
 rw [List.length_nil] at h1; omega
theorem applyP_len (a : ByteArray) : ∀ (ps : List PT) (acc : List UInt8),acc.length ≤ 32768 → (applyP a ps acc).2.length ≤ 32768
 | [],acc,h => h
 | p :: ps,acc,h => by
  rw [applyP]
  split
  ·exact Nat.zero_le _
  ·split
   ·exact Nat.zero_le _
   ·exact applyP_len a ps _ (by rw [List.length_append,ba_len]; omega)
theorem applyF_len (a : ByteArray) (l : List UInt8) : (applyF a l).1.length ≤ 32768 := by
 unfold applyF
 split
 ·exact Nat.zero_le _
 ·split
  ·exact Nat.zero_le _
  ·split
   ·exact Nat.zero_le _
   ·split
    ·exact Nat.zero_le _
    ·exact applyP_len a _ [] (Nat.zero_le _)
theorem rdP_size : ∀ (l : List En) (is : List (List UInt8)) (ts : List ByteArray) (r : List ByteArray),(∀ e ∈ l,EnOk e) → (∀ t ∈ ts,t.size ≤ 32768) → rdP l is ts = some r → (∀ t ∈ r,t.size ≤ 32768) ∧ r.length = ts.length + l.length
 | [],is,ts,r,_,h,hr => by
  obtain rfl := Option.some.inj hr
  exact ⟨h,rfl⟩
 | x :: l,is,ts,r,hl,h,hr => by
  have hl' : ∀ e ∈ l,EnOk e := fun e he => hl e (List.mem_cons_of_mem _ he)
  have key : ∀ s : ByteArray,s.size ≤ 32768 → ∀ t ∈ ts ++ [s],t.size ≤ 32768 := fun s hs t ht => by
   rcases List.mem_append.1 ht with ht | ht
   ·exact h t ht
   ·rw [List.mem_singleton.1 ht]; exact hs
  by_cases h0 : 0 < x.p
  ·cases h1 : atF is x.b with
   | none => rw [rdP_n h0 h1] at hr; cases hr
   | some j =>
    by_cases h2 : (applyF (ts.getD j ByteArray.empty) x.d.data.toList).2 = 0
    ·rw [rdP_d h0 h1 h2] at hr
     obtain ⟨g1,g2⟩ := rdP_size l _ _ r hl' (key _ (by rw [tx_size]; exact applyF_len _ _)) hr
     exact ⟨g1,by rw [g2]; simp only [List.length_append,List.length_cons,List.length_nil]; omega⟩
    ·rw [rdP_e h0 h1 h2] at hr; cases hr
  ·rw [rdP_w h0] at hr
   obtain ⟨g1,g2⟩ := rdP_size l _ _ r hl' (key _ (hl x mH).t) hr
   exact ⟨g1,by rw [g2]; simp only [List.length_append,List.length_cons,List.length_nil]; omega⟩
theorem rdT_ok {l : List UInt8} (h : l.length ≤ 30000000) : (∀ t ∈ rdT l,t.size ≤ 32768) ∧ (rdT l).length ≤ 1000000 := by
 unfold rdT
 cases hr : readF l with
 | none => exact ⟨fun t ht => absurd (show t ∈ ([] : List ByteArray) from ht) List.not_mem_nil,Nat.zero_le _⟩
 | some r =>
  unfold readF at hr
  split at hr
  ·split at hr
   ·obtain ⟨g1,g2⟩ := rdP_size _ _ _ r (rdRow_ok l) (fun t ht => by cases ht) hr
    have := rdRow_len h
    exact ⟨g1,by rw [Option.getD_some,g2,List.length_nil]; omega⟩
   ·cases hr
  ·cases hr
theorem magic_eq (a : List UInt8) : ((tx a).toList == (⟨#[80,65,67,75]⟩ : ByteArray).toList) = decide (a = [80,65,67,75]) := by
 rw [baToList,baToList]
 by_cases h : a = [80,65,67,75]
 ·rw [decide_eq_true h,h]; rfl
 ·rw [decide_eq_false h]; exact beq_eq_false_iff_ne.2 h
def AtOk (W : List (List UInt8 × Value)) (l : List (List UInt8)) : Prop := ∀ d,dget W d = (atF l d).map fun j => .int .i64 (j : Int)
theorem AtOk.nil : AtOk [] [] := fun d => rfl
theorem AtOk.add {W : List (List UInt8 × Value)} {l : List (List UInt8)} (h : AtOk W l) (d : List UInt8) : AtOk (dset W d (.int .i64 (l.length : Int))) (l ++ [d]) := by
 intro k
 rw [dget_set,atF_snoc,h k]
 by_cases hk : k = d
 ·rw [if_pos hk,if_pos hk]; rfl
 ·rw [if_neg hk,if_neg hk]
theorem K.Eff.atGet {C : Cx} {R O : List (Nat × Obj)} {Γ : Env} {op : Oper} {t kt el : TypeId} {x y : Operand} {k : List UInt8} {l : List (List UInt8)} {e : TypeId} (ho : op.op = .lookup t x y true) (hm : C.P.underlying t = some (.map kt e)) (hd : DKey C.P kt el 32) (hkn : k.length = 32) (hz0 : (C.P.info? e).bind (·.zero) = some (.int .i64 0)) {r : Nat} (hx : opd Γ [] x = some (.map (some r))) (hy : opd Γ [] y = some (.agg (bv k)))
  {es : Array MapEntry} {ck : Nat} {W : List (List UInt8 × Value)} (h : DMapOk 32 es ck W) (hW : AtOk W l) (hb : ∀ w,HP C.w0 C.M R O w → w.heap[r]? = some (.map es ck)) {j : Nat} {b : Bool} (hj : (atF l k = some j ∧ b = true) ∨ (atF l k = none ∧ j = 0 ∧ b = false)) : Eff C R O Γ op Unit (fun _ => .tuple #[.int .i64 (j : Int),.bool b]) (fun _ => O) (fun _ => True) := by
 have h1 := Eff.dGet (z := .int .i64 0) ho hm hd hz0 hkn hx hy h hb
 rw [hW k] at h1
 rcases hj with ⟨hj,rfl⟩ | ⟨hj,rfl,rfl⟩
 ·rw [hj] at h1; exact h1
 ·rw [hj] at h1; exact h1
theorem ids_take {E : List En} {i : Nat} (h : i < E.length) : ids (E.take (i + 1)) = ids (E.take i) ++ [(E.getD i ez).id] := by
 unfold ids
 rw [List.take_succ_eq_append_getElem h,List.map_append,getD_of _ h]; rfl
theorem ids_tl (E : List En) {i : Nat} (h : i ≤ E.length) : (ids (E.take i)).length = i := by unfold ids; rw [List.length_map,List.length_take]; omega
theorem str_at {ts : List ByteArray} {cs : Array Value} (hcs : ∀ j,j < (ts.map Value.string).length → cs[0 + j]? = some ((ts.map Value.string).getD j undef)) {j : Nat} (hj : j < ts.length) : cs[j]? = some (.string (ts.getD j ByteArray.empty)) := by
 have h := hcs j (by rw [List.length_map]; exact hj)
 rw [Nat.zero_add] at h
 rw [h,List.getD_eq_getElem?_getD,List.getElem?_map,List.getD_eq_getElem?_getD,List.getElem?_eq_getElem hj]; rfl
set_option maxRecDepth 100000 in
set_option maxHeartbeats 8000000 in
theorem pkTake (b : Nat) (z : IN) (w : World) (hB : w.heap[b]? = some (.cells (inC z) 140 (0,0))) :
  Calls Tryz.prog 58 #[.pointer (some ⟨b,0,none⟩)] w fun e w' => e = .returned (.agg (enc (takeE z).1).toArray) ∧ Ext [b] w w' ∧ w'.heap[b]? = some (.cells (inC (takeE z).2) 140 (0,0)) := by
 have htl := takeE_ok z
 have hd1 := digF_len z
 have hzl : EnL ⟨(digF z).1,ByteArray.empty,dzz,ByteArray.empty,0⟩ := ⟨hd1,dzz_len⟩
 refine enter (vs := [pT b]) [b] [] [(b,.cells (inC z) 140 (0,0))] Tryz.func58 rfl kr (HP.startM (R := []) (fun _ h => by cases h) hB (by simp)) ?_
 refine Cfg.begL rfl ?_
 refine Le (Eff.alloc (z := (.agg (enc ez).toArray)) rfl kr) ?_
 rintro rs ⟨hrs,nrs⟩
 refine CfgL.done rfl ?_
 refine Cfg.begL rfl ?_
 refine Lp 1 [] none n0 trivial ?_
 refine Le (Eff.callM (vs := [pT b]) (.agg (bv (digF z).1)) 1 (b := b) (ob := .cells (inC z) 140 (0,0)) (.cells (inC ((digF z).2)) 140 (0,0)) rfl Tryz.func79 rfl rfl kr kr (fun w1 h => wTDigest b z w1 (h.own (b,_) (mG 1 rfl)))) ?_
 rintro ⟨⟩ -
 refine Lp 1 [(dS (.agg (enc ⟨(digF z).1,ByteArray.empty,dzz,ByteArray.empty,0⟩).toArray))] (some [0,2,6]) (fun S => [(∀ w1,S w1 → (Instr.build 62 #[(0,.agg (bv (digF z).1))]).run Tryz.prog w1 = .ok (.agg (enc ⟨(digF z).1,ByteArray.empty,dzz,ByteArray.empty,0⟩).toArray) w1)]) ⟨(fun w1 _ => build_e0 hd1 w1),trivial⟩ ?_
 refine Le (Eff.alloc (z := (.agg (enc ez).toArray)) rfl kr) ?_
 rintro pt ⟨hpt,npt⟩
 refine Le (Eff.storeN (b := pt) (off := 0) (vs := (enc ⟨(digF z).1,ByteArray.empty,dzz,ByteArray.empty,0⟩).toArray) (n := 67) rfl kr kr kr (by rw [List.size_toArray,enc_len hzl]) (fun q hq => all_enc _ q hq) 0 (cs := (enc ez).toArray) (e := 62) kr (by rw [zero_en]; decide)) ?_
 rintro ⟨⟩ -
 refine CfgL.setO (congrArg (fun (xq : Array Value) => ([(pt,.cells xq 62 (0,0)),(rs,.cells ((enc ez).toArray) 62 (0,0)),(b,.cells (inC ((digF z).2)) 140 (0,0))] : LO)) (show _ = ((enc ⟨(digF z).1,ByteArray.empty,dzz,ByteArray.empty,0⟩).toArray) from spl_all (by rw [List.size_toArray,zero_en,enc_len hzl]))) ?_
 refine CfgL.done rfl ?_
 refine Cg (Γ' := [(3,[],pT pt),(2,[],pT rs),(0,[],pT b)]) ?_
 refine Cfg.begL rfl ?_
 refine Lp 1 [] none n0 trivial ?_
 refine Le (Eff.callM (vs := [pT b]) (.int .u8 ((byteF ((digF z).2)).1 : Int)) 2 (b := b) (ob := .cells (inC ((digF z).2)) 140 (0,0)) (.cells (inC ((byteF ((digF z).2)).2)) 140 (0,0)) rfl Tryz.func80 rfl rfl kr kr (fun w1 h => wTByte b ((digF z).2) w1 (h.own (b,_) (mG 2 rfl)))) ?_
 rintro ⟨⟩ -
 refine CfgL.done rfl ?_
 refine Cg (Γ' := [(8,[],.int .u8 ((byteF ((digF z).2)).1 : Int)),(3,[],pT pt),(2,[],pT rs),(0,[],pT b)]) ?_
 refine Rg [0,2,3,8,11] [] n0 trivial ?_
 refine Cfg.cond rfl (b := (((byteF ((digF z).2)).1 : Int) == (0 : Int))) kr (fun c1r => ?_) (fun c1r => ?_)
 ·have c1 := (beq_iff_eq.1 c1r)
  refine Cfg.begL rfl ?_
  refine Lp 1 [] (some [2,3,13]) n0 trivial ?_
  refine Le (Eff.callM (vs := [pT b,.int .i64 32768]) (.string (tx (textF ((byteF ((digF z).2)).2) (32768 : Int)).1)) 2 (b := b) (ob := .cells (inC ((byteF ((digF z).2)).2)) 140 (0,0)) (.cells (inC ((textF ((byteF ((digF z).2)).2) (32768 : Int)).2)) 140 (0,0)) rfl Tryz.func81 rfl rfl kr kr (fun w1 h => wTText b ((byteF ((digF z).2)).2) (32768 : Int) w1 (h.own (b,_) (mG 2 rfl)) (by decide))) ?_
  rintro ⟨⟩ -
  refine Lp 1 [] (some [2,3,14,15]) n0 trivial ?_
  refine Le (Eff.store1 (b := pt) (off := 32) (v := .string (tx (textF ((byteF ((digF z).2)).2) (32768 : Int)).1)) rfl kr kr rfl kr 0 (cs := (enc ⟨(digF z).1,ByteArray.empty,dzz,ByteArray.empty,0⟩).toArray) (e := 62) kr (by (repeat rw [Array.size_setIfInBounds]); (try rw [size_spl]); (repeat rw [Array.size_setIfInBounds]); rw [List.size_toArray,enc_len hzl]; decide)) ?_
  rintro ⟨⟩ -
  refine CfgL.done rfl ?_
  refine Cg (Γ' := [(3,[],pT pt),(2,[],pT rs)]) ?_
  have hx : takeE z = (⟨(digF z).1,tx (textF (byteF (digF z).2).2 32768).1,dzz,ByteArray.empty,0⟩,(textF (byteF (digF z).2).2 32768).2) := if_pos om
  refine Cfg.setO (congrArg (fun (xq : Array Value) => ([(pt,.cells xq 62 (0,0)),(rs,.cells ((enc ez).toArray) 62 (0,0)),(b,.cells (inC ((textF ((byteF ((digF z).2)).2) (32768 : Int)).2)) 140 (0,0))] : LO)) (show _ = ((enc (takeE z).1).toArray) from by rw [hx]; exact enc_sett hzl _)) ?_
  refine Cfg.setO (congrArg (fun (xq : Array Value) => ([(pt,.cells ((enc (takeE z).1).toArray) 62 (0,0)),(rs,.cells ((enc ez).toArray) 62 (0,0)),(b,.cells xq 140 (0,0))] : LO)) (show _ = (inC ((takeE z).2)) from by rw [hx])) ?_
  refine Cfg.begL rfl ?_
  refine Lp 1 [(dS (.agg (enc (takeE z).1).toArray))] (some [2,25]) (fun S => [(∀ w1,S w1 → (loadVar 62 ⟨pt,0,none⟩).run Tryz.prog w1 = .ok (.agg (enc (takeE z).1).toArray) w1)]) ⟨(fun w1 h => load_list (vs := enc (takeE z).1) Tryz.underlying62 rfl kr (enc_len htl.l) (fun q9 v hq9 => h.ocell 0 rfl (by rw [List.getElem?_toArray,Nat.zero_add]; exact hq9))),trivial⟩ ?_
  refine Le (Eff.storeN (b := rs) (off := 0) (vs := (enc (takeE z).1).toArray) (n := 67) rfl kr kr kr (by rw [List.size_toArray,enc_len htl.l]) (fun q hq => all_enc _ q hq) 1 (cs := (enc ez).toArray) (e := 62) kr (by rw [zero_en]; decide)) ?_
  rintro ⟨⟩ -
  refine CfgL.setO (congrArg (fun (xq : Array Value) => ([(pt,.cells ((enc (takeE z).1).toArray) 62 (0,0)),(rs,.cells xq 62 (0,0)),(b,.cells (inC ((takeE z).2)) 140 (0,0))] : LO)) (show _ = ((enc (takeE z).1).toArray) from spl_all (by rw [List.size_toArray,zero_en,enc_len htl.l]))) ?_
  refine CfgL.done rfl ?_
  refine Cg (Γ' := [(2,[],pT rs)]) ?_
  refine Cfg.ret rfl (rs := [.cell 2 62]) rfl [.agg (enc (takeE z).1).toArray] ⟨⟨_,by kernel_rfl,(fun w1 h => load_list (vs := enc (takeE z).1) Tryz.underlying62 rfl kr (enc_len htl.l) (fun q9 v hq9 => h.ocell 1 rfl (by rw [List.getElem?_toArray,Nat.zero_add]; exact hq9)))⟩,trivial⟩ (fun w1 hp => ?_)
  exact ⟨rfl,hp.ext,hp.own (b,_) (mG 2 rfl)⟩
 ·have c1 := (beq_eq_false_iff_ne.1 c1r)
  refine Rg [0,2,3,16] [] n0 trivial ?_
  refine Cfg.cond rfl (b := (((byteF ((digF z).2)).1 : Int) == (1 : Int))) kr (fun c2r => ?_) (fun c2r => ?_)
  ·have c2 := (beq_iff_eq.1 c2r)
   refine Cfg.begL rfl ?_
   refine Lp 1 [] (some [0,2,3,18]) n0 trivial ?_
   refine Le (Eff.store1 (b := pt) (off := 66) (v := .int .i64 1) rfl kr kr rfl kr 0 (cs := (enc ⟨(digF z).1,ByteArray.empty,dzz,ByteArray.empty,0⟩).toArray) (e := 62) kr (by (repeat rw [Array.size_setIfInBounds]); (try rw [size_spl]); (repeat rw [Array.size_setIfInBounds]); rw [List.size_toArray,enc_len hzl]; decide)) ?_
   rintro ⟨⟩ -
   refine CfgL.done rfl ?_
   refine Cg (Γ' := [(3,[],pT pt),(2,[],pT rs),(0,[],pT b)]) ?_
   refine Cfg.begL rfl ?_
   refine Lp 1 [] none n0 trivial ?_
   refine Le (Eff.callM (vs := [pT b]) (.agg (bv (digF ((byteF ((digF z).2)).2)).1)) 2 (b := b) (ob := .cells (inC ((byteF ((digF z).2)).2)) 140 (0,0)) (.cells (inC ((digF ((byteF ((digF z).2)).2)).2)) 140 (0,0)) rfl Tryz.func79 rfl rfl kr kr (fun w1 h => wTDigest b ((byteF ((digF z).2)).2) w1 (h.own (b,_) (mG 2 rfl)))) ?_
   rintro ⟨⟩ -
   refine Lp 1 [] (some [0,2,3,20,21]) n0 trivial ?_
   refine Le (Eff.storeN (b := pt) (off := 33) (vs := (bv (digF ((byteF ((digF z).2)).2)).1)) (n := 32) rfl kr kr kr ((bv_size _).trans (digF_len _)) (all_bv _) 0 (cs := ((enc ⟨(digF z).1,ByteArray.empty,dzz,ByteArray.empty,0⟩).toArray.setIfInBounds 66 (.int .i64 1))) (e := 62) kr (by rw [Array.size_setIfInBounds,List.size_toArray,enc_len hzl]; decide)) ?_
   rintro ⟨⟩ -
   refine CfgL.setO (congrArg (fun (xq : Array Value) => ([(pt,.cells xq 62 (0,0)),(rs,.cells ((enc ez).toArray) 62 (0,0)),(b,.cells (inC ((digF ((byteF ((digF z).2)).2)).2)) 140 (0,0))] : LO)) (show _ = (spl ((enc ⟨(digF z).1,ByteArray.empty,dzz,ByteArray.empty,0⟩).toArray.setIfInBounds 66 (.int .i64 1)) 33 (bv (digF ((byteF ((digF z).2)).2)).1).toList) from rfl)) ?_
   refine CfgL.done rfl ?_
   refine Cg (Γ' := [(3,[],pT pt),(2,[],pT rs),(0,[],pT b)]) ?_
   refine Cfg.begL rfl ?_
   refine Lp 1 [] (some [2,3,22]) n0 trivial ?_
   refine Le (Eff.callM (vs := [pT b,.int .i64 32768]) (.string (tx (textF ((digF ((byteF ((digF z).2)).2)).2) (32768 : Int)).1)) 2 (b := b) (ob := .cells (inC ((digF ((byteF ((digF z).2)).2)).2)) 140 (0,0)) (.cells (inC ((textF ((digF ((byteF ((digF z).2)).2)).2) (32768 : Int)).2)) 140 (0,0)) rfl Tryz.func81 rfl rfl kr kr (fun w1 h => wTText b ((digF ((byteF ((digF z).2)).2)).2) (32768 : Int) w1 (h.own (b,_) (mG 2 rfl)) (by decide))) ?_
   rintro ⟨⟩ -
   refine Lp 1 [] (some [2,3,23,24]) n0 trivial ?_
   refine Le (Eff.store1 (b := pt) (off := 65) (v := .string (tx (textF ((digF ((byteF ((digF z).2)).2)).2) (32768 : Int)).1)) rfl kr kr rfl kr 0 (cs := (spl ((enc ⟨(digF z).1,ByteArray.empty,dzz,ByteArray.empty,0⟩).toArray.setIfInBounds 66 (.int .i64 1)) 33 (bv (digF ((byteF ((digF z).2)).2)).1).toList)) (e := 62) kr (by (repeat rw [Array.size_setIfInBounds]); (try rw [size_spl]); (repeat rw [Array.size_setIfInBounds]); rw [List.size_toArray,enc_len hzl]; decide)) ?_
   rintro ⟨⟩ -
   refine CfgL.done rfl ?_
   refine Cg (Γ' := [(3,[],pT pt),(2,[],pT rs)]) ?_
   have hx : takeE z = (⟨(digF z).1,ByteArray.empty,(digF (byteF (digF z).2).2).1,tx (textF (digF (byteF (digF z).2).2).2 32768).1,1⟩,(textF (digF (byteF (digF z).2).2).2 32768).2) := (if_neg om).trans (if_pos om)
   refine Cfg.setO (congrArg (fun (xq : Array Value) => ([(pt,.cells xq 62 (0,0)),(rs,.cells ((enc ez).toArray) 62 (0,0)),(b,.cells (inC ((textF ((digF ((byteF ((digF z).2)).2)).2) (32768 : Int)).2)) 140 (0,0))] : LO)) (show _ = ((enc (takeE z).1).toArray) from by rw [hx]; have e1 := enc_setp hzl 1; have e2 := enc_setb (x := ⟨(digF z).1,ByteArray.empty,dzz,ByteArray.empty,1⟩) ⟨hd1,dzz_len⟩ (digF_len (byteF (digF z).2).2); have e3 := enc_setd (x := ⟨(digF z).1,ByteArray.empty,(digF (byteF (digF z).2).2).1,ByteArray.empty,1⟩) ⟨hd1,digF_len _⟩ (tx (textF (digF (byteF (digF z).2).2).2 32768).1); exact (congrArg (fun q => (spl q 33 (bv (digF (byteF (digF z).2).2).1).toList).setIfInBounds 65 (.string (tx (textF (digF (byteF (digF z).2).2).2 32768).1))) e1).trans ((congrArg (fun q : Array Value => q.setIfInBounds 65 (.string (tx (textF (digF (byteF (digF z).2).2).2 32768).1))) e2).trans e3))) ?_
   refine Cfg.setO (congrArg (fun (xq : Array Value) => ([(pt,.cells ((enc (takeE z).1).toArray) 62 (0,0)),(rs,.cells ((enc ez).toArray) 62 (0,0)),(b,.cells xq 140 (0,0))] : LO)) (show _ = (inC ((takeE z).2)) from by rw [hx])) ?_
   refine Cfg.begL rfl ?_
   refine Lp 1 [(dS (.agg (enc (takeE z).1).toArray))] (some [2,25]) (fun S => [(∀ w1,S w1 → (loadVar 62 ⟨pt,0,none⟩).run Tryz.prog w1 = .ok (.agg (enc (takeE z).1).toArray) w1)]) ⟨(fun w1 h => load_list (vs := enc (takeE z).1) Tryz.underlying62 rfl kr (enc_len htl.l) (fun q9 v hq9 => h.ocell 0 rfl (by rw [List.getElem?_toArray,Nat.zero_add]; exact hq9))),trivial⟩ ?_
   refine Le (Eff.storeN (b := rs) (off := 0) (vs := (enc (takeE z).1).toArray) (n := 67) rfl kr kr kr (by rw [List.size_toArray,enc_len htl.l]) (fun q hq => all_enc _ q hq) 1 (cs := (enc ez).toArray) (e := 62) kr (by rw [zero_en]; decide)) ?_
   rintro ⟨⟩ -
   refine CfgL.setO (congrArg (fun (xq : Array Value) => ([(pt,.cells ((enc (takeE z).1).toArray) 62 (0,0)),(rs,.cells xq 62 (0,0)),(b,.cells (inC ((takeE z).2)) 140 (0,0))] : LO)) (show _ = ((enc (takeE z).1).toArray) from spl_all (by rw [List.size_toArray,zero_en,enc_len htl.l]))) ?_
   refine CfgL.done rfl ?_
   refine Cg (Γ' := [(2,[],pT rs)]) ?_
   refine Cfg.ret rfl (rs := [.cell 2 62]) rfl [.agg (enc (takeE z).1).toArray] ⟨⟨_,by kernel_rfl,(fun w1 h => load_list (vs := enc (takeE z).1) Tryz.underlying62 rfl kr (enc_len htl.l) (fun q9 v hq9 => h.ocell 1 rfl (by rw [List.getElem?_toArray,Nat.zero_add]; exact hq9)))⟩,trivial⟩ (fun w1 hp => ?_)
   exact ⟨rfl,hp.ext,hp.own (b,_) (mG 2 rfl)⟩
  ·have c2 := (beq_eq_false_iff_ne.1 c2r)
   refine Cfg.begL rfl ?_
   refine Lp 1 [] (some [2,3,9]) n0 trivial ?_
   refine Le (Eff.callM (vs := [pT b,.int .i64 11]) (.tuple #[]) 2 (b := b) (ob := .cells (inC ((byteF ((digF z).2)).2)) 140 (0,0)) (.cells (inC (failF ((byteF ((digF z).2)).2) (11 : Int))) 140 (0,0)) rfl Tryz.func82 rfl rfl kr kr (fun w1 h => wFail b ((byteF ((digF z).2)).2) (11 : Int) w1 (h.own (b,_) (mG 2 rfl)))) ?_
   rintro ⟨⟩ -
   refine CfgL.done rfl ?_
   refine Cg (Γ' := [(3,[],pT pt),(2,[],pT rs)]) ?_
   have hx : takeE z = (⟨(digF z).1,ByteArray.empty,dzz,ByteArray.empty,0⟩,failF (byteF (digF z).2).2 11) := (if_neg om).trans (if_neg om)
   refine Cfg.setO (congrArg (fun (xq : Array Value) => ([(pt,.cells xq 62 (0,0)),(rs,.cells ((enc ez).toArray) 62 (0,0)),(b,.cells (inC (failF ((byteF ((digF z).2)).2) (11 : Int))) 140 (0,0))] : LO)) (show _ = ((enc (takeE z).1).toArray) from by rw [hx])) ?_
   refine Cfg.setO (congrArg (fun (xq : Array Value) => ([(pt,.cells ((enc (takeE z).1).toArray) 62 (0,0)),(rs,.cells ((enc ez).toArray) 62 (0,0)),(b,.cells xq 140 (0,0))] : LO)) (show _ = (inC ((takeE z).2)) from by rw [hx])) ?_
   refine Cfg.begL rfl ?_
   refine Lp 1 [(dS (.agg (enc (takeE z).1).toArray))] (some [2,25]) (fun S => [(∀ w1,S w1 → (loadVar 62 ⟨pt,0,none⟩).run Tryz.prog w1 = .ok (.agg (enc (takeE z).1).toArray) w1)]) ⟨(fun w1 h => load_list (vs := enc (takeE z).1) Tryz.underlying62 rfl kr (enc_len htl.l) (fun q9 v hq9 => h.ocell 0 rfl (by rw [List.getElem?_toArray,Nat.zero_add]; exact hq9))),trivial⟩ ?_
   refine Le (Eff.storeN (b := rs) (off := 0) (vs := (enc (takeE z).1).toArray) (n := 67) rfl kr kr kr (by rw [List.size_toArray,enc_len htl.l]) (fun q hq => all_enc _ q hq) 1 (cs := (enc ez).toArray) (e := 62) kr (by rw [zero_en]; decide)) ?_
   rintro ⟨⟩ -
   refine CfgL.setO (congrArg (fun (xq : Array Value) => ([(pt,.cells ((enc (takeE z).1).toArray) 62 (0,0)),(rs,.cells xq 62 (0,0)),(b,.cells (inC ((takeE z).2)) 140 (0,0))] : LO)) (show _ = ((enc (takeE z).1).toArray) from spl_all (by rw [List.size_toArray,zero_en,enc_len htl.l]))) ?_
   refine CfgL.done rfl ?_
   refine Cg (Γ' := [(2,[],pT rs)]) ?_
   refine Cfg.ret rfl (rs := [.cell 2 62]) rfl [.agg (enc (takeE z).1).toArray] ⟨⟨_,by kernel_rfl,(fun w1 h => load_list (vs := enc (takeE z).1) Tryz.underlying62 rfl kr (enc_len htl.l) (fun q9 v hq9 => h.ocell 1 rfl (by rw [List.getElem?_toArray,Nat.zero_add]; exact hq9)))⟩,trivial⟩ (fun w1 hp => ?_)
   exact ⟨rfl,hp.ext,hp.own (b,_) (mG 2 rfl)⟩
set_option maxRecDepth 100000 in
set_option maxHeartbeats 8000000 in
theorem wRowsE (b : Nat) (z : IN) (most : Int) (w : World) (hB : w.heap[b]? = some (.cells (inC z) 140 (0,0))) (hm : most ≤ 1048576) :
  Calls Tryz.prog 57 #[.pointer (some ⟨b,0,none⟩),.int .i64 most,.func (.func 58) #[] #[]] w fun e w' => ∃ o : K.Own,OwnOk o 67 (rowsT takeE z most).1.length ((rowsT takeE z most).1.flatMap enc) ∧ e = .returned (.slice o.a (rowsT takeE z most).1.length o.c) ∧ Ext [b] w w' ∧ w'.heap[b]? = some (.cells (inC (rowsT takeE z most).2) 140 (0,0)) ∧ Has w' (o.o 62 ((rowsT takeE z most).1.flatMap enc)) ∧ (∀ x ∈ o.o 62 ((rowsT takeE z most).1.flatMap enc),w.heap.size ≤ x.1) := by
 have hbl := boundF_lt z most 6
 have hbm : (boundF z most 6).1 ≤ 1048576 := boundF_le z om
 refine enter (vs := [pT b,.int .i64 most,.func (.func 58) #[] #[]]) [b] [] [(b,.cells (inC z) 140 (0,0))] Tryz.func57 rfl kr (HP.startM (R := []) (fun _ h => by cases h) hB (by simp)) ?_
 refine Rg [0,1,2] [] n0 trivial ?_
 refine Rg [0,1,2,7] [] n0 trivial ?_
 refine Cfg.begL rfl ?_
 refine Lp 2 [] (some [0,2,7,9,10]) n0 trivial ?_
 refine Le (Eff.callM (vs := [pT b,.int .i64 most]) (.int .i64 ((boundF z most 6).1 : Int)) 0 (b := b) (ob := .cells (inC z) 140 (0,0)) (.cells (inC ((boundF z most 6).2)) 140 (0,0)) rfl Tryz.func77 rfl rfl kr kr (fun w1 h => wCount b z most w1 (h.own (b,_) (mG 0 rfl)) om)) ?_
 rintro ⟨⟩ -
 refine Lp 1 [] (some [0,2,7,11,12]) n0 trivial ?_
 refine CfgL.done rfl ?_
 refine Cfg.loop rfl (ι := Nat × IN × List En × K.Own) (fun (xz : Nat × IN × List En × K.Own) => match xz with | (i,y,acc,own) => [(12,[],.int .i64 (i : Int)),(11,[],.int .i64 ((boundF z most 6).1 : Int)),(7,[],.slice (Own.a own) acc.length (Own.c own)),(0,[],pT b),(2,[],.func (.func 58) #[] #[])]) (fun (xz : Nat × IN × List En × K.Own) => match xz with | (i,y,acc,own) => ([(b,.cells (inC y) 140 (0,0))] ++ (Own.o 62 (acc.flatMap enc) own ++ []))) (fun (xz : Nat × IN × List En × K.Own) => match xz with | (i,y,acc,own) => (RowAt takeE (boundF z most 6).1 (boundF z most 6).2 i y acc) ∧ (OwnOk own 67 acc.length (acc.flatMap enc))) (fun (xz : Nat × IN × List En × K.Own) => match xz with | (i,y,acc,own) => (boundF z most 6).1 - i) (0,(boundF z most 6).2,[],none) ?_ (Conv.mk kr) slr ?_
 ·exact ⟨RowAt.start _ _ _,OwnOk.none _⟩
 ·rintro ⟨i,y,acc,own⟩ ⟨hra,hok⟩
  have hal := hra.len
  have hle := hra.le
  have hyl := (takeE_ok y).l
  refine Rg [0,2,7,11,12,13] [] n0 trivial ?_
  refine Cfg.cond rfl (b := (decide ((i : Int) < ((boundF z most 6).1 : Int)))) kr (fun c1r => ?_) (fun c1r => ?_)
  ·have c1 := (dT c1r)
   refine Cfg.begL rfl ?_
   refine Lp 2 [] (some [0,2,7,11,12,14,15]) n0 trivial ?_
   refine Le (Eff.callMV (vs := [pT b]) (.agg (enc (takeE y).1).toArray) 0 (b := b) (ob := .cells (inC y) 140 (0,0)) (.cells (inC (takeE y).2) 140 (0,0)) rfl kr Tryz.func58 rfl rfl kr kr (fun w1 h => pkTake b y w1 (h.own (b,_) (mG 0 rfl)))) ?_
   rintro ⟨⟩ -
   refine Le (Eff.alloc (z := (.agg (enc ez).toArray)) rfl kr) ?_
   rintro el ⟨hel,nel⟩
   refine Le (Eff.storeN (b := el) (off := 0) (vs := (enc (takeE y).1).toArray) (n := 67) rfl kr kr kr (by rw [List.size_toArray,enc_len hyl]) (fun q hq => all_enc _ q hq) 0 (cs := (enc ez).toArray) (e := 62) kr (by rw [zero_en]; decide)) ?_
   rintro ⟨⟩ -
   refine CfgL.setO (congrArg (fun (xq : Array Value) => (([(el,.cells xq 62 (0,0)),(b,.cells (inC ((takeE y).2)) 140 (0,0))] ++ (Own.o 62 (acc.flatMap enc) own ++ [])) : LO)) (show _ = ((enc (takeE y).1).toArray) from spl_all (by rw [List.size_toArray,zero_en,enc_len hyl]))) ?_
   refine CfgL.done rfl ?_
   refine Cg (Γ' := [(8,[],pT el),(12,[],.int .i64 (i : Int)),(11,[],.int .i64 ((boundF z most 6).1 : Int)),(7,[],.slice (Own.a own) acc.length (Own.c own)),(0,[],pT b),(2,[],.func (.func 58) #[] #[])]) ?_
   refine Cfg.begL rfl ?_
   refine Lp 1 [] none n0 trivial ?_
   refine Le (Eff.callA (vs := [pT b]) (.int .i64 (((takeE y).2).er)) rfl Tryz.func78 rfl rfl kr (fun w1 h => wErr b ((takeE y).2) w1 (h.own (b,_) (mG 1 rfl)))) ?_
   rintro ⟨⟩ -
   refine Lp 1 [] (some [0,2,7,8,11,12,19]) n0 trivial ?_
   refine CfgL.done rfl ?_
   refine Cfg.cond rfl (b := ((((takeE y).2).er) != (0 : Int))) kr (fun c2r => ?_) (fun c2r => ?_)
   ·have c2 := (bne_iff_ne.1 c2r)
    refine Rg [6] [] n0 trivial ?_
    refine Cfg.ret rfl (rs := [.tmp 6]) rfl [.slice none 0 0] ⟨kr,trivial⟩ (fun w1 hp => ?_)
    have hx : rowsT takeE z most = ([],(takeE y).2) := hra.fail om c2
    rw [hx]
    exact ⟨none,OwnOk.none _,rfl,hp.ext,hp.own (b,_) (mG 1 rfl),(fun _ h => by cases h),(fun _ h => by cases h)⟩
   ·have c2 := (bne_eq_false_iff_eq.1 c2r)
    refine Cfg.begL rfl ?_
    refine Lp 2 [dZ,(dS (.agg (enc (takeE y).1).toArray))] (some [0,2,7,11,12,20,21]) (fun S => [(∀ w1,S w1 → (loadVar 62 ⟨el,0,none⟩).run Tryz.prog w1 = .ok (.agg (enc (takeE y).1).toArray) w1)]) ⟨(fun w1 h => load_list (vs := enc (takeE y).1) Tryz.underlying62 rfl kr (enc_len hyl) (fun q9 v hq9 => h.ocell 0 rfl (by rw [List.getElem?_toArray,Nat.zero_add]; exact hq9))),trivial⟩ ?_
    refine Le (Eff.buildAgg (vs := (enc (takeE y).1).toArray) (n := 67) rfl kr Tryz.underlying43 kr (z := (.agg (enc ez).toArray)) kr (by rw [List.size_toArray,enc_len hyl]) (by decide) (by decide)) ?_
    rintro bk2 ⟨hbk2,nbk2⟩
    refine Le (Eff.appendF rfl 67 104 Tryz.underlying43 kr (z := (.agg (enc ez).toArray)) kr kr own (xs := (acc.flatMap enc)) hok kr (b2 := bk2) (off2 := 0) (m := 1) (c2 := 1) kr (enc (takeE y).1) (enc_len hyl) (all_enc _) [(bk2,.cells ((enc (takeE y).1).toArray) 62 (0,0)),(el,.cells ((enc (takeE y).1).toArray) 62 (0,0)),(b,.cells (inC ((takeE y).2)) 140 (0,0))] [] (by rfl) (fun w1 h j v hj => by rw [Nat.zero_add]; exact h.ocell 0 rfl (by rw [List.getElem?_toArray]; exact hj)) om om) ?_
    rintro o4 ko4
    refine Lp 1 [] (some [0,2,7,11,12]) n0 trivial ?_
    refine CfgL.done rfl ?_
    refine Rg [0,2,7,11,12] [] (fun _ => [(i6 ((i : Int) + 1))]) ⟨om,trivial⟩ ?_
    have hra2 := hra.next om c2
    refine Cfg.setO (congrArg (fun (xq : List Value) => (([(bk2,.cells ((enc (takeE y).1).toArray) 62 (0,0)),(el,.cells ((enc (takeE y).1).toArray) 62 (0,0)),(b,.cells (inC ((takeE y).2)) 140 (0,0))] ++ (Own.o 62 xq o4 ++ [])) : LO)) (show _ = ((acc ++ [(takeE y).1]).flatMap enc) from by rw [List.flatMap_append,List.flatMap_singleton])) ?_
    refine Cfg.setS 7 (congrArg (fun (xq : Nat) => (.slice (Own.a o4) xq (Own.c o4) : Value)) (show ((acc.length + 1)) = ((acc ++ [(takeE y).1]).length) from by rw [List.length_append]; rfl)) ?_
    refine Cfg.again rfl (i + 1,(takeE y).2,acc ++ [(takeE y).1],o4) ⟨hra2,by rw [List.flatMap_append,List.flatMap_singleton,List.length_append]; exact ko4⟩ (by show (boundF z most 6).1 - (i + 1) < (boundF z most 6).1 - i; omega) (Conv.mk kr) (.cons _ (.cons _ slr))
  ·have c1 := (dF c1r)
   refine Rg [6] [] n0 trivial ?_
   refine Cfg.ret rfl (rs := [.tmp 6]) rfl [.slice (Own.a own) acc.length (Own.c own)] ⟨kr,trivial⟩ (fun w1 hp => ?_)
   have hi2 : i = (boundF z most 6).1 := by omega
   have hx : rowsT takeE z most = (acc,y) := (hi2 ▸ hra).done
   rw [hx]
   refine ⟨own,hok,rfl,hp.ext,hp.own (b,_) (mL (mG 0 rfl)),fun x hx => hp.own x (mR (mL hx)),fun x hx => ?_⟩
   rcases hp.mine x (mR (mL hx)) with h1 | h1
   ·exact h1
   ·exfalso
    have hd := hp.dist
    rw [List.map_append] at hd
    refine (List.nodup_append.1 hd).2.2 b (List.mem_map.2 ⟨(b,_),mG 0 rfl,rfl⟩) x.1 (List.mem_map.2 ⟨x,mL hx,rfl⟩) ?_
    exact (List.mem_singleton.1 h1).symm
set_option maxRecDepth 100000 in
set_option maxHeartbeats 8000000 in
theorem pkRead (l : List UInt8) (w : World) (hl : l.length ≤ 30000000) :
  Calls Tryz.prog 24 #[.string (tx l)] w fun e w' => ∃ ow : K.Own,OwnOk ow 1 (rdT l).length ((rdT l).map Value.string) ∧ e = .returned (.tuple #[.slice (Own.a ow) (rdT l).length (Own.c ow),.bool (readF l).isSome]) ∧ ∃ R1,HP w [] R1 (Own.o 9 ((rdT l).map Value.string) ow) w' := by
 have hts := tx_size l
 have hen := rdRow_len hl
 have heo := rdRow_ok l
 have hel : ∀ e ∈ (rdRow l).1,EnL e := fun e he => (heo e he).l
 refine enter (vs := [.string (tx l)]) [] [] [] Tryz.func24 rfl kr (HP.start w) ?_
 refine Rg [0] [] n0 trivial ?_
 refine Cfg.begL rfl ?_
 refine Lp 1 [] none n0 trivial ?_
 refine Le (Eff.callN (vs := [.string (tx l)]) (fun b : Nat => pT b) (fun b => b) (fun _ => .cells (inC ⟨0,l⟩) 140 (0,0)) (fun _ => True) rfl Tryz.func55 rfl rfl kr (fun w1 _ => wOf l w1)) ?_
 rintro b ⟨-,hbb,nbb⟩
 refine Lp 1 [] (some [0,4]) n0 trivial ?_
 refine CfgL.done rfl ?_
 refine Cfg.begL rfl ?_
 refine Lp 1 [] none n0 trivial ?_
 refine Le (Eff.callM (vs := [pT b,.int .i64 4]) (.string (tx (nextF ⟨0,l⟩ 4).1)) 0 (b := b) (ob := .cells (inC (⟨0,l⟩)) 140 (0,0)) (.cells (inC (rdZ l)) 140 (0,0)) rfl Tryz.func56 rfl rfl kr kr (fun w1 h => wTRaw b ⟨0,l⟩ 4 w1 (h.own (b,_) (mG 0 rfl)))) ?_
 rintro ⟨⟩ -
 refine Lp 1 [] (some [0,4,18]) n0 trivial ?_
 refine CfgL.done rfl ?_
 refine Cfg.cond rfl (b := (!((tx (nextF ⟨0,l⟩ 4).1).toList == (⟨#[80,65,67,75]⟩ : ByteArray).toList))) kr (fun c1r => ?_) (fun c1r => ?_)
 ·have c1 : (((tx (nextF ⟨0,l⟩ 4).1).toList == (⟨#[80,65,67,75]⟩ : ByteArray).toList) = false) := (notT c1r)
  refine Rg [2,3] [] n0 trivial ?_
  refine Cfg.ret rfl (rs := [.tmp 2,.tmp 3]) rfl [.slice none 0 0,.bool false] ⟨kr,by kernel_rfl,trivial⟩ (fun w1 hp => ?_)
  have hx : readF l = none := by unfold readF; rw [if_neg (by rw [magic_eq] at c1; simpa using c1)]
  refine ⟨none,?_,?_,[],?_⟩
  ·unfold rdT; rw [hx]; exact OwnOk.none 1
  ·unfold rdT; rw [hx]; rfl
  ·exact hp.sub (List.nil_sublist _) |>.subR (fun e he => by cases he)
 ·have c1 : (((tx (nextF ⟨0,l⟩ 4).1).toList == (⟨#[80,65,67,75]⟩ : ByteArray).toList) = true) := (notF c1r)
  refine Cfg.begL rfl ?_
  refine Lp 4 [] (some [4,19,22]) (fun _ => [(0 ≤ ((tx l).size : Int) ∧ ((tx l).size : Int) ≤ 9223372036854775807 ∧ 0 < (37 : Int))]) ⟨om,trivial⟩ ?_
  refine Le (Eff.callMO (vs := [pT b,.int .i64 (((tx l).size : Int) / 37),.func (.func 58) #[] #[]]) 62 67 (rdRow l).1.length ((rdRow l).1.flatMap enc) [] [] [] (b := b) (ob := .cells (inC (rdZ l)) 140 (0,0)) (.cells (inC (rdRow l).2) 140 (0,0)) (by rfl) rfl Tryz.func57 rfl rfl kr (fun w1 h => wRowsE b (rdZ l) ((l.length : Int) / 37) w1 (h.own (b,_) (mG 0 rfl)) om)) ?_
  rintro eo kor
  have kor : OwnOk eo 67 (rdRow l).1.length ((rdRow l).1.flatMap enc) := kor
  refine CfgL.pure 1 [] (some [4,5]) (Γ' := [(5,[],.slice (Own.a eo) ((rdRow l).1.length) (Own.c eo)),(4,[],pT b)]) (nd := (fun _ => [])) kr (fun _ => kr) trivial ?_
  refine CfgL.done rfl ?_
  refine Cfg.begL rfl ?_
  refine Lp 1 [] (some [5,24]) n0 trivial ?_
  refine Le (Eff.callA (vs := [pT b]) (.int .i64 (endF (rdRow l).2)) rfl Tryz.func59 rfl rfl kr (fun w1 h => wEnd b (rdRow l).2 w1 (h.own (b,_) (show _ ∈ (([(b,Obj.cells (inC ((rdRow l).2)) 140 (0,0))] ++ (Own.o 62 ((rdRow l).1.flatMap enc) eo ++ [])) : LO) from (mL mH))))) ?_
  rintro ⟨⟩ -
  refine Lp 1 [] (some [5,26]) n0 trivial ?_
  refine CfgL.done rfl ?_
  refine Cfg.cond rfl (b := ((endF (rdRow l).2) != (0 : Int))) kr (fun c2r => ?_) (fun c2r => ?_)
  ·have c2 := (bne_iff_ne.1 c2r)
   refine Rg [2,3] [] n0 trivial ?_
   refine Cfg.ret rfl (rs := [.tmp 2,.tmp 3]) rfl [.slice none 0 0,.bool false] ⟨kr,by kernel_rfl,trivial⟩ (fun w1 hp => ?_)
   have hx : readF l = none := by unfold readF; rw [if_pos (by rw [magic_eq] at c1; simpa using c1),if_neg om]
   refine ⟨none,?_,?_,[],?_⟩
   ·unfold rdT; rw [hx]; exact OwnOk.none 1
   ·unfold rdT; rw [hx]; rfl
   ·exact hp.sub (List.nil_sublist _) |>.subR (fun e he => by cases he)
  ·have c2 := (bne_eq_false_iff_eq.1 c2r)
   refine Rg [5,6] [] n0 trivial ?_
   refine Cfg.begL rfl ?_
   refine Le (Eff.mapNew rfl) ?_
   rintro mb ⟨hmb,nmb⟩
   refine Lp 1 [] (some [5,6,7]) n0 trivial ?_
   refine CfgL.done rfl ?_
   refine Rg [6,7,28,29,30] [] n0 trivial ?_
   refine Cfg.loop rfl (ι := Nat × List (List UInt8 × Value) × MX2 × K.Own × List ByteArray) (fun (xz : Nat × List (List UInt8 × Value) × MX2 × K.Own × List ByteArray) => match xz with | (i,W,y,ow,ts) => [(30,[],.int .i64 (i : Int)),(29,[],.int .i64 ((rdRow l).1.length : Int)),(28,[],.slice (Own.a eo) ((rdRow l).1.length) (Own.c eo)),(7,[],.map (some mb)),(6,[],.slice (Own.a ow) i (Own.c ow))]) (fun (xz : Nat × List (List UInt8 × Value) × MX2 × K.Own × List ByteArray) => match xz with | (i,W,y,ow,ts) => ([(mb,.map y.1 y.2)] ++ (Own.o 9 (ts.map Value.string) ow ++ (Own.o 62 ((rdRow l).1.flatMap enc) eo ++ [])))) (fun (xz : Nat × List (List UInt8 × Value) × MX2 × K.Own × List ByteArray) => match xz with | (i,W,y,ow,ts) => (i ≤ (rdRow l).1.length) ∧ (rdP ((rdRow l).1.drop i) (ids ((rdRow l).1.take i)) ts = rdP (rdRow l).1 [] []) ∧ (ts.length = i) ∧ (OwnOk ow 1 i (ts.map Value.string)) ∧ (DMapOk 32 y.1 y.2 W) ∧ (AtOk W (ids ((rdRow l).1.take i))) ∧ (∀ t ∈ ts,t.size ≤ 32768)) (fun (xz : Nat × List (List UInt8 × Value) × MX2 × K.Own × List ByteArray) => match xz with | (i,W,y,ow,ts) => (rdRow l).1.length - i) (0,[],(#[],0),none,[]) ?_ (Conv.mk kr) (.cons_cons _ (.cons _ slr)) ?_
   ·exact ⟨Nat.zero_le _,rfl,rfl,OwnOk.none 1,DMapOk.empty 32 0,AtOk.nil,fun t h => by cases h⟩
   ·rintro ⟨i,W,y,ow,ts⟩ ⟨hi,hr,htl,hok,hm,hW,hb⟩
    refine Rg [6,7,28,29,30,31] [] n0 trivial ?_
    refine Cfg.cond rfl (b := (decide ((i : Int) < ((rdRow l).1.length : Int)))) kr (fun c3r => ?_) (fun c3r => ?_)
    ·have c3 := (dT c3r)
     have hit := ids_tl (rdRow l).1 (i := i) om
     obtain ⟨b2,bcs,hba,hbm,hbc⟩ := own_at (e := 62) kor om
     obtain ⟨x,hx⟩ : ∃ x,x = (rdRow l).1.getD i ez := ⟨_,rfl⟩
     have hxk : EnOk x := by rw [hx]; exact heo _ (K.getD_mem om)
     have hxl := hxk.l
     have hxt := hxk.t
     have hed : (rdRow l).1.drop i = x :: (rdRow l).1.drop (i + 1) := by rw [hx,getD_of _ om]; exact List.drop_eq_getElem_cons om
     rw [hed] at hr
     refine Cfg.setS 28 (congrArg (fun (xq : Value) => (xq : Value)) (show .slice (Own.a eo) ((rdRow l).1.length) (Own.c eo) = .slice (some ⟨b2,0,none⟩) (rdRow l).1.length (Own.c eo) from by rw [hba])) ?_
     refine Cfg.begL rfl ?_
     refine Lp 3 [dZ,dZ,(dS (.agg (enc x).toArray))] (some [6,7,28,29,30,32,34]) (fun S => [(0 ≤ (i : Int) ∧ (i : Int) < ((rdRow l).1.length : Int)),(∀ w1,S w1 → (loadVar 62 ⟨b2,(i * 67),none⟩).run Tryz.prog w1 = .ok (.agg (enc x).toArray) w1)]) ⟨om,(fun w1 h => load_list (vs := enc x) Tryz.underlying62 rfl kr (enc_len hxl) (fun q9 v hq9 => by exact (cell_cells (h.own _ (show _ ∈ (([(mb,Obj.map y.1 y.2)] ++ (Own.o 9 (ts.map Value.string) ow ++ (Own.o 62 ((rdRow l).1.flatMap enc) eo ++ []))) : LO) from (mR (mR (mL hbm)))))).trans (en_cell hel hbc (i := i) om (by rw [← hx]; exact hq9)))),trivial⟩ ?_
     refine Le (Eff.alloc (z := (.agg (enc ez).toArray)) rfl kr) ?_
     rintro eb ⟨heb,neb⟩
     refine Lp 1 [] (some [6,7,8,9,28,29,30,34]) n0 trivial ?_
     refine Le (Eff.storeN (b := eb) (off := 0) (vs := (enc x).toArray) (n := 67) rfl kr kr kr (by rw [List.size_toArray,enc_len hxl]) (fun q hq => all_enc _ q hq) 0 (cs := (enc ez).toArray) (e := 62) kr (by rw [zero_en]; decide)) ?_
     rintro ⟨⟩ -
     refine CfgL.setO (congrArg (fun (xq : Array Value) => (([(eb,.cells xq 62 (0,0)),(mb,.map y.1 y.2)] ++ (Own.o 9 (ts.map Value.string) ow ++ (Own.o 62 ((rdRow l).1.flatMap enc) eo ++ []))) : LO)) (show _ = ((enc x).toArray) from spl_all (by rw [List.size_toArray,zero_en,enc_len hxl]))) ?_
     refine CfgL.done rfl ?_
     refine Cg (Γ' := [(8,[],.int .i64 (i : Int)),(9,[],pT eb),(30,[],.int .i64 (i : Int)),(29,[],.int .i64 ((rdRow l).1.length : Int)),(28,[],.slice (some ⟨b2,0,none⟩) (rdRow l).1.length (Own.c eo)),(7,[],.map (some mb)),(6,[],.slice (Own.a ow) i (Own.c ow))]) ?_
     refine Rg [6,7,8,9,28,29,30,37] [dZ,(dS (.int .i64 (x.p : Int)))] (fun S => [(cE S eb 66 (.int .i64 (x.p : Int)))]) ⟨(fun w1 h => h.ocell 0 rfl (by rw [List.getElem?_toArray]; exact (enc_p hxl))),trivial⟩ ?_
     refine Cfg.cond rfl (b := (decide ((x.p : Int) > (0 : Int)))) kr (fun c4r => ?_) (fun c4r => ?_)
     ·have c4 := (dT c4r)
      by_cases haf : (atF (ids ((rdRow l).1.take i)) x.b).isSome = true
      ·
       obtain ⟨j,hj⟩ := Option.isSome_iff_exists.1 haf
       have hjl := atF_lt hj
       rw [hit] at hjl
       refine Cfg.begL rfl ?_
       refine Lp 3 [dZ,dZ,(dS (.agg (bv x.b)))] (some [6,7,8,9,28,29,30,39,41]) (fun S => [(∀ w1,S w1 → (loadVar 36 ⟨eb,33,none⟩).run Tryz.prog w1 = .ok (.agg (bv x.b)) w1)]) ⟨(fun w1 h => load_list (vs := dgc x.b) Tryz.underlying36 rfl kr (dgc_len hxl.b) (fun q9 v hq9 => h.ocell 0 rfl (by rw [List.getElem?_toArray]; exact enc_b hxl hq9))),trivial⟩ ?_
       refine Le (Eff.atGet (r := mb) (k := x.b) (l := ids ((rdRow l).1.take i)) (es := y.1) (ck := y.2) rfl Tryz.underlying56 pKey hxl.b kr kr kr hm hW (fun w1 h => (h.own (mb,_) (show _ ∈ (([(eb,Obj.cells ((enc x).toArray) 62 (0,0)),(mb,Obj.map y.1 y.2)] ++ (Own.o 9 (ts.map Value.string) ow ++ (Own.o 62 ((rdRow l).1.flatMap enc) eo ++ []))) : LO) from (mL (List.mem_cons_of_mem _ mH))))) (j := j) (b := true) (.inl ⟨hj,rfl⟩)) ?_
       rintro ⟨⟩ -
       refine Lp 5 [] (some [6,7,8,9,10,11,28,29,30]) n0 trivial ?_
       refine CfgL.done rfl ?_
       refine Rg [6,7,8,9,10,28,29,30,46] [] n0 trivial ?_
       refine Cfg.condF rfl (b := false) kr rfl ?_
       obtain ⟨sb,scs,hsa,hsm,hsc⟩ := own_at (e := 9) hok om
       have htj : (ts.getD j ByteArray.empty).size ≤ 32768 := hb _ (K.getD_mem om)
       refine Cfg.setS 6 (congrArg (fun (xq : Value) => (xq : Value)) (show .slice (Own.a ow) i (Own.c ow) = .slice (some ⟨sb,0,none⟩) i (Own.c ow) from by rw [hsa])) ?_
       refine Cfg.begA rfl kr ([(eb,.cells ((enc x).toArray) 62 (0,0)),(mb,.map y.1 y.2)] ++ (Own.o 9 (ts.map Value.string) ow ++ (Own.o 62 ((rdRow l).1.flatMap enc) eo ++ []))) ?_
       refine Ap [0,1,2,3,4,5] [dZ,dZ,dZ,(dS (.string (ts.getD j ByteArray.empty))),dZ,(dS (.string x.d))] (some [6,7,8,9,28,29,30,51,53]) (tF 6 6) slr 6 (fun S => [(0 ≤ (j : Int) ∧ (j : Int) < (i : Int)),(cE S sb j (.string (ts.getD j ByteArray.empty))),(cE S eb 65 (.string x.d))]) ⟨om,(fun w1 h => (cell_cells (h.own _ (show _ ∈ (([(eb,Obj.cells ((enc x).toArray) 62 (0,0)),(mb,Obj.map y.1 y.2)] ++ (Own.o 9 (ts.map Value.string) ow ++ (Own.o 62 ((rdRow l).1.flatMap enc) eo ++ []))) : LO) from (mR (mL hsm))))).trans (str_at hsc om)),(fun w1 h => h.ocell 0 rfl (by rw [List.getElem?_toArray]; exact (enc_d hxl))),trivial⟩ ?_
       refine Ae 6 rfl 5  (Eff.callA (vs := [.string (ts.getD j ByteArray.empty),.string x.d]) (.tuple #[.string (tx (applyF (ts.getD j ByteArray.empty) x.d.data.toList).1),.int .i64 ((applyF (ts.getD j ByteArray.empty) x.d.data.toList).2)]) rfl Tryz.func60 rfl rfl kr (fun w1 _ => by have h9 := dApply (ts.getD j ByteArray.empty) x.d.data.toList w1 om; rw [tx_back] at h9; exact h9)) (fun _ _ => slr) ?_
       rintro ⟨⟩ -
       refine Ap [7,8,9,10,11] [] (some [6,7,8,9,12,13,28,29,30]) (tF 12 0) slr 0 n0 trivial ?_
       refine CfgA.done kr ?_
       refine Rg [6,7,8,9,12,28,29,30,58] [] n0 trivial ?_
       refine Cfg.cond rfl (b := (((applyF (ts.getD j ByteArray.empty) x.d.data.toList).2) != (0 : Int))) kr (fun c6r => ?_) (fun c6r => ?_)
       ·have c6 := (bne_iff_ne.1 c6r)
        refine Rg [2,3] [] n0 trivial ?_
        refine Cfg.ret rfl (rs := [.tmp 2,.tmp 3]) rfl [.slice none 0 0,.bool false] ⟨kr,by kernel_rfl,trivial⟩ (fun w1 hp => ?_)
        have hrf : readF l = rdP (rdRow l).1 [] [] := by unfold readF; rw [if_pos (by rw [magic_eq] at c1; simpa using c1),if_pos om]
        have hx : readF l = none := by rw [hrf,← hr]; exact rdP_e om hj om
        refine ⟨none,?_,?_,[],?_⟩
        ·unfold rdT; rw [hx]; exact OwnOk.none 1
        ·unfold rdT; rw [hx]; rfl
        ·exact hp.sub (List.nil_sublist _) |>.subR (fun e he => by cases he)
       ·have c6 := (bne_eq_false_iff_eq.1 c6r)
        refine Cfg.begL rfl ?_
        refine Lp 2 [] (some [6,7,8,9,28,29,30,59,60]) n0 trivial ?_
        refine Le (Eff.store1 (b := eb) (off := 32) (v := .string (tx (applyF (ts.getD j ByteArray.empty) x.d.data.toList).1)) rfl kr kr rfl kr 0 (cs := (enc x).toArray) (e := 62) kr (by rw [List.size_toArray,enc_len hxl]; decide)) ?_
        rintro ⟨⟩ -
        refine CfgL.done rfl ?_
        refine Cg (Γ' := [(8,[],.int .i64 (i : Int)),(9,[],pT eb),(30,[],.int .i64 (i : Int)),(29,[],.int .i64 ((rdRow l).1.length : Int)),(28,[],.slice (some ⟨b2,0,none⟩) (rdRow l).1.length (Own.c eo)),(7,[],.map (some mb)),(6,[],.slice (some ⟨sb,0,none⟩) i (Own.c ow))]) ?_
        refine Cfg.setS 6 (congrArg (fun (xq : Value) => (xq : Value)) (show .slice (some ⟨sb,0,none⟩) i (Own.c ow) = .slice (Own.a ow) i (Own.c ow) from by rw [hsa])) ?_
        obtain ⟨x2,hx2⟩ : ∃ q,q = { x with t := (tx (applyF (ts.getD j ByteArray.empty) x.d.data.toList).1) } := ⟨_,rfl⟩
        have hx2l : EnL x2 := by rw [hx2]; exact ⟨hxl.id,hxl.b⟩
        have hx2i : x2.id = x.id := by rw [hx2]
        have hr2 := hr
        rw [rdP_d om hj om] at hr2
        have hx2t : x2.t = (tx (applyF (ts.getD j ByteArray.empty) x.d.data.toList).1) := by rw [hx2]
        have hx2s : x2.t.size ≤ 32768 := by rw [hx2t,tx_size]; exact applyF_len _ _
        refine Cfg.setO (congrArg (fun (xq : Array Value) => (([(eb,.cells xq 62 (0,0)),(mb,.map y.1 y.2)] ++ (Own.o 9 (ts.map Value.string) ow ++ (Own.o 62 ((rdRow l).1.flatMap enc) eo ++ []))) : LO)) (show _ = ((enc x2).toArray) from by rw [hx2]; exact enc_sett hxl _)) ?_
        refine Cfg.begL rfl ?_
        refine Lp 3 [dZ,dZ,(dS (.string x2.t))] (some [6,7,8,9,28,29,30,61,63]) (fun S => [(cE S eb 32 (.string x2.t))]) ⟨(fun w1 h => h.ocell 0 rfl (by rw [List.getElem?_toArray]; exact (enc_t hx2l))),trivial⟩ ?_
        refine Le (Eff.buildSlice (e := 9) (cells := #[.string x2.t]) (parts := #[(0,.string x2.t)]) rfl kr (fun _ => kr)) ?_
        rintro sb2 ⟨hsb2,nsb2⟩
        refine Le (Eff.appendF rfl 1 16 Tryz.underlying22 kr (z := (.string ByteArray.empty)) kr kr ow (xs := (ts.map Value.string)) hok kr (b2 := sb2) (off2 := 0) (m := 1) (c2 := 1) kr ([Value.string x2.t]) rfl (fun q hq => by rw [List.mem_singleton.1 hq]; rfl) [(sb2,.cells #[.string x2.t] 9 (0,0)),(eb,.cells ((enc x2).toArray) 62 (0,0)),(mb,.map y.1 y.2)] ([] ++ (Own.o 62 ((rdRow l).1.flatMap enc) eo ++ [])) (by rfl) (fun w1 h j v hj => by rw [Nat.zero_add]; exact h.ocell 0 rfl (by rw [← Array.getElem?_toList]; exact hj)) om om) ?_
        rintro o6 ko6
        refine Lp 1 [] (some [6,7,8,9,28,29,30]) n0 trivial ?_
        refine CfgL.done rfl ?_
        refine Cfg.begL rfl ?_
        refine Lp 4 [dZ,dZ,(dS (.agg (bv x2.id)))] (some [6,7,28,29,30,66,68,69]) (fun S => [(∀ w1,S w1 → (loadVar 36 ⟨eb,0,none⟩).run Tryz.prog w1 = .ok (.agg (bv x2.id)) w1)]) ⟨(fun w1 h => load_list (vs := dgc x2.id) Tryz.underlying36 rfl kr (dgc_len hx2l.id) (fun q9 v hq9 => h.ocell 1 rfl (by rw [List.getElem?_toArray]; exact enc_id hq9))),trivial⟩ ?_
        refine Le (Eff.dSet (r := mb) (k := x2.id) (u := .int .i64 (i : Int)) (es := y.1) (ck := y.2) (n := 32) (el := 5) rfl Tryz.underlying56 pKey hx2l.id kr kr kr hm 2 kr) ?_
        rintro xm hxm
        refine CfgL.done rfl ?_
        refine Cg (Γ' := [(6,[],.slice (Own.a o6) ((i + 1)) (Own.c o6)),(30,[],.int .i64 (i : Int)),(29,[],.int .i64 ((rdRow l).1.length : Int)),(28,[],.slice (some ⟨b2,0,none⟩) (rdRow l).1.length (Own.c eo)),(7,[],.map (some mb))]) ?_
        refine Rg [6,7,28,29,30] [] (fun _ => [(i6 ((i : Int) + 1))]) ⟨om,trivial⟩ ?_
        have hin : ids ((rdRow l).1.take (i + 1)) = (ids ((rdRow l).1.take i)) ++ [x2.id] := by rw [ids_take om,← hx,hx2i]
        refine Cfg.setO (congrArg (fun (xq : List Value) => (([(sb2,.cells #[.string x2.t] 9 (0,0)),(eb,.cells ((enc x2).toArray) 62 (0,0)),(mb,.map xm.1 xm.2)] ++ (Own.o 9 xq o6 ++ (Own.o 62 ((rdRow l).1.flatMap enc) eo ++ []))) : LO)) (show _ = ((ts ++ [x2.t]).map Value.string) from by rw [List.map_append]; rfl)) ?_
        refine Cfg.setS 28 (congrArg (fun (xq : Value) => (xq : Value)) (show .slice (some ⟨b2,0,none⟩) (rdRow l).1.length (Own.c eo) = .slice (Own.a eo) ((rdRow l).1.length) (Own.c eo) from by rw [hba])) ?_
        refine Cfg.again rfl (i + 1,dset W x2.id (.int .i64 (i : Int)),xm,o6,ts ++ [x2.t]) ⟨by omega,by rw [hin,hx2i,hx2t]; exact hr2,by rw [List.length_append,htl]; rfl,by rw [List.map_append]; exact ko6,hxm,by rw [hin]; have h9 := hW.add x2.id; rw [hit] at h9; exact h9,fun t ht => (List.mem_append.1 ht).elim (hb t) (fun h => by rw [List.mem_singleton.1 h]; exact hx2s)⟩ (by show (rdRow l).1.length - (i + 1) < (rdRow l).1.length - i; omega) (Conv.mk kr) (.cons _ (.cons _ slr))
      ·
       have hjn : atF (ids ((rdRow l).1.take i)) x.b = none := by simpa using haf
       refine Cfg.begL rfl ?_
       refine Lp 3 [dZ,dZ,(dS (.agg (bv x.b)))] (some [6,7,8,9,28,29,30,39,41]) (fun S => [(∀ w1,S w1 → (loadVar 36 ⟨eb,33,none⟩).run Tryz.prog w1 = .ok (.agg (bv x.b)) w1)]) ⟨(fun w1 h => load_list (vs := dgc x.b) Tryz.underlying36 rfl kr (dgc_len hxl.b) (fun q9 v hq9 => h.ocell 0 rfl (by rw [List.getElem?_toArray]; exact enc_b hxl hq9))),trivial⟩ ?_
       refine Le (Eff.atGet (r := mb) (k := x.b) (l := ids ((rdRow l).1.take i)) (es := y.1) (ck := y.2) rfl Tryz.underlying56 pKey hxl.b kr kr kr hm hW (fun w1 h => (h.own (mb,_) (show _ ∈ (([(eb,Obj.cells ((enc x).toArray) 62 (0,0)),(mb,Obj.map y.1 y.2)] ++ (Own.o 9 (ts.map Value.string) ow ++ (Own.o 62 ((rdRow l).1.flatMap enc) eo ++ []))) : LO) from (mL (List.mem_cons_of_mem _ mH))))) (j := 0) (b := false) (.inr ⟨hjn,rfl,rfl⟩)) ?_
       rintro ⟨⟩ -
       refine Lp 5 [] (some [6,7,8,9,10,11,28,29,30]) n0 trivial ?_
       refine CfgL.done rfl ?_
       refine Rg [6,7,8,9,10,28,29,30,46] [] n0 trivial ?_
       refine Cfg.condT rfl (b := true) kr rfl ?_
       refine Rg [2,3] [] n0 trivial ?_
       refine Cfg.ret rfl (rs := [.tmp 2,.tmp 3]) rfl [.slice none 0 0,.bool false] ⟨kr,by kernel_rfl,trivial⟩ (fun w1 hp => ?_)
       have hrf : readF l = rdP (rdRow l).1 [] [] := by unfold readF; rw [if_pos (by rw [magic_eq] at c1; simpa using c1),if_pos om]
       have hx : readF l = none := by rw [hrf,← hr]; exact rdP_n om hjn
       refine ⟨none,?_,?_,[],?_⟩
       ·unfold rdT; rw [hx]; exact OwnOk.none 1
       ·unfold rdT; rw [hx]; rfl
       ·exact hp.sub (List.nil_sublist _) |>.subR (fun e he => by cases he)
     ·have c4 := (dF c4r)
      have hr2 := hr
      rw [rdP_w om] at hr2
      refine Cfg.begL rfl ?_
      refine Lp 3 [dZ,dZ,(dS (.string x.t))] (some [6,7,8,9,28,29,30,61,63]) (fun S => [(cE S eb 32 (.string x.t))]) ⟨(fun w1 h => h.ocell 0 rfl (by rw [List.getElem?_toArray]; exact (enc_t hxl))),trivial⟩ ?_
      refine Le (Eff.buildSlice (e := 9) (cells := #[.string x.t]) (parts := #[(0,.string x.t)]) rfl kr (fun _ => kr)) ?_
      rintro sb2 ⟨hsb2,nsb2⟩
      refine Le (Eff.appendF rfl 1 16 Tryz.underlying22 kr (z := (.string ByteArray.empty)) kr kr ow (xs := (ts.map Value.string)) hok kr (b2 := sb2) (off2 := 0) (m := 1) (c2 := 1) kr ([Value.string x.t]) rfl (fun q hq => by rw [List.mem_singleton.1 hq]; rfl) [(sb2,.cells #[.string x.t] 9 (0,0)),(eb,.cells ((enc x).toArray) 62 (0,0)),(mb,.map y.1 y.2)] ([] ++ (Own.o 62 ((rdRow l).1.flatMap enc) eo ++ [])) (by rfl) (fun w1 h j v hj => by rw [Nat.zero_add]; exact h.ocell 0 rfl (by rw [← Array.getElem?_toList]; exact hj)) om om) ?_
      rintro o7 ko7
      refine Lp 1 [] (some [6,7,8,9,28,29,30]) n0 trivial ?_
      refine CfgL.done rfl ?_
      refine Cfg.begL rfl ?_
      refine Lp 4 [dZ,dZ,(dS (.agg (bv x.id)))] (some [6,7,28,29,30,66,68,69]) (fun S => [(∀ w1,S w1 → (loadVar 36 ⟨eb,0,none⟩).run Tryz.prog w1 = .ok (.agg (bv x.id)) w1)]) ⟨(fun w1 h => load_list (vs := dgc x.id) Tryz.underlying36 rfl kr (dgc_len hxl.id) (fun q9 v hq9 => h.ocell 1 rfl (by rw [List.getElem?_toArray]; exact enc_id hq9))),trivial⟩ ?_
      refine Le (Eff.dSet (r := mb) (k := x.id) (u := .int .i64 (i : Int)) (es := y.1) (ck := y.2) (n := 32) (el := 5) rfl Tryz.underlying56 pKey hxl.id kr kr kr hm 2 kr) ?_
      rintro xm hxm
      refine CfgL.done rfl ?_
      refine Cg (Γ' := [(6,[],.slice (Own.a o7) ((i + 1)) (Own.c o7)),(30,[],.int .i64 (i : Int)),(29,[],.int .i64 ((rdRow l).1.length : Int)),(28,[],.slice (some ⟨b2,0,none⟩) (rdRow l).1.length (Own.c eo)),(7,[],.map (some mb))]) ?_
      refine Rg [6,7,28,29,30] [] (fun _ => [(i6 ((i : Int) + 1))]) ⟨om,trivial⟩ ?_
      have hin : ids ((rdRow l).1.take (i + 1)) = (ids ((rdRow l).1.take i)) ++ [x.id] := by rw [ids_take om,← hx]
      refine Cfg.setO (congrArg (fun (xq : List Value) => (([(sb2,.cells #[.string x.t] 9 (0,0)),(eb,.cells ((enc x).toArray) 62 (0,0)),(mb,.map xm.1 xm.2)] ++ (Own.o 9 xq o7 ++ (Own.o 62 ((rdRow l).1.flatMap enc) eo ++ []))) : LO)) (show _ = ((ts ++ [x.t]).map Value.string) from by rw [List.map_append]; rfl)) ?_
      refine Cfg.setS 28 (congrArg (fun (xq : Value) => (xq : Value)) (show .slice (some ⟨b2,0,none⟩) (rdRow l).1.length (Own.c eo) = .slice (Own.a eo) ((rdRow l).1.length) (Own.c eo) from by rw [hba])) ?_
      refine Cfg.again rfl (i + 1,dset W x.id (.int .i64 (i : Int)),xm,o7,ts ++ [x.t]) ⟨by omega,by rw [hin]; exact hr2,by rw [List.length_append,htl]; rfl,by rw [List.map_append]; exact ko7,hxm,by rw [hin]; have h9 := hW.add x.id; rw [hit] at h9; exact h9,fun t ht => (List.mem_append.1 ht).elim (hb t) (fun h => by rw [List.mem_singleton.1 h]; exact hxt)⟩ (by show (rdRow l).1.length - (i + 1) < (rdRow l).1.length - i; omega) (Conv.mk kr) (.cons _ (.cons _ slr))
    ·have c3 := (dF c3r)
     refine Rg [2,3] [] n0 trivial ?_
     refine Cfg.ret rfl (rs := [.tmp 2,.tmp 3]) rfl [.slice (Own.a ow) i (Own.c ow),.bool true] ⟨kr,by kernel_rfl,trivial⟩ (fun w1 hp => ?_)
     have hrf : readF l = rdP (rdRow l).1 [] [] := by unfold readF; rw [if_pos (by rw [magic_eq] at c1; simpa using c1),if_pos om]
     have hie : (rdRow l).1.drop i = [] := List.drop_eq_nil_of_le om
     rw [hie] at hr
     have hx : readF l = some ts := by rw [hrf,← hr]; rfl
     have hxt : rdT l = ts := by unfold rdT; rw [hx]; rfl
     have h9 : HP w [] [] ([(mb,Obj.map y.1 y.2)] ++ (Own.o 9 (ts.map Value.string) ow ++ (Own.o 62 ((rdRow l).1.flatMap enc) eo ++ []))) w1 := hp
     rw [hxt,hx,htl]
     exact ⟨ow,hok,rfl,_,h9.sub ((List.sublist_append_left _ _).trans (List.sublist_append_right _ _))⟩
end Go.Proofs.YtbeegepcdglcaaaGreatDoor
namespace Go.Proofs.YtbeegepcdglcaaaGreatDoor
open K
set_option linter.unusedVariables false
structure PkM where
 pb : Nat
 am : Nat
 x : MX2
 io : K.Own
 tw : K.Own
 dp : K.Own
def pkC (m : PkM) (n : Nat) : Array Value := #[.slice (Own.a m.io) n (Own.c m.io),.slice (Own.a m.tw) n (Own.c m.tw),.slice (Own.a m.dp) n (Own.c m.dp),.map (some m.am)]
def dps (es : List En) : List Value := es.map fun e => .int .i64 (e.p : Int)
def pkM : Option PkM → List En → List (Nat × Obj)
 | none,_ => []
 | some m,es => [(m.pb,.cells (pkC m es.length) 60 (0,0)),(m.am,.map m.x.1 m.x.2)] ++ (Own.o 36 ((ids es).flatMap dgc) m.io ++ (Own.o 9 ((txs es).map Value.string) m.tw ++ (Own.o 3 (dps es) m.dp ++ [])))
structure PkOk (m : PkM) (es : List En) : Prop where
 io : OwnOk m.io 32 es.length ((ids es).flatMap dgc)
 tw : OwnOk m.tw 1 es.length ((txs es).map Value.string)
 dp : OwnOk m.dp 1 es.length (dps es)
 at_ : ∃ W,DMapOk 32 m.x.1 m.x.2 W ∧ AtOk W (ids es)
def pkV : Option PkM → Value
 | none => .pointer none
 | some m => .pointer (some ⟨m.pb,0,none⟩)
def bodyOf (s : List UInt8) : List UInt8 := s.take (s.length - 32)
def openF (s : List UInt8) : Int × List En :=
 if s.length < 32 then (3,[]) else if s.drop (s.length - 32) ≠ shaD (bodyOf s) then (10,[]) else
  match readF (bodyOf s) with
  | none => (4,[])
  | some ts => if fileF (planF ts) = s then (0,planF ts) else (4,[])
theorem openF_short {s : List UInt8} (h : s.length < 32) : openF s = (3,[]) := if_pos h
theorem openF_sum {s : List UInt8} (h : ¬ s.length < 32) (h1 : s.drop (s.length - 32) ≠ shaD (bodyOf s)) : openF s = (10,[]) := by unfold openF; rw [if_neg h,if_pos h1]
theorem openF_read {s : List UInt8} (h : ¬ s.length < 32) (h1 : ¬ s.drop (s.length - 32) ≠ shaD (bodyOf s)) (h2 : readF (bodyOf s) = none) : openF s = (4,[]) := by unfold openF; rw [if_neg h,if_neg h1,h2]
theorem openF_lay {s : List UInt8} {ts : List ByteArray} (h : ¬ s.length < 32) (h1 : ¬ s.drop (s.length - 32) ≠ shaD (bodyOf s)) (h2 : readF (bodyOf s) = some ts) (h3 : ¬ fileF (planF ts) = s) : openF s = (4,[]) := by unfold openF; rw [if_neg h,if_neg h1,h2]; exact if_neg h3
theorem openF_ok {s : List UInt8} {ts : List ByteArray} (h : ¬ s.length < 32) (h1 : ¬ s.drop (s.length - 32) ≠ shaD (bodyOf s)) (h2 : readF (bodyOf s) = some ts) (h3 : fileF (planF ts) = s) : openF s = (0,planF ts) := by unfold openF; rw [if_neg h,if_neg h1,h2]; exact if_pos h3
theorem cut_body {s : List UInt8} {n : Nat} (h : n = s.length - 32) : (tx s).extract 0 n = tx (bodyOf s) := by rw [tx_take,h]; rfl
theorem cut_sum {s : List UInt8} (h : ¬ s.length < 32) : (tx s).extract (tx (bodyOf s)).size (tx s).size = tx (s.drop (s.length - 32)) := by
 rw [show (tx (bodyOf s)).size = s.length - 32 by rw [tx_size]; unfold bodyOf; rw [List.length_take]; omega]
 exact tx_drop s _
theorem tx_eq (a b : List UInt8) : ((tx a).toList == (tx b).toList) = decide (a = b) := by
 rw [baToList,baToList]
 by_cases h : a = b
 ·rw [decide_eq_true h,h]; exact beq_self_eq_true _
 ·rw [decide_eq_false h]; exact beq_eq_false_iff_ne.2 h
theorem txs_take {E : List En} {i : Nat} (h : i < E.length) : txs (E.take (i + 1)) = txs (E.take i) ++ [(E.getD i ez).t] := by
 unfold txs
 rw [List.take_succ_eq_append_getElem h,List.map_append,getD_of _ h]; rfl
theorem dps_take {E : List En} {i : Nat} (h : i < E.length) : dps (E.take (i + 1)) = dps (E.take i) ++ [.int .i64 ((E.getD i ez).p : Int)] := by
 unfold dps
 rw [List.take_succ_eq_append_getElem h,List.map_append,getD_of _ h]; rfl
theorem rdT_some {l : List UInt8} (h : (readF l).isSome = true) : readF l = some (rdT l) := by
 obtain ⟨ts,hts⟩ := Option.isSome_iff_exists.1 h
 unfold rdT
 rw [hts]; rfl
set_option maxRecDepth 100000 in
set_option maxHeartbeats 8000000 in
theorem pkOpen (s : List UInt8) {kt : Array Value} {tt0 : TypeId} {fr0 : Nat × Nat} (w : World) (hK : KT kt) (hR : Has w [(0,Obj.cells kt tt0 fr0)]) (hs : s.length ≤ 30000000) :
  Calls Tryz.prog 9 #[.string (tx s)] w fun e w' => ∃ (o : Option PkM),(∀ m,o = some m → PkOk m (openF s).2) ∧ (o = none ↔ (openF s).1 ≠ 0) ∧ e = .returned (.tuple #[pkV o,.int .i64 (openF s).1]) ∧ ∃ R1,HP w [] R1 (pkM o (openF s).2) w' := by
 have hts := tx_size s
 have htb := tx_size (bodyOf s)
 have hbl : (bodyOf s).length = s.length - 32 := by unfold bodyOf; rw [List.length_take]; omega
 refine enter (vs := [.string (tx s)]) [] [(0,Obj.cells kt tt0 fr0)] [] Tryz.func9 rfl kr (HP.ofHas hR) ?_
 refine Rg [0] [] n0 trivial ?_
 refine Rg [0,14] [] n0 trivial ?_
 refine Cfg.cond rfl (b := (decide (((tx s).size : Int) < (32 : Int)))) kr (fun c1r => ?_) (fun c1r => ?_)
 ·have c1 := (dT c1r)
  refine Rg [2,3] [] n0 trivial ?_
  refine Cfg.ret rfl (rs := [.tmp 2,.tmp 3]) rfl [.pointer none,.int .i64 3] ⟨kr,by kernel_rfl,trivial⟩ (fun w1 hp => ?_)
  have hx := openF_short (s := s) om
  rw [hx]
  exact ⟨none,(fun m h => (by cases h)),⟨fun _ => by show (3 : Int) ≠ 0; decide,fun _ => rfl⟩,rfl,_,hp.sub (List.nil_sublist _)⟩
 ·have c1 := (dF c1r)
  refine Rg [0,4] [] (fun _ => [(i6 (((tx s).size : Int) - 32)),(0 ≤ (((tx s).size : Int) - 32)),(0 ≤ ((((tx s).size : Int) - 32)).toNat ∧ ((((tx s).size : Int) - 32)).toNat ≤ (tx s).size)]) ⟨om,om,om,trivial⟩ ?_
  refine Cfg.setS 4 (congrArg Value.string (show ((tx s).extract 0 (((((tx s).size : Int) - 32)).toNat)) = (tx (bodyOf s)) from cut_body om)) ?_
  refine Cfg.begL rfl ?_
  refine Lp 1 [] none n0 trivial ?_
  refine Le (Eff.buildSlice (e := 9) (cells := #[.string (tx (bodyOf s))]) (parts := #[(0,.string (tx (bodyOf s)))]) rfl kr (fun _ => kr)) ?_
  rintro lb ⟨hlb,nlb⟩
  refine Le (Eff.callA (vs := [.slice (some ⟨lb,0,none⟩) 1 1]) (.agg (bv (sdg (tx (bodyOf s))))) rfl Tryz.func23 rfl rfl kr (fun w1 h => sum1 hK (tx (bodyOf s)) lb 1 w1 (h.ro (0,_) mH) (h.own (lb,_) (show _ ∈ ([(lb,Obj.cells #[.string (tx (bodyOf s))] 9 (0,0))] : LO) from mH)))) ?_
  rintro ⟨⟩ -
  refine Le (Eff.alloc (z := (.agg (bv (List.replicate 32 0)))) rfl kr) ?_
  rintro db ⟨hdb,ndb⟩
  refine Le (Eff.storeN (b := db) (off := 0) (vs := (bv (sdg (tx (bodyOf s))))) (n := 32) rfl kr kr kr ((bv_size _).trans (sdg_len (tx (bodyOf s)))) (all_bv _) 0 (cs := (bv (List.replicate 32 0))) (e := 36) kr (by rw [zdg_size]; omega)) ?_
  rintro ⟨⟩ -
  refine CfgL.setO (congrArg (fun (xq : Array Value) => ([(db,.cells xq 36 (0,0)),(lb,.cells #[.string (tx (bodyOf s))] 9 (0,0))] : LO)) (show _ = (bv (sdg (tx (bodyOf s)))) from spl_all (((bv_size _).trans (sdg_len (tx (bodyOf s)))).trans zdg_size.symm))) ?_
  refine CfgL.done rfl ?_
  refine Cg (Γ' := [(5,[],pT db),(4,[],.string (tx (bodyOf s))),(0,[],.string (tx s))]) ?_
  have hcs : (tx s).extract (tx (bodyOf s)).size (tx s).size = tx (s.drop (s.length - 32)) := cut_sum om
  refine Cfg.regD rfl kr [0,4,29] [dZ,dZ,dZ,dZ,dZ,(dS (.string (tx (sdg (tx (bodyOf s))))))] (Γ' := [(29,[],.bool (!(((tx s).extract (((tx (bodyOf s)).size)) ((tx s).size)).toList == (tx (sdg (tx (bodyOf s)))).toList))),(4,[],.string (tx (bodyOf s))),(0,[],.string (tx s))]) (nd := (fun S => [(0 ≤ ((tx (bodyOf s)).size : Int)),(((tx (bodyOf s)).size) ≤ (tx s).size ∧ (tx s).size ≤ (tx s).size),(32 ≤ 32),(∀ w1,S w1 → (Conv.bytesToString (.slice (some ⟨db,0,none⟩) 32 32)).run Tryz.prog w1 = .ok (.string (tx (sdg (tx (bodyOf s))))) w1)])) kr kr (fun _ => kr) ⟨om,om,om,(fun w1 h => h.ostr (c := 32) 0 rfl (sdg_len _)),trivial⟩ ?_
  refine Cfg.cond rfl (b := (!(((tx s).extract (((tx (bodyOf s)).size)) ((tx s).size)).toList == (tx (sdg (tx (bodyOf s)))).toList))) kr (fun c2r => ?_) (fun c2r => ?_)
  ·have c2 : ((((tx s).extract (((tx (bodyOf s)).size)) ((tx s).size)).toList == (tx (sdg (tx (bodyOf s)))).toList) = false) := (notT c2r)
   rw [hcs,tx_eq] at c2
   have hsum0 : ¬ s.drop (s.length - 32) = sdg (tx (bodyOf s)) := by simpa using c2
   have hsum : ¬ s.drop (s.length - 32) = shaD (bodyOf s) := hsum0
   refine Rg [2,3] [] n0 trivial ?_
   refine Cfg.ret rfl (rs := [.tmp 2,.tmp 3]) rfl [.pointer none,.int .i64 10] ⟨kr,by kernel_rfl,trivial⟩ (fun w1 hp => ?_)
   have hx := openF_sum (s := s) om hsum
   rw [hx]
   exact ⟨none,(fun m h => (by cases h)),⟨fun _ => by show (10 : Int) ≠ 0; decide,fun _ => rfl⟩,rfl,_,hp.sub (List.nil_sublist _)⟩
  ·have c2 : ((((tx s).extract (((tx (bodyOf s)).size)) ((tx s).size)).toList == (tx (sdg (tx (bodyOf s)))).toList) = true) := (notF c2r)
   rw [hcs,tx_eq] at c2
   have hsum0 : s.drop (s.length - 32) = sdg (tx (bodyOf s)) := by simpa using c2
   have hsum : s.drop (s.length - 32) = shaD (bodyOf s) := hsum0
   refine Cfg.begL rfl ?_
   refine Lp 1 [] (some [0,31]) n0 trivial ?_
   refine Le (Eff.callH (vs := [.string (tx (bodyOf s))]) (fun rw : K.Own => .tuple #[.slice (Own.a rw) (rdT (bodyOf s)).length (Own.c rw),.bool (readF (bodyOf s)).isSome]) [] (fun rw => Own.o 9 ((rdT (bodyOf s)).map Value.string) rw) (fun rw => OwnOk rw 1 (rdT (bodyOf s)).length ((rdT (bodyOf s)).map Value.string)) [(db,.cells (bv (sdg (tx (bodyOf s)))) 36 (0,0)),(lb,.cells #[.string (tx (bodyOf s))] 9 (0,0))] [] rfl rfl Tryz.func24 rfl rfl kr (fun w1 h _ _ => (pkRead (bodyOf s) w1 om).mono fun _ _ ⟨ow,a1,a2,a3⟩ => ⟨ow,a1,a2,a3⟩)) ?_
   rintro rw krw
   have krw : OwnOk rw 1 (rdT (bodyOf s)).length ((rdT (bodyOf s)).map Value.string) := krw
   have hrt := rdT_ok (l := bodyOf s) om
   refine Lp 5 [] (some [0,6,7]) n0 trivial ?_
   refine CfgL.done rfl ?_
   refine Rg [0,6,36] [] n0 trivial ?_
   refine Cfg.cond rfl (b := (!(readF (bodyOf s)).isSome)) kr (fun c3r => ?_) (fun c3r => ?_)
   ·have c3 : ((readF (bodyOf s)).isSome = false) := (notT c3r)
    refine Rg [2,3] [] n0 trivial ?_
    refine Cfg.ret rfl (rs := [.tmp 2,.tmp 3]) rfl [.pointer none,.int .i64 4] ⟨kr,by kernel_rfl,trivial⟩ (fun w1 hp => ?_)
    have hx := openF_read (s := s) om (fun h => h hsum) (by simpa using c3)
    rw [hx]
    exact ⟨none,(fun m h => (by cases h)),⟨fun _ => by show (4 : Int) ≠ 0; decide,fun _ => rfl⟩,rfl,_,hp.sub (List.nil_sublist _)⟩
   ·have c3 : ((readF (bodyOf s)).isSome = true) := (notF c3r)
    have hsm := rdT_some (by simpa using c3)
    refine Cfg.begL rfl ?_
    refine Lp 1 [] (some [0,37]) n0 trivial ?_
    refine Le (Eff.callH (vs := [.slice (Own.a rw) ((rdT (bodyOf s)).length) (Own.c rw)]) (fun ow : K.Own => .slice (Own.a ow) (planF (rdT (bodyOf s))).length (Own.c ow)) [] (fun ow => Own.o 62 ((planF (rdT (bodyOf s))).flatMap enc) ow) (fun ow => OwnOk ow 67 (planF (rdT (bodyOf s))).length ((planF (rdT (bodyOf s))).flatMap enc)) [(db,.cells (bv (sdg (tx (bodyOf s)))) 36 (0,0)),(lb,.cells #[.string (tx (bodyOf s))] 9 (0,0))] ((Own.o 9 ((rdT (bodyOf s)).map Value.string) rw ++ [])) rfl rfl Tryz.func18 rfl rfl kr (fun w1 h _ _ => (pkPlan (Own.a rw) (Own.c rw) (rdT (bodyOf s)) ([(db,Obj.cells (bv (sdg (tx (bodyOf s)))) 36 (0,0)),(lb,Obj.cells #[.string (tx (bodyOf s))] 9 (0,0))] ++ (Own.o 9 ((rdT (bodyOf s)).map Value.string) rw ++ [])) w1 hK ((own_ins krw (fun j hj => by simp [List.getElem?_eq_getElem hj])).mono (fun e he => (show _ ∈ (([(db,Obj.cells (bv (sdg (tx (bodyOf s)))) 36 (0,0)),(lb,Obj.cells #[.string (tx (bodyOf s))] 9 (0,0))] ++ (Own.o 9 ((rdT (bodyOf s)).map Value.string) rw ++ [])) : LO) from (mR (mL he))))) (has_cons (h.ro _ mH) (fun e he => h.own e he)) hrt.2 (fun t ht => Nat.le_trans (hrt.1 t ht) (by decide))).mono fun _ _ ⟨ow,a1,a2,a3⟩ => ⟨ow,a1,a2,a3⟩)) ?_
    rintro ow kow
    have kow : OwnOk ow 67 (planF (rdT (bodyOf s))).length ((planF (rdT (bodyOf s))).flatMap enc) := kow
    have hek : ∀ e ∈ planF (rdT (bodyOf s)),EnOk e := planF_ok hrt.1
    have hel : ∀ e ∈ planF (rdT (bodyOf s)),EnL e := fun e he => (hek e he).l
    have hen : (planF (rdT (bodyOf s))).length ≤ 1000000 := Nat.le_trans (planF_len _) hrt.2
    refine Lp 1 [] (some [0,8]) n0 trivial ?_
    refine CfgL.done rfl ?_
    obtain ⟨es,hes⟩ : ∃ q,q = planF (rdT (bodyOf s)) := ⟨_,rfl⟩
    rw [← hes] at kow hek hel hen
    refine Cfg.setS 8 (congrArg (fun (xq : Nat) => (.slice (Own.a ow) xq (Own.c ow) : Value)) (show ((planF (rdT (bodyOf s))).length) = es.length from by rw [hes])) ?_
    refine Cfg.setO (congrArg (fun (xq : List Value) => (([(db,.cells (bv (sdg (tx (bodyOf s)))) 36 (0,0)),(lb,.cells #[.string (tx (bodyOf s))] 9 (0,0))] ++ (Own.o 62 xq ow ++ (Own.o 9 ((rdT (bodyOf s)).map Value.string) rw ++ []))) : LO)) (show _ = (es.flatMap enc) from by rw [hes])) ?_
    refine Cfg.begL rfl ?_
    refine Lp 1 [] none n0 trivial ?_
    refine Le (Eff.callA (vs := [.slice (Own.a ow) es.length (Own.c ow)]) (.string (tx (fileF es))) rfl Tryz.func17 rfl rfl kr (fun w1 h => pkLay (Own.a ow) (Own.c ow) es ([(db,Obj.cells (bv (sdg (tx (bodyOf s)))) 36 (0,0)),(lb,Obj.cells #[.string (tx (bodyOf s))] 9 (0,0))] ++ (Own.o 62 (es.flatMap enc) ow ++ (Own.o 9 ((rdT (bodyOf s)).map Value.string) rw ++ []))) w1 hK ((own_inf kow).mono (fun e he => (show _ ∈ (([(db,Obj.cells (bv (sdg (tx (bodyOf s)))) 36 (0,0)),(lb,Obj.cells #[.string (tx (bodyOf s))] 9 (0,0))] ++ (Own.o 62 (es.flatMap enc) ow ++ (Own.o 9 ((rdT (bodyOf s)).map Value.string) rw ++ []))) : LO) from (mR (mL he))))) hek (has_cons (h.ro _ mH) (fun e he => h.own e he)) hen)) ?_
    rintro ⟨⟩ -
    refine Lp 2 [] (some [8,42]) n0 trivial ?_
    refine CfgL.done rfl ?_
    refine Cfg.cond rfl (b := (!((tx (fileF es)).toList == (tx s).toList))) kr (fun c4r => ?_) (fun c4r => ?_)
    ·have c4 : (((tx (fileF es)).toList == (tx s).toList) = false) := (notT c4r)
     rw [tx_eq] at c4
     have hlay : ¬ fileF es = s := by simpa using c4
     refine Rg [2,3] [] n0 trivial ?_
     refine Cfg.ret rfl (rs := [.tmp 2,.tmp 3]) rfl [.pointer none,.int .i64 4] ⟨kr,by kernel_rfl,trivial⟩ (fun w1 hp => ?_)
     have hx := openF_lay (s := s) om (fun h => h hsum) hsm (by rw [← hes]; exact hlay)
     rw [hx]
     exact ⟨none,(fun m h => (by cases h)),⟨fun _ => by show (4 : Int) ≠ 0; decide,fun _ => rfl⟩,rfl,_,hp.sub (List.nil_sublist _)⟩
    ·have c4 : (((tx (fileF es)).toList == (tx s).toList) = true) := (notF c4r)
     rw [tx_eq] at c4
     have hlay : fileF es = s := by simpa using c4
     refine Cfg.begL rfl ?_
     refine Le (Eff.mapNew rfl) ?_
     rintro am ⟨ham,nam⟩
     refine Lp 1 [(dS (.agg #[.slice none 0 0,.slice none 0 0,.slice none 0 0,.map (some am)]))] (some [8,44]) (fun S => [(∀ w1,S w1 → (Instr.build 60 #[(3,.map (some am))]).run Tryz.prog w1 = .ok (.agg #[.slice none 0 0,.slice none 0 0,.slice none 0 0,.map (some am)]) w1)]) ⟨(fun w1 _ => kr),trivial⟩ ?_
     refine Le (Eff.box (v := .agg #[.slice none 0 0,.slice none 0 0,.slice none 0 0,.map (some am)]) rfl kr) ?_
     rintro pb ⟨hpb,npb⟩
     refine Lp 1 [] (some [8,9]) n0 trivial ?_
     refine CfgL.done rfl ?_
     refine Rg [9,46,47,48] [] n0 trivial ?_
     refine Cfg.loop rfl (ι := Nat × List (List UInt8 × Value) × MX2 × K.Own × K.Own × K.Own) (fun (xz : Nat × List (List UInt8 × Value) × MX2 × K.Own × K.Own × K.Own) => match xz with | (i,W,y,io,tw,dp) => [(48,[],.int .i64 (i : Int)),(47,[],.int .i64 (es.length : Int)),(46,[],.slice (Own.a ow) es.length (Own.c ow)),(9,[],pT pb)]) (fun (xz : Nat × List (List UInt8 × Value) × MX2 × K.Own × K.Own × K.Own) => match xz with | (i,W,y,io,tw,dp) => ([(pb,.cells #[.slice (Own.a io) i (Own.c io),.slice (Own.a tw) i (Own.c tw),.slice (Own.a dp) i (Own.c dp),.map (some am)] 60 (0,0)),(am,.map y.1 y.2)] ++ (Own.o 36 ((ids (es.take i)).flatMap dgc) io ++ (Own.o 9 ((txs (es.take i)).map Value.string) tw ++ (Own.o 3 (dps (es.take i)) dp ++ (Own.o 62 (es.flatMap enc) ow ++ (Own.o 9 ((rdT (bodyOf s)).map Value.string) rw ++ []))))))) (fun (xz : Nat × List (List UInt8 × Value) × MX2 × K.Own × K.Own × K.Own) => match xz with | (i,W,y,io,tw,dp) => (i ≤ es.length) ∧ (OwnOk io 32 i ((ids (es.take i)).flatMap dgc)) ∧ (OwnOk tw 1 i ((txs (es.take i)).map Value.string)) ∧ (OwnOk dp 1 i (dps (es.take i))) ∧ (DMapOk 32 y.1 y.2 W) ∧ (AtOk W (ids (es.take i)))) (fun (xz : Nat × List (List UInt8 × Value) × MX2 × K.Own × K.Own × K.Own) => match xz with | (i,W,y,io,tw,dp) => es.length - i) (0,[],(#[],0),none,none,none) ?_ (Conv.mk kr) (.cons_cons _ (.cons_cons _ (.cons _ (.cons _ slr)))) ?_
     ·exact ⟨Nat.zero_le _,OwnOk.none 32,OwnOk.none 1,OwnOk.none 1,DMapOk.empty 32 0,AtOk.nil⟩
     ·rintro ⟨i,W,y,io,tw,dp⟩ ⟨hi,hio,htw,hdp,hm,hW⟩
      refine Rg [9,46,47,48,49] [] n0 trivial ?_
      refine Cfg.cond rfl (b := (decide ((i : Int) < (es.length : Int)))) kr (fun c5r => ?_) (fun c5r => ?_)
      ·have c5 := (dT c5r)
       obtain ⟨b2,bcs,hba,hbm,hbc⟩ := own_at (e := 62) kow om
       obtain ⟨x,hx⟩ : ∃ x,x = es.getD i ez := ⟨_,rfl⟩
       have hxl : EnL x := by rw [hx]; exact hel _ (K.getD_mem om)
       refine Cfg.setS 46 (congrArg (fun (xq : Value) => (xq : Value)) (show .slice (Own.a ow) es.length (Own.c ow) = .slice (some ⟨b2,0,none⟩) es.length (Own.c ow) from by rw [hba])) ?_
       refine Cfg.begL rfl ?_
       refine Lp 3 [dZ,dZ,(dS (.agg (enc x).toArray))] (some [9,46,47,48,50,52]) (fun S => [(0 ≤ (i : Int) ∧ (i : Int) < (es.length : Int)),(∀ w1,S w1 → (loadVar 62 ⟨b2,(i * 67),none⟩).run Tryz.prog w1 = .ok (.agg (enc x).toArray) w1)]) ⟨om,(fun w1 h => load_list (vs := enc x) Tryz.underlying62 rfl kr (enc_len hxl) (fun q9 v hq9 => by exact (cell_cells (h.own _ (show _ ∈ (([(pb,Obj.cells #[.slice (Own.a io) i (Own.c io),.slice (Own.a tw) i (Own.c tw),.slice (Own.a dp) i (Own.c dp),.map (some am)] 60 (0,0)),(am,Obj.map y.1 y.2)] ++ (Own.o 36 ((ids (es.take i)).flatMap dgc) io ++ (Own.o 9 ((txs (es.take i)).map Value.string) tw ++ (Own.o 3 (dps (es.take i)) dp ++ (Own.o 62 (es.flatMap enc) ow ++ (Own.o 9 ((rdT (bodyOf s)).map Value.string) rw ++ [])))))) : LO) from (mR (mR (mR (mR (mL hbm)))))))).trans (en_cell hel hbc (i := i) om (by rw [← hx]; exact hq9)))),trivial⟩ ?_
       refine Le (Eff.alloc (z := (.agg (enc ez).toArray)) rfl kr) ?_
       rintro eb ⟨heb,neb⟩
       refine Lp 1 [] (some [9,10,11,46,47,48,52]) n0 trivial ?_
       refine Le (Eff.storeN (b := eb) (off := 0) (vs := (enc x).toArray) (n := 67) rfl kr kr kr (by rw [List.size_toArray,enc_len hxl]) (fun q hq => all_enc _ q hq) 0 (cs := (enc ez).toArray) (e := 62) kr (by rw [zero_en]; decide)) ?_
       rintro ⟨⟩ -
       refine CfgL.setO (congrArg (fun (xq : Array Value) => (([(eb,.cells xq 62 (0,0)),(pb,.cells #[.slice (Own.a io) i (Own.c io),.slice (Own.a tw) i (Own.c tw),.slice (Own.a dp) i (Own.c dp),.map (some am)] 60 (0,0)),(am,.map y.1 y.2)] ++ (Own.o 36 ((ids (es.take i)).flatMap dgc) io ++ (Own.o 9 ((txs (es.take i)).map Value.string) tw ++ (Own.o 3 (dps (es.take i)) dp ++ (Own.o 62 (es.flatMap enc) ow ++ (Own.o 9 ((rdT (bodyOf s)).map Value.string) rw ++ [])))))) : LO)) (show _ = ((enc x).toArray) from spl_all (by rw [List.size_toArray,zero_en,enc_len hxl]))) ?_
       refine CfgL.done rfl ?_
       refine Cg (Γ' := [(10,[],.int .i64 (i : Int)),(11,[],pT eb),(48,[],.int .i64 (i : Int)),(47,[],.int .i64 (es.length : Int)),(46,[],.slice (some ⟨b2,0,none⟩) es.length (Own.c ow)),(9,[],pT pb)]) ?_
       refine Cfg.begA rfl kr ([(eb,.cells ((enc x).toArray) 62 (0,0)),(am,.map y.1 y.2)] ++ (Own.o 62 (es.flatMap enc) ow ++ (Own.o 9 ((rdT (bodyOf s)).map Value.string) rw ++ []))) ?_
       refine Ap [0,1,2,3,5,6] [dZ,dZ,dZ,dZ,dZ,(dS (.agg (bv x.id)))] (some [9,10,11,46,47,48,53,56,59]) (bF 111 12) (.cons_cons _ (.cons _ (.cons_cons _ (show List.Sublist (Own.o 62 (es.flatMap enc) ow ++ (Own.o 9 ((rdT (bodyOf s)).map Value.string) rw ++ [])) (Own.o 36 ((ids (es.take i)).flatMap dgc) io ++ (Own.o 9 ((txs (es.take i)).map Value.string) tw ++ (Own.o 3 (dps (es.take i)) dp ++ (Own.o 62 (es.flatMap enc) ow ++ (Own.o 9 ((rdT (bodyOf s)).map Value.string) rw ++ []))))) from (List.Sublist.trans (List.Sublist.trans (List.Sublist.trans (List.Sublist.append (List.Sublist.refl (Own.o 62 (es.flatMap enc) ow)) (List.Sublist.append (List.Sublist.refl (Own.o 9 ((rdT (bodyOf s)).map Value.string) rw)) (List.nil_sublist _))) (List.sublist_append_right (Own.o 3 (dps (es.take i)) dp) _)) (List.sublist_append_right (Own.o 9 ((txs (es.take i)).map Value.string) tw) _)) (List.sublist_append_right (Own.o 36 ((ids (es.take i)).flatMap dgc) io) _)))))) 6 (fun S => [(∀ w1,S w1 → (loadVar 36 ⟨eb,0,none⟩).run Tryz.prog w1 = .ok (.agg (bv x.id)) w1)]) ⟨(fun w1 h => load_list (vs := dgc x.id) Tryz.underlying36 rfl kr (dgc_len hxl.id) (fun q9 v hq9 => h.ocell 0 rfl (by rw [List.getElem?_toArray]; exact enc_id hq9))),trivial⟩ ?_
       refine CfgA.fam (ι := Option (Unit) × Option (Nat)) (fun (zq : Option (Unit) × Option (Nat)) => match zq with | (oo4,oo7) => (optL oo4 (fun (_ : Unit) => [(57,[],.slice (Own.a io) i (Own.c io))]) ++ (optL oo7 (fun (ib : Nat) => [(60,[],.slice (some ⟨ib,0,none⟩) 1 1)]) ++ [(59,[],.agg (bv x.id)),(56,[],pT pb),(53,[],pT pb),(10,[],.int .i64 (i : Int)),(11,[],pT eb),(48,[],.int .i64 (i : Int)),(47,[],.int .i64 (es.length : Int)),(46,[],.slice (some ⟨b2,0,none⟩) es.length (Own.c ow)),(9,[],pT pb)]))) (fun (zq : Option (Unit) × Option (Nat)) => match zq with | (oo4,oo7) => (optL oo7 (fun (ib : Nat) => [(ib,.cells (bv x.id) 36 (0,0))]) ++ ([(eb,.cells ((enc x).toArray) 62 (0,0)),(pb,.cells #[.slice (Own.a io) i (Own.c io),.slice (Own.a tw) i (Own.c tw),.slice (Own.a dp) i (Own.c dp),.map (some am)] 60 (0,0)),(am,.map y.1 y.2)] ++ ([] ++ (Own.o 36 ((ids (es.take i)).flatMap dgc) io ++ (Own.o 9 ((txs (es.take i)).map Value.string) tw ++ (Own.o 3 (dps (es.take i)) dp ++ (Own.o 62 (es.flatMap enc) ow ++ (Own.o 9 ((rdT (bodyOf s)).map Value.string) rw ++ []))))))))) (fun (zq : Option (Unit) × Option (Nat)) => match zq with | (oo4,oo7) => #[true,true,true,true,oo4.isSome,true,true,oo7.isSome,false,false,false,false]) (fun (zq : Option (Unit) × Option (Nat)) => match zq with | (oo4,oo7) => 6 - (optN oo4 + optN oo7)) (fun (zq : Option (Unit) × Option (Nat)) => match zq with | (oo4,oo7) => True) (none,none) trivial kr kr (List.Perm.refl _) (Conv.mk kr) ?_
       rintro ⟨oo4,oo7⟩ hz IH
       rcases oo4 with _ | ⟨⟩
       ·
        rcases oo7 with _ | ib
        ·
         refine CfgA.to (l' := (bF 111 12)) (fuel' := 6) (O' := ([(eb,.cells ((enc x).toArray) 62 (0,0)),(pb,.cells #[.slice (Own.a io) i (Own.c io),.slice (Own.a tw) i (Own.c tw),.slice (Own.a dp) i (Own.c dp),.map (some am)] 60 (0,0)),(am,.map y.1 y.2)] ++ (Own.o 36 ((ids (es.take i)).flatMap dgc) io ++ (Own.o 9 ((txs (es.take i)).map Value.string) tw ++ (Own.o 3 (dps (es.take i)) dp ++ (Own.o 62 (es.flatMap enc) ow ++ (Own.o 9 ((rdT (bodyOf s)).map Value.string) rw ++ []))))))) (Γ' := [(59,[],.agg (bv x.id)),(56,[],pT pb),(53,[],pT pb),(10,[],.int .i64 (i : Int)),(11,[],pT eb),(48,[],.int .i64 (i : Int)),(47,[],.int .i64 (es.length : Int)),(46,[],.slice (some ⟨b2,0,none⟩) es.length (Own.c ow)),(9,[],pT pb)]) ?_ kr kr (List.Perm.refl _) (Conv.mk kr)
         refine CfgA.many [4,7] kr (by decide) (fuel' := 5) kr ⟨?_,?_,trivial⟩
         ·
          refine Ie rfl  (Eff.quiet (raw := false) (orc := some (.slice (Own.a io) i (Own.c io))) (v := .slice (Own.a io) i (Own.c io)) (nd := (fun S => [(cE S pb 0 (.slice (Own.a io) i (Own.c io)))])) (fun _ => kr) ⟨(oC 1 rfl rfl),trivial⟩ kr) (by rintro ⟨⟩ -; exact (.cons_cons _ (.cons _ (.cons_cons _ (show List.Sublist (Own.o 62 (es.flatMap enc) ow ++ (Own.o 9 ((rdT (bodyOf s)).map Value.string) rw ++ [])) (Own.o 36 ((ids (es.take i)).flatMap dgc) io ++ (Own.o 9 ((txs (es.take i)).map Value.string) tw ++ (Own.o 3 (dps (es.take i)) dp ++ (Own.o 62 (es.flatMap enc) ow ++ (Own.o 9 ((rdT (bodyOf s)).map Value.string) rw ++ []))))) from (List.Sublist.trans (List.Sublist.trans (List.Sublist.trans (List.Sublist.append (List.Sublist.refl (Own.o 62 (es.flatMap enc) ow)) (List.Sublist.append (List.Sublist.refl (Own.o 9 ((rdT (bodyOf s)).map Value.string) rw)) (List.nil_sublist _))) (List.sublist_append_right (Own.o 3 (dps (es.take i)) dp) _)) (List.sublist_append_right (Own.o 9 ((txs (es.take i)).map Value.string) tw) _)) (List.sublist_append_right (Own.o 36 ((ids (es.take i)).flatMap dgc) io) _))))))) ?_
          rintro ⟨⟩ -
          exact CfgA.to (IH (some (),none) trivial (lt4 kr)) kr kr (.refl _) (Conv.mk kr)
         ·
          refine Ie rfl  (Eff.buildAgg (vs := (bv x.id)) (n := 32) rfl kr Tryz.underlying57 kr (z := (.agg (bv (List.replicate 32 0)))) kr ((bv_size _).trans hxl.id) (by decide) (by decide)) (by rintro ib ⟨hib,nib⟩; exact (.cons _ (.cons_cons _ (.cons _ (.cons_cons _ (show List.Sublist (Own.o 62 (es.flatMap enc) ow ++ (Own.o 9 ((rdT (bodyOf s)).map Value.string) rw ++ [])) (Own.o 36 ((ids (es.take i)).flatMap dgc) io ++ (Own.o 9 ((txs (es.take i)).map Value.string) tw ++ (Own.o 3 (dps (es.take i)) dp ++ (Own.o 62 (es.flatMap enc) ow ++ (Own.o 9 ((rdT (bodyOf s)).map Value.string) rw ++ []))))) from (List.Sublist.trans (List.Sublist.trans (List.Sublist.trans (List.Sublist.append (List.Sublist.refl (Own.o 62 (es.flatMap enc) ow)) (List.Sublist.append (List.Sublist.refl (Own.o 9 ((rdT (bodyOf s)).map Value.string) rw)) (List.nil_sublist _))) (List.sublist_append_right (Own.o 3 (dps (es.take i)) dp) _)) (List.sublist_append_right (Own.o 9 ((txs (es.take i)).map Value.string) tw) _)) (List.sublist_append_right (Own.o 36 ((ids (es.take i)).flatMap dgc) io) _)))))))) ?_
          rintro ib ⟨hib,nib⟩
          exact CfgA.to (IH (none,some ib) trivial (lt4 kr)) kr kr (.refl _) (Conv.mk kr)
        ·
         refine CfgA.to (l' := (bF 239 12)) (fuel' := 5) (O' := ([(ib,.cells (bv x.id) 36 (0,0)),(eb,.cells ((enc x).toArray) 62 (0,0)),(pb,.cells #[.slice (Own.a io) i (Own.c io),.slice (Own.a tw) i (Own.c tw),.slice (Own.a dp) i (Own.c dp),.map (some am)] 60 (0,0)),(am,.map y.1 y.2)] ++ (Own.o 36 ((ids (es.take i)).flatMap dgc) io ++ (Own.o 9 ((txs (es.take i)).map Value.string) tw ++ (Own.o 3 (dps (es.take i)) dp ++ (Own.o 62 (es.flatMap enc) ow ++ (Own.o 9 ((rdT (bodyOf s)).map Value.string) rw ++ []))))))) (Γ' := [(60,[],.slice (some ⟨ib,0,none⟩) 1 1),(59,[],.agg (bv x.id)),(56,[],pT pb),(53,[],pT pb),(10,[],.int .i64 (i : Int)),(11,[],pT eb),(48,[],.int .i64 (i : Int)),(47,[],.int .i64 (es.length : Int)),(46,[],.slice (some ⟨b2,0,none⟩) es.length (Own.c ow)),(9,[],pT pb)]) ?_ kr kr (List.Perm.refl _) (Conv.mk kr)
         refine CfgA.many [4] kr (by decide) (fuel' := 4) kr ⟨?_,trivial⟩
         ·
          refine Ie rfl  (Eff.quiet (raw := false) (orc := some (.slice (Own.a io) i (Own.c io))) (v := .slice (Own.a io) i (Own.c io)) (nd := (fun S => [(cE S pb 0 (.slice (Own.a io) i (Own.c io)))])) (fun _ => kr) ⟨(oC 2 rfl rfl),trivial⟩ kr) (by rintro ⟨⟩ -; exact (.cons _ (.cons_cons _ (.cons _ (.cons_cons _ (show List.Sublist (Own.o 62 (es.flatMap enc) ow ++ (Own.o 9 ((rdT (bodyOf s)).map Value.string) rw ++ [])) (Own.o 36 ((ids (es.take i)).flatMap dgc) io ++ (Own.o 9 ((txs (es.take i)).map Value.string) tw ++ (Own.o 3 (dps (es.take i)) dp ++ (Own.o 62 (es.flatMap enc) ow ++ (Own.o 9 ((rdT (bodyOf s)).map Value.string) rw ++ []))))) from (List.Sublist.trans (List.Sublist.trans (List.Sublist.trans (List.Sublist.append (List.Sublist.refl (Own.o 62 (es.flatMap enc) ow)) (List.Sublist.append (List.Sublist.refl (Own.o 9 ((rdT (bodyOf s)).map Value.string) rw)) (List.nil_sublist _))) (List.sublist_append_right (Own.o 3 (dps (es.take i)) dp) _)) (List.sublist_append_right (Own.o 9 ((txs (es.take i)).map Value.string) tw) _)) (List.sublist_append_right (Own.o 36 ((ids (es.take i)).flatMap dgc) io) _)))))))) ?_
          rintro ⟨⟩ -
          exact CfgA.to (IH (some (),some ib) trivial (lt4 kr)) kr kr (.refl _) (Conv.mk kr)
       ·
        rcases oo7 with _ | ib
        ·
         refine CfgA.to (l' := tF 7 5) (fuel' := 5) (O' := ([(eb,.cells ((enc x).toArray) 62 (0,0)),(pb,.cells #[.slice (Own.a io) i (Own.c io),.slice (Own.a tw) i (Own.c tw),.slice (Own.a dp) i (Own.c dp),.map (some am)] 60 (0,0)),(am,.map y.1 y.2)] ++ (Own.o 36 ((ids (es.take i)).flatMap dgc) io ++ (Own.o 9 ((txs (es.take i)).map Value.string) tw ++ (Own.o 3 (dps (es.take i)) dp ++ (Own.o 62 (es.flatMap enc) ow ++ (Own.o 9 ((rdT (bodyOf s)).map Value.string) rw ++ []))))))) (Γ' := [(57,[],.slice (Own.a io) i (Own.c io)),(59,[],.agg (bv x.id)),(56,[],pT pb),(53,[],pT pb),(10,[],.int .i64 (i : Int)),(11,[],pT eb),(48,[],.int .i64 (i : Int)),(47,[],.int .i64 (es.length : Int)),(46,[],.slice (some ⟨b2,0,none⟩) es.length (Own.c ow)),(9,[],pT pb)]) ?_ kr kr (List.Perm.refl _) (Conv.mk kr)
         refine CfgA.many [7] kr (by decide) (fuel' := 4) kr ⟨?_,trivial⟩
         ·
          refine Ie rfl  (Eff.buildAgg (vs := (bv x.id)) (n := 32) rfl kr Tryz.underlying57 kr (z := (.agg (bv (List.replicate 32 0)))) kr ((bv_size _).trans hxl.id) (by decide) (by decide)) (by rintro ib ⟨hib,nib⟩; exact (.cons _ (.cons_cons _ (.cons _ (.cons_cons _ (show List.Sublist (Own.o 62 (es.flatMap enc) ow ++ (Own.o 9 ((rdT (bodyOf s)).map Value.string) rw ++ [])) (Own.o 36 ((ids (es.take i)).flatMap dgc) io ++ (Own.o 9 ((txs (es.take i)).map Value.string) tw ++ (Own.o 3 (dps (es.take i)) dp ++ (Own.o 62 (es.flatMap enc) ow ++ (Own.o 9 ((rdT (bodyOf s)).map Value.string) rw ++ []))))) from (List.Sublist.trans (List.Sublist.trans (List.Sublist.trans (List.Sublist.append (List.Sublist.refl (Own.o 62 (es.flatMap enc) ow)) (List.Sublist.append (List.Sublist.refl (Own.o 9 ((rdT (bodyOf s)).map Value.string) rw)) (List.nil_sublist _))) (List.sublist_append_right (Own.o 3 (dps (es.take i)) dp) _)) (List.sublist_append_right (Own.o 9 ((txs (es.take i)).map Value.string) tw) _)) (List.sublist_append_right (Own.o 36 ((ids (es.take i)).flatMap dgc) io) _)))))))) ?_
          rintro ib ⟨hib,nib⟩
          exact CfgA.to (IH (some (),some ib) trivial (lt4 kr)) kr kr (.refl _) (Conv.mk kr)
        ·
         refine CfgA.to (l' := tF 8 4) (fuel' := 4) (O' := ([(ib,.cells (bv x.id) 36 (0,0)),(eb,.cells ((enc x).toArray) 62 (0,0)),(pb,.cells #[.slice (Own.a io) i (Own.c io),.slice (Own.a tw) i (Own.c tw),.slice (Own.a dp) i (Own.c dp),.map (some am)] 60 (0,0)),(am,.map y.1 y.2)] ++ (Own.o 36 ((ids (es.take i)).flatMap dgc) io ++ (Own.o 9 ((txs (es.take i)).map Value.string) tw ++ (Own.o 3 (dps (es.take i)) dp ++ (Own.o 62 (es.flatMap enc) ow ++ (Own.o 9 ((rdT (bodyOf s)).map Value.string) rw ++ []))))))) (Γ' := [(57,[],.slice (Own.a io) i (Own.c io)),(60,[],.slice (some ⟨ib,0,none⟩) 1 1),(59,[],.agg (bv x.id)),(56,[],pT pb),(53,[],pT pb),(10,[],.int .i64 (i : Int)),(11,[],pT eb),(48,[],.int .i64 (i : Int)),(47,[],.int .i64 (es.length : Int)),(46,[],.slice (some ⟨b2,0,none⟩) es.length (Own.c ow)),(9,[],pT pb)]) ?_ kr kr (List.Perm.refl _) (Conv.mk kr)
         refine Ae 8 rfl 3  (Eff.appendF rfl 32 32 Tryz.underlying57 kr (z := (.agg (bv (List.replicate 32 0)))) kr kr io (xs := ((ids (es.take i)).flatMap dgc)) hio kr (b2 := ib) (off2 := 0) (m := 1) (c2 := 1) kr (dgc x.id) (dgc_len hxl.id) (all_dgc _) [(ib,.cells (bv x.id) 36 (0,0)),(eb,.cells ((enc x).toArray) 62 (0,0)),(pb,.cells #[.slice (Own.a io) i (Own.c io),.slice (Own.a tw) i (Own.c tw),.slice (Own.a dp) i (Own.c dp),.map (some am)] 60 (0,0)),(am,.map y.1 y.2)] ([] ++ (Own.o 9 ((txs (es.take i)).map Value.string) tw ++ (Own.o 3 (dps (es.take i)) dp ++ (Own.o 62 (es.flatMap enc) ow ++ (Own.o 9 ((rdT (bodyOf s)).map Value.string) rw ++ []))))) (by rfl) (fun w1 h j v hj => by rw [Nat.zero_add]; exact h.ocell 0 rfl (by rw [← Array.getElem?_toList]; exact hj)) om om) (by rintro o5 ko5; exact (.cons _ (.cons_cons _ (.cons _ (.cons_cons _ (show List.Sublist (Own.o 62 (es.flatMap enc) ow ++ (Own.o 9 ((rdT (bodyOf s)).map Value.string) rw ++ [])) (Own.o 36 (((ids (es.take i)).flatMap dgc) ++ (dgc x.id)) o5 ++ (Own.o 9 ((txs (es.take i)).map Value.string) tw ++ (Own.o 3 (dps (es.take i)) dp ++ (Own.o 62 (es.flatMap enc) ow ++ (Own.o 9 ((rdT (bodyOf s)).map Value.string) rw ++ []))))) from (List.Sublist.trans (List.Sublist.trans (List.Sublist.trans (List.Sublist.append (List.Sublist.refl (Own.o 62 (es.flatMap enc) ow)) (List.Sublist.append (List.Sublist.refl (Own.o 9 ((rdT (bodyOf s)).map Value.string) rw)) (List.nil_sublist _))) (List.sublist_append_right (Own.o 3 (dps (es.take i)) dp) _)) (List.sublist_append_right (Own.o 9 ((txs (es.take i)).map Value.string) tw) _)) (List.sublist_append_right (Own.o 36 (((ids (es.take i)).flatMap dgc) ++ (dgc x.id)) o5) _)))))))) ?_
         rintro o5 ko5
         refine Ap [9,10] [] (some [9,10,11,46,47,48,61,63]) (tF 11 1) (.cons _ (.cons_cons _ (.cons _ (.cons_cons _ (show List.Sublist (Own.o 62 (es.flatMap enc) ow ++ (Own.o 9 ((rdT (bodyOf s)).map Value.string) rw ++ [])) (Own.o 36 (((ids (es.take i)).flatMap dgc) ++ (dgc x.id)) o5 ++ (Own.o 9 ((txs (es.take i)).map Value.string) tw ++ (Own.o 3 (dps (es.take i)) dp ++ (Own.o 62 (es.flatMap enc) ow ++ (Own.o 9 ((rdT (bodyOf s)).map Value.string) rw ++ []))))) from (List.Sublist.trans (List.Sublist.trans (List.Sublist.trans (List.Sublist.append (List.Sublist.refl (Own.o 62 (es.flatMap enc) ow)) (List.Sublist.append (List.Sublist.refl (Own.o 9 ((rdT (bodyOf s)).map Value.string) rw)) (List.nil_sublist _))) (List.sublist_append_right (Own.o 3 (dps (es.take i)) dp) _)) (List.sublist_append_right (Own.o 9 ((txs (es.take i)).map Value.string) tw) _)) (List.sublist_append_right (Own.o 36 (((ids (es.take i)).flatMap dgc) ++ (dgc x.id)) o5) _))))))) 1 n0 trivial ?_
         refine Ae 11 rfl 0  (Eff.store1 (b := pb) (off := 0) (v := .slice (Own.a o5) ((i + 1)) (Own.c o5)) rfl kr kr rfl kr 2 (cs := #[.slice (Own.a io) i (Own.c io),.slice (Own.a tw) i (Own.c tw),.slice (Own.a dp) i (Own.c dp),.map (some am)]) (e := 60) kr (by simp)) (by rintro ⟨⟩ -; exact (.cons _ (.cons_cons _ (.cons _ (.cons_cons _ (show List.Sublist (Own.o 62 (es.flatMap enc) ow ++ (Own.o 9 ((rdT (bodyOf s)).map Value.string) rw ++ [])) (Own.o 36 (((ids (es.take i)).flatMap dgc) ++ (dgc x.id)) o5 ++ (Own.o 9 ((txs (es.take i)).map Value.string) tw ++ (Own.o 3 (dps (es.take i)) dp ++ (Own.o 62 (es.flatMap enc) ow ++ (Own.o 9 ((rdT (bodyOf s)).map Value.string) rw ++ []))))) from (List.Sublist.trans (List.Sublist.trans (List.Sublist.trans (List.Sublist.append (List.Sublist.refl (Own.o 62 (es.flatMap enc) ow)) (List.Sublist.append (List.Sublist.refl (Own.o 9 ((rdT (bodyOf s)).map Value.string) rw)) (List.nil_sublist _))) (List.sublist_append_right (Own.o 3 (dps (es.take i)) dp) _)) (List.sublist_append_right (Own.o 9 ((txs (es.take i)).map Value.string) tw) _)) (List.sublist_append_right (Own.o 36 (((ids (es.take i)).flatMap dgc) ++ (dgc x.id)) o5) _)))))))) ?_
         rintro ⟨⟩ -
         refine CfgA.done kr ?_
         refine Cg (Γ' := [(10,[],.int .i64 (i : Int)),(11,[],pT eb),(48,[],.int .i64 (i : Int)),(47,[],.int .i64 (es.length : Int)),(46,[],.slice (some ⟨b2,0,none⟩) es.length (Own.c ow)),(9,[],pT pb)]) ?_
         refine Cfg.begA rfl kr ([(ib,.cells (bv x.id) 36 (0,0)),(eb,.cells ((enc x).toArray) 62 (0,0)),(am,.map y.1 y.2)] ++ (Own.o 36 (((ids (es.take i)).flatMap dgc) ++ (dgc x.id)) o5 ++ (Own.o 62 (es.flatMap enc) ow ++ (Own.o 9 ((rdT (bodyOf s)).map Value.string) rw ++ [])))) ?_
         refine Ap [0,1,2,3,5,6] [dZ,dZ,dZ,dZ,dZ,(dS (.string x.t))] (some [9,10,11,46,47,48,64,67,70]) (bF 111 12) (.cons_cons _ (.cons_cons _ (.cons _ (.cons_cons _ (show List.Sublist (Own.o 36 (((ids (es.take i)).flatMap dgc) ++ (dgc x.id)) o5 ++ (Own.o 62 (es.flatMap enc) ow ++ (Own.o 9 ((rdT (bodyOf s)).map Value.string) rw ++ []))) (Own.o 36 (((ids (es.take i)).flatMap dgc) ++ (dgc x.id)) o5 ++ (Own.o 9 ((txs (es.take i)).map Value.string) tw ++ (Own.o 3 (dps (es.take i)) dp ++ (Own.o 62 (es.flatMap enc) ow ++ (Own.o 9 ((rdT (bodyOf s)).map Value.string) rw ++ []))))) from (List.Sublist.append (List.Sublist.refl (Own.o 36 (((ids (es.take i)).flatMap dgc) ++ (dgc x.id)) o5)) (List.Sublist.trans (List.Sublist.trans (List.Sublist.append (List.Sublist.refl (Own.o 62 (es.flatMap enc) ow)) (List.Sublist.append (List.Sublist.refl (Own.o 9 ((rdT (bodyOf s)).map Value.string) rw)) (List.nil_sublist _))) (List.sublist_append_right (Own.o 3 (dps (es.take i)) dp) _)) (List.sublist_append_right (Own.o 9 ((txs (es.take i)).map Value.string) tw) _)))))))) 6 (fun S => [(cE S eb 32 (.string x.t))]) ⟨(fun w1 h => h.ocell 1 rfl (by rw [List.getElem?_toArray]; exact (enc_t hxl))),trivial⟩ ?_
         refine CfgA.fam (ι := Option (Unit) × Option (Nat)) (fun (zq : Option (Unit) × Option (Nat)) => match zq with | (oo4,oo7) => (optL oo4 (fun (_ : Unit) => [(68,[],.slice (Own.a tw) i (Own.c tw))]) ++ (optL oo7 (fun (tb : Nat) => [(71,[],.slice (some ⟨tb,0,none⟩) 1 1)]) ++ [(70,[],.string x.t),(67,[],.pointer (some ⟨pb,1,none⟩)),(64,[],pT pb),(10,[],.int .i64 (i : Int)),(11,[],pT eb),(48,[],.int .i64 (i : Int)),(47,[],.int .i64 (es.length : Int)),(46,[],.slice (some ⟨b2,0,none⟩) es.length (Own.c ow)),(9,[],pT pb)]))) (fun (zq : Option (Unit) × Option (Nat)) => match zq with | (oo4,oo7) => (optL oo7 (fun (tb : Nat) => [(tb,.cells #[.string x.t] 9 (0,0))]) ++ ([(ib,.cells (bv x.id) 36 (0,0)),(eb,.cells ((enc x).toArray) 62 (0,0)),(pb,.cells (#[.slice (Own.a io) i (Own.c io),.slice (Own.a tw) i (Own.c tw),.slice (Own.a dp) i (Own.c dp),.map (some am)].setIfInBounds 0 (.slice (Own.a o5) ((i + 1)) (Own.c o5))) 60 (0,0)),(am,.map y.1 y.2)] ++ ([] ++ (Own.o 36 (((ids (es.take i)).flatMap dgc) ++ (dgc x.id)) o5 ++ (Own.o 9 ((txs (es.take i)).map Value.string) tw ++ (Own.o 3 (dps (es.take i)) dp ++ (Own.o 62 (es.flatMap enc) ow ++ (Own.o 9 ((rdT (bodyOf s)).map Value.string) rw ++ []))))))))) (fun (zq : Option (Unit) × Option (Nat)) => match zq with | (oo4,oo7) => #[true,true,true,true,oo4.isSome,true,true,oo7.isSome,false,false,false,false]) (fun (zq : Option (Unit) × Option (Nat)) => match zq with | (oo4,oo7) => 6 - (optN oo4 + optN oo7)) (fun (zq : Option (Unit) × Option (Nat)) => match zq with | (oo4,oo7) => True) (none,none) trivial kr kr (List.Perm.refl _) (Conv.mk kr) ?_
         rintro ⟨oo4,oo7⟩ hz IH
         rcases oo4 with _ | ⟨⟩
         ·
          rcases oo7 with _ | tb
          ·
           refine CfgA.to (l' := (bF 111 12)) (fuel' := 6) (O' := ([(ib,.cells (bv x.id) 36 (0,0)),(eb,.cells ((enc x).toArray) 62 (0,0)),(pb,.cells (#[.slice (Own.a io) i (Own.c io),.slice (Own.a tw) i (Own.c tw),.slice (Own.a dp) i (Own.c dp),.map (some am)].setIfInBounds 0 (.slice (Own.a o5) ((i + 1)) (Own.c o5))) 60 (0,0)),(am,.map y.1 y.2)] ++ (Own.o 36 (((ids (es.take i)).flatMap dgc) ++ (dgc x.id)) o5 ++ (Own.o 9 ((txs (es.take i)).map Value.string) tw ++ (Own.o 3 (dps (es.take i)) dp ++ (Own.o 62 (es.flatMap enc) ow ++ (Own.o 9 ((rdT (bodyOf s)).map Value.string) rw ++ []))))))) (Γ' := [(70,[],.string x.t),(67,[],.pointer (some ⟨pb,1,none⟩)),(64,[],pT pb),(10,[],.int .i64 (i : Int)),(11,[],pT eb),(48,[],.int .i64 (i : Int)),(47,[],.int .i64 (es.length : Int)),(46,[],.slice (some ⟨b2,0,none⟩) es.length (Own.c ow)),(9,[],pT pb)]) ?_ kr kr (List.Perm.refl _) (Conv.mk kr)
           refine CfgA.many [4,7] kr (by decide) (fuel' := 5) kr ⟨?_,?_,trivial⟩
           ·
            refine Ie rfl  (Eff.quiet (raw := false) (orc := some (.slice (Own.a tw) i (Own.c tw))) (v := .slice (Own.a tw) i (Own.c tw)) (nd := (fun S => [(cE S pb 1 (.slice (Own.a tw) i (Own.c tw)))])) (fun _ => kr) ⟨(oC 2 rfl rfl),trivial⟩ kr) (by rintro ⟨⟩ -; exact (.cons_cons _ (.cons_cons _ (.cons _ (.cons_cons _ (show List.Sublist (Own.o 36 (((ids (es.take i)).flatMap dgc) ++ (dgc x.id)) o5 ++ (Own.o 62 (es.flatMap enc) ow ++ (Own.o 9 ((rdT (bodyOf s)).map Value.string) rw ++ []))) (Own.o 36 (((ids (es.take i)).flatMap dgc) ++ (dgc x.id)) o5 ++ (Own.o 9 ((txs (es.take i)).map Value.string) tw ++ (Own.o 3 (dps (es.take i)) dp ++ (Own.o 62 (es.flatMap enc) ow ++ (Own.o 9 ((rdT (bodyOf s)).map Value.string) rw ++ []))))) from (List.Sublist.append (List.Sublist.refl (Own.o 36 (((ids (es.take i)).flatMap dgc) ++ (dgc x.id)) o5)) (List.Sublist.trans (List.Sublist.trans (List.Sublist.append (List.Sublist.refl (Own.o 62 (es.flatMap enc) ow)) (List.Sublist.append (List.Sublist.refl (Own.o 9 ((rdT (bodyOf s)).map Value.string) rw)) (List.nil_sublist _))) (List.sublist_append_right (Own.o 3 (dps (es.take i)) dp) _)) (List.sublist_append_right (Own.o 9 ((txs (es.take i)).map Value.string) tw) _))))))))) ?_
            rintro ⟨⟩ -
            exact CfgA.to (IH (some (),none) trivial (lt4 kr)) kr kr (.refl _) (Conv.mk kr)
           ·
            refine Ie rfl  (Eff.buildSlice (e := 9) (cells := #[.string x.t]) (parts := #[(0,.string x.t)]) rfl kr (fun _ => kr)) (by rintro tb ⟨htb,ntb⟩; exact (.cons _ (.cons_cons _ (.cons_cons _ (.cons _ (.cons_cons _ (show List.Sublist (Own.o 36 (((ids (es.take i)).flatMap dgc) ++ (dgc x.id)) o5 ++ (Own.o 62 (es.flatMap enc) ow ++ (Own.o 9 ((rdT (bodyOf s)).map Value.string) rw ++ []))) (Own.o 36 (((ids (es.take i)).flatMap dgc) ++ (dgc x.id)) o5 ++ (Own.o 9 ((txs (es.take i)).map Value.string) tw ++ (Own.o 3 (dps (es.take i)) dp ++ (Own.o 62 (es.flatMap enc) ow ++ (Own.o 9 ((rdT (bodyOf s)).map Value.string) rw ++ []))))) from (List.Sublist.append (List.Sublist.refl (Own.o 36 (((ids (es.take i)).flatMap dgc) ++ (dgc x.id)) o5)) (List.Sublist.trans (List.Sublist.trans (List.Sublist.append (List.Sublist.refl (Own.o 62 (es.flatMap enc) ow)) (List.Sublist.append (List.Sublist.refl (Own.o 9 ((rdT (bodyOf s)).map Value.string) rw)) (List.nil_sublist _))) (List.sublist_append_right (Own.o 3 (dps (es.take i)) dp) _)) (List.sublist_append_right (Own.o 9 ((txs (es.take i)).map Value.string) tw) _)))))))))) ?_
            rintro tb ⟨htb,ntb⟩
            exact CfgA.to (IH (none,some tb) trivial (lt4 kr)) kr kr (.refl _) (Conv.mk kr)
          ·
           refine CfgA.to (l' := (bF 239 12)) (fuel' := 5) (O' := ([(tb,.cells #[.string x.t] 9 (0,0)),(ib,.cells (bv x.id) 36 (0,0)),(eb,.cells ((enc x).toArray) 62 (0,0)),(pb,.cells (#[.slice (Own.a io) i (Own.c io),.slice (Own.a tw) i (Own.c tw),.slice (Own.a dp) i (Own.c dp),.map (some am)].setIfInBounds 0 (.slice (Own.a o5) ((i + 1)) (Own.c o5))) 60 (0,0)),(am,.map y.1 y.2)] ++ (Own.o 36 (((ids (es.take i)).flatMap dgc) ++ (dgc x.id)) o5 ++ (Own.o 9 ((txs (es.take i)).map Value.string) tw ++ (Own.o 3 (dps (es.take i)) dp ++ (Own.o 62 (es.flatMap enc) ow ++ (Own.o 9 ((rdT (bodyOf s)).map Value.string) rw ++ []))))))) (Γ' := [(71,[],.slice (some ⟨tb,0,none⟩) 1 1),(70,[],.string x.t),(67,[],.pointer (some ⟨pb,1,none⟩)),(64,[],pT pb),(10,[],.int .i64 (i : Int)),(11,[],pT eb),(48,[],.int .i64 (i : Int)),(47,[],.int .i64 (es.length : Int)),(46,[],.slice (some ⟨b2,0,none⟩) es.length (Own.c ow)),(9,[],pT pb)]) ?_ kr kr (List.Perm.refl _) (Conv.mk kr)
           refine CfgA.many [4] kr (by decide) (fuel' := 4) kr ⟨?_,trivial⟩
           ·
            refine Ie rfl  (Eff.quiet (raw := false) (orc := some (.slice (Own.a tw) i (Own.c tw))) (v := .slice (Own.a tw) i (Own.c tw)) (nd := (fun S => [(cE S pb 1 (.slice (Own.a tw) i (Own.c tw)))])) (fun _ => kr) ⟨(oC 3 rfl rfl),trivial⟩ kr) (by rintro ⟨⟩ -; exact (.cons _ (.cons_cons _ (.cons_cons _ (.cons _ (.cons_cons _ (show List.Sublist (Own.o 36 (((ids (es.take i)).flatMap dgc) ++ (dgc x.id)) o5 ++ (Own.o 62 (es.flatMap enc) ow ++ (Own.o 9 ((rdT (bodyOf s)).map Value.string) rw ++ []))) (Own.o 36 (((ids (es.take i)).flatMap dgc) ++ (dgc x.id)) o5 ++ (Own.o 9 ((txs (es.take i)).map Value.string) tw ++ (Own.o 3 (dps (es.take i)) dp ++ (Own.o 62 (es.flatMap enc) ow ++ (Own.o 9 ((rdT (bodyOf s)).map Value.string) rw ++ []))))) from (List.Sublist.append (List.Sublist.refl (Own.o 36 (((ids (es.take i)).flatMap dgc) ++ (dgc x.id)) o5)) (List.Sublist.trans (List.Sublist.trans (List.Sublist.append (List.Sublist.refl (Own.o 62 (es.flatMap enc) ow)) (List.Sublist.append (List.Sublist.refl (Own.o 9 ((rdT (bodyOf s)).map Value.string) rw)) (List.nil_sublist _))) (List.sublist_append_right (Own.o 3 (dps (es.take i)) dp) _)) (List.sublist_append_right (Own.o 9 ((txs (es.take i)).map Value.string) tw) _)))))))))) ?_
            rintro ⟨⟩ -
            exact CfgA.to (IH (some (),some tb) trivial (lt4 kr)) kr kr (.refl _) (Conv.mk kr)
         ·
          rcases oo7 with _ | tb
          ·
           refine CfgA.to (l' := tF 7 5) (fuel' := 5) (O' := ([(ib,.cells (bv x.id) 36 (0,0)),(eb,.cells ((enc x).toArray) 62 (0,0)),(pb,.cells (#[.slice (Own.a io) i (Own.c io),.slice (Own.a tw) i (Own.c tw),.slice (Own.a dp) i (Own.c dp),.map (some am)].setIfInBounds 0 (.slice (Own.a o5) ((i + 1)) (Own.c o5))) 60 (0,0)),(am,.map y.1 y.2)] ++ (Own.o 36 (((ids (es.take i)).flatMap dgc) ++ (dgc x.id)) o5 ++ (Own.o 9 ((txs (es.take i)).map Value.string) tw ++ (Own.o 3 (dps (es.take i)) dp ++ (Own.o 62 (es.flatMap enc) ow ++ (Own.o 9 ((rdT (bodyOf s)).map Value.string) rw ++ []))))))) (Γ' := [(68,[],.slice (Own.a tw) i (Own.c tw)),(70,[],.string x.t),(67,[],.pointer (some ⟨pb,1,none⟩)),(64,[],pT pb),(10,[],.int .i64 (i : Int)),(11,[],pT eb),(48,[],.int .i64 (i : Int)),(47,[],.int .i64 (es.length : Int)),(46,[],.slice (some ⟨b2,0,none⟩) es.length (Own.c ow)),(9,[],pT pb)]) ?_ kr kr (List.Perm.refl _) (Conv.mk kr)
           refine CfgA.many [7] kr (by decide) (fuel' := 4) kr ⟨?_,trivial⟩
           ·
            refine Ie rfl  (Eff.buildSlice (e := 9) (cells := #[.string x.t]) (parts := #[(0,.string x.t)]) rfl kr (fun _ => kr)) (by rintro tb ⟨htb,ntb⟩; exact (.cons _ (.cons_cons _ (.cons_cons _ (.cons _ (.cons_cons _ (show List.Sublist (Own.o 36 (((ids (es.take i)).flatMap dgc) ++ (dgc x.id)) o5 ++ (Own.o 62 (es.flatMap enc) ow ++ (Own.o 9 ((rdT (bodyOf s)).map Value.string) rw ++ []))) (Own.o 36 (((ids (es.take i)).flatMap dgc) ++ (dgc x.id)) o5 ++ (Own.o 9 ((txs (es.take i)).map Value.string) tw ++ (Own.o 3 (dps (es.take i)) dp ++ (Own.o 62 (es.flatMap enc) ow ++ (Own.o 9 ((rdT (bodyOf s)).map Value.string) rw ++ []))))) from (List.Sublist.append (List.Sublist.refl (Own.o 36 (((ids (es.take i)).flatMap dgc) ++ (dgc x.id)) o5)) (List.Sublist.trans (List.Sublist.trans (List.Sublist.append (List.Sublist.refl (Own.o 62 (es.flatMap enc) ow)) (List.Sublist.append (List.Sublist.refl (Own.o 9 ((rdT (bodyOf s)).map Value.string) rw)) (List.nil_sublist _))) (List.sublist_append_right (Own.o 3 (dps (es.take i)) dp) _)) (List.sublist_append_right (Own.o 9 ((txs (es.take i)).map Value.string) tw) _)))))))))) ?_
            rintro tb ⟨htb,ntb⟩
            exact CfgA.to (IH (some (),some tb) trivial (lt4 kr)) kr kr (.refl _) (Conv.mk kr)
          ·
           refine CfgA.to (l' := tF 8 4) (fuel' := 4) (O' := ([(tb,.cells #[.string x.t] 9 (0,0)),(ib,.cells (bv x.id) 36 (0,0)),(eb,.cells ((enc x).toArray) 62 (0,0)),(pb,.cells (#[.slice (Own.a io) i (Own.c io),.slice (Own.a tw) i (Own.c tw),.slice (Own.a dp) i (Own.c dp),.map (some am)].setIfInBounds 0 (.slice (Own.a o5) ((i + 1)) (Own.c o5))) 60 (0,0)),(am,.map y.1 y.2)] ++ (Own.o 36 (((ids (es.take i)).flatMap dgc) ++ (dgc x.id)) o5 ++ (Own.o 9 ((txs (es.take i)).map Value.string) tw ++ (Own.o 3 (dps (es.take i)) dp ++ (Own.o 62 (es.flatMap enc) ow ++ (Own.o 9 ((rdT (bodyOf s)).map Value.string) rw ++ []))))))) (Γ' := [(68,[],.slice (Own.a tw) i (Own.c tw)),(71,[],.slice (some ⟨tb,0,none⟩) 1 1),(70,[],.string x.t),(67,[],.pointer (some ⟨pb,1,none⟩)),(64,[],pT pb),(10,[],.int .i64 (i : Int)),(11,[],pT eb),(48,[],.int .i64 (i : Int)),(47,[],.int .i64 (es.length : Int)),(46,[],.slice (some ⟨b2,0,none⟩) es.length (Own.c ow)),(9,[],pT pb)]) ?_ kr kr (List.Perm.refl _) (Conv.mk kr)
           refine Ae 8 rfl 3  (Eff.appendF rfl 1 16 Tryz.underlying22 kr (z := (.string ByteArray.empty)) kr kr tw (xs := ((txs (es.take i)).map Value.string)) htw kr (b2 := tb) (off2 := 0) (m := 1) (c2 := 1) kr ([Value.string x.t]) rfl (fun q hq => by rw [List.mem_singleton.1 hq]; rfl) ([(tb,.cells #[.string x.t] 9 (0,0)),(ib,.cells (bv x.id) 36 (0,0)),(eb,.cells ((enc x).toArray) 62 (0,0)),(pb,.cells (#[.slice (Own.a io) i (Own.c io),.slice (Own.a tw) i (Own.c tw),.slice (Own.a dp) i (Own.c dp),.map (some am)].setIfInBounds 0 (.slice (Own.a o5) ((i + 1)) (Own.c o5))) 60 (0,0)),(am,.map y.1 y.2)] ++ Own.o 36 (((ids (es.take i)).flatMap dgc) ++ (dgc x.id)) o5) ([] ++ (Own.o 3 (dps (es.take i)) dp ++ (Own.o 62 (es.flatMap enc) ow ++ (Own.o 9 ((rdT (bodyOf s)).map Value.string) rw ++ [])))) (by rfl) (fun w1 h j v hj => by rw [Nat.zero_add]; exact h.ocell 0 rfl (by rw [← Array.getElem?_toList]; exact hj)) om om) (by rintro o6 ko6; exact (.cons _ (.cons_cons _ (.cons_cons _ (.cons _ (.cons_cons _ (show List.Sublist (Own.o 36 (((ids (es.take i)).flatMap dgc) ++ (dgc x.id)) o5 ++ (Own.o 62 (es.flatMap enc) ow ++ (Own.o 9 ((rdT (bodyOf s)).map Value.string) rw ++ []))) (Own.o 36 (((ids (es.take i)).flatMap dgc) ++ (dgc x.id)) o5 ++ (Own.o 9 (((txs (es.take i)).map Value.string) ++ [Value.string x.t]) o6 ++ (Own.o 3 (dps (es.take i)) dp ++ (Own.o 62 (es.flatMap enc) ow ++ (Own.o 9 ((rdT (bodyOf s)).map Value.string) rw ++ []))))) from (List.Sublist.append (List.Sublist.refl (Own.o 36 (((ids (es.take i)).flatMap dgc) ++ (dgc x.id)) o5)) (List.Sublist.trans (List.Sublist.trans (List.Sublist.append (List.Sublist.refl (Own.o 62 (es.flatMap enc) ow)) (List.Sublist.append (List.Sublist.refl (Own.o 9 ((rdT (bodyOf s)).map Value.string) rw)) (List.nil_sublist _))) (List.sublist_append_right (Own.o 3 (dps (es.take i)) dp) _)) (List.sublist_append_right (Own.o 9 (((txs (es.take i)).map Value.string) ++ [Value.string x.t]) o6) _)))))))))) ?_
           rintro o6 ko6
           refine Ap [9,10] [] (some [9,10,11,46,47,48,72,74]) (tF 11 1) (.cons _ (.cons_cons _ (.cons_cons _ (.cons _ (.cons_cons _ (show List.Sublist (Own.o 36 (((ids (es.take i)).flatMap dgc) ++ (dgc x.id)) o5 ++ (Own.o 62 (es.flatMap enc) ow ++ (Own.o 9 ((rdT (bodyOf s)).map Value.string) rw ++ []))) (Own.o 36 (((ids (es.take i)).flatMap dgc) ++ (dgc x.id)) o5 ++ (Own.o 9 (((txs (es.take i)).map Value.string) ++ [Value.string x.t]) o6 ++ (Own.o 3 (dps (es.take i)) dp ++ (Own.o 62 (es.flatMap enc) ow ++ (Own.o 9 ((rdT (bodyOf s)).map Value.string) rw ++ []))))) from (List.Sublist.append (List.Sublist.refl (Own.o 36 (((ids (es.take i)).flatMap dgc) ++ (dgc x.id)) o5)) (List.Sublist.trans (List.Sublist.trans (List.Sublist.append (List.Sublist.refl (Own.o 62 (es.flatMap enc) ow)) (List.Sublist.append (List.Sublist.refl (Own.o 9 ((rdT (bodyOf s)).map Value.string) rw)) (List.nil_sublist _))) (List.sublist_append_right (Own.o 3 (dps (es.take i)) dp) _)) (List.sublist_append_right (Own.o 9 (((txs (es.take i)).map Value.string) ++ [Value.string x.t]) o6) _))))))))) 1 n0 trivial ?_
           refine Ae 11 rfl 0  (Eff.store1 (b := pb) (off := 1) (v := .slice (Own.a o6) ((i + 1)) (Own.c o6)) rfl kr kr rfl kr 3 (cs := (#[.slice (Own.a io) i (Own.c io),.slice (Own.a tw) i (Own.c tw),.slice (Own.a dp) i (Own.c dp),.map (some am)].setIfInBounds 0 (.slice (Own.a o5) ((i + 1)) (Own.c o5)))) (e := 60) kr (by simp)) (by rintro ⟨⟩ -; exact (.cons _ (.cons_cons _ (.cons_cons _ (.cons _ (.cons_cons _ (show List.Sublist (Own.o 36 (((ids (es.take i)).flatMap dgc) ++ (dgc x.id)) o5 ++ (Own.o 62 (es.flatMap enc) ow ++ (Own.o 9 ((rdT (bodyOf s)).map Value.string) rw ++ []))) (Own.o 36 (((ids (es.take i)).flatMap dgc) ++ (dgc x.id)) o5 ++ (Own.o 9 (((txs (es.take i)).map Value.string) ++ [Value.string x.t]) o6 ++ (Own.o 3 (dps (es.take i)) dp ++ (Own.o 62 (es.flatMap enc) ow ++ (Own.o 9 ((rdT (bodyOf s)).map Value.string) rw ++ []))))) from (List.Sublist.append (List.Sublist.refl (Own.o 36 (((ids (es.take i)).flatMap dgc) ++ (dgc x.id)) o5)) (List.Sublist.trans (List.Sublist.trans (List.Sublist.append (List.Sublist.refl (Own.o 62 (es.flatMap enc) ow)) (List.Sublist.append (List.Sublist.refl (Own.o 9 ((rdT (bodyOf s)).map Value.string) rw)) (List.nil_sublist _))) (List.sublist_append_right (Own.o 3 (dps (es.take i)) dp) _)) (List.sublist_append_right (Own.o 9 (((txs (es.take i)).map Value.string) ++ [Value.string x.t]) o6) _)))))))))) ?_
           rintro ⟨⟩ -
           refine CfgA.done kr ?_
           refine Cg (Γ' := [(10,[],.int .i64 (i : Int)),(11,[],pT eb),(48,[],.int .i64 (i : Int)),(47,[],.int .i64 (es.length : Int)),(46,[],.slice (some ⟨b2,0,none⟩) es.length (Own.c ow)),(9,[],pT pb)]) ?_
           refine Cfg.begA rfl kr ([(tb,.cells #[.string x.t] 9 (0,0)),(ib,.cells (bv x.id) 36 (0,0)),(eb,.cells ((enc x).toArray) 62 (0,0)),(am,.map y.1 y.2)] ++ (Own.o 36 (((ids (es.take i)).flatMap dgc) ++ (dgc x.id)) o5 ++ (Own.o 9 (((txs (es.take i)).map Value.string) ++ [Value.string x.t]) o6 ++ (Own.o 62 (es.flatMap enc) ow ++ (Own.o 9 ((rdT (bodyOf s)).map Value.string) rw ++ []))))) ?_
           refine Ap [0,1,2,3,5,6] [dZ,dZ,dZ,dZ,dZ,(dS (.int .i64 (x.p : Int)))] (some [9,10,11,46,47,48,75,78,81]) (bF 111 12) (.cons_cons _ (.cons_cons _ (.cons_cons _ (.cons _ (.cons_cons _ (show List.Sublist (Own.o 36 (((ids (es.take i)).flatMap dgc) ++ (dgc x.id)) o5 ++ (Own.o 9 (((txs (es.take i)).map Value.string) ++ [Value.string x.t]) o6 ++ (Own.o 62 (es.flatMap enc) ow ++ (Own.o 9 ((rdT (bodyOf s)).map Value.string) rw ++ [])))) (Own.o 36 (((ids (es.take i)).flatMap dgc) ++ (dgc x.id)) o5 ++ (Own.o 9 (((txs (es.take i)).map Value.string) ++ [Value.string x.t]) o6 ++ (Own.o 3 (dps (es.take i)) dp ++ (Own.o 62 (es.flatMap enc) ow ++ (Own.o 9 ((rdT (bodyOf s)).map Value.string) rw ++ []))))) from (List.Sublist.append (List.Sublist.refl (Own.o 36 (((ids (es.take i)).flatMap dgc) ++ (dgc x.id)) o5)) (List.Sublist.append (List.Sublist.refl (Own.o 9 (((txs (es.take i)).map Value.string) ++ [Value.string x.t]) o6)) (List.Sublist.trans (List.Sublist.append (List.Sublist.refl (Own.o 62 (es.flatMap enc) ow)) (List.Sublist.append (List.Sublist.refl (Own.o 9 ((rdT (bodyOf s)).map Value.string) rw)) (List.nil_sublist _))) (List.sublist_append_right (Own.o 3 (dps (es.take i)) dp) _)))))))))) 6 (fun S => [(cE S eb 66 (.int .i64 (x.p : Int)))]) ⟨(fun w1 h => h.ocell 2 rfl (by rw [List.getElem?_toArray]; exact (enc_p hxl))),trivial⟩ ?_
           refine CfgA.fam (ι := Option (Unit) × Option (Nat)) (fun (zq : Option (Unit) × Option (Nat)) => match zq with | (oo4,oo7) => (optL oo4 (fun (_ : Unit) => [(79,[],.slice (Own.a dp) i (Own.c dp))]) ++ (optL oo7 (fun (nb : Nat) => [(82,[],.slice (some ⟨nb,0,none⟩) 1 1)]) ++ [(81,[],.int .i64 (x.p : Int)),(78,[],.pointer (some ⟨pb,2,none⟩)),(75,[],pT pb),(10,[],.int .i64 (i : Int)),(11,[],pT eb),(48,[],.int .i64 (i : Int)),(47,[],.int .i64 (es.length : Int)),(46,[],.slice (some ⟨b2,0,none⟩) es.length (Own.c ow)),(9,[],pT pb)]))) (fun (zq : Option (Unit) × Option (Nat)) => match zq with | (oo4,oo7) => (optL oo7 (fun (nb : Nat) => [(nb,.cells #[.int .i64 (x.p : Int)] 3 (0,0))]) ++ ([(tb,.cells #[.string x.t] 9 (0,0)),(ib,.cells (bv x.id) 36 (0,0)),(eb,.cells ((enc x).toArray) 62 (0,0)),(pb,.cells ((#[.slice (Own.a io) i (Own.c io),.slice (Own.a tw) i (Own.c tw),.slice (Own.a dp) i (Own.c dp),.map (some am)].setIfInBounds 0 (.slice (Own.a o5) ((i + 1)) (Own.c o5))).setIfInBounds 1 (.slice (Own.a o6) ((i + 1)) (Own.c o6))) 60 (0,0)),(am,.map y.1 y.2)] ++ ([] ++ (Own.o 36 (((ids (es.take i)).flatMap dgc) ++ (dgc x.id)) o5 ++ (Own.o 9 (((txs (es.take i)).map Value.string) ++ [Value.string x.t]) o6 ++ (Own.o 3 (dps (es.take i)) dp ++ (Own.o 62 (es.flatMap enc) ow ++ (Own.o 9 ((rdT (bodyOf s)).map Value.string) rw ++ []))))))))) (fun (zq : Option (Unit) × Option (Nat)) => match zq with | (oo4,oo7) => #[true,true,true,true,oo4.isSome,true,true,oo7.isSome,false,false,false,false]) (fun (zq : Option (Unit) × Option (Nat)) => match zq with | (oo4,oo7) => 6 - (optN oo4 + optN oo7)) (fun (zq : Option (Unit) × Option (Nat)) => match zq with | (oo4,oo7) => True) (none,none) trivial kr kr (List.Perm.refl _) (Conv.mk kr) ?_
           rintro ⟨oo4,oo7⟩ hz IH
           rcases oo4 with _ | ⟨⟩
           ·
            rcases oo7 with _ | nb
            ·
             refine CfgA.to (l' := (bF 111 12)) (fuel' := 6) (O' := ([(tb,.cells #[.string x.t] 9 (0,0)),(ib,.cells (bv x.id) 36 (0,0)),(eb,.cells ((enc x).toArray) 62 (0,0)),(pb,.cells ((#[.slice (Own.a io) i (Own.c io),.slice (Own.a tw) i (Own.c tw),.slice (Own.a dp) i (Own.c dp),.map (some am)].setIfInBounds 0 (.slice (Own.a o5) ((i + 1)) (Own.c o5))).setIfInBounds 1 (.slice (Own.a o6) ((i + 1)) (Own.c o6))) 60 (0,0)),(am,.map y.1 y.2)] ++ (Own.o 36 (((ids (es.take i)).flatMap dgc) ++ (dgc x.id)) o5 ++ (Own.o 9 (((txs (es.take i)).map Value.string) ++ [Value.string x.t]) o6 ++ (Own.o 3 (dps (es.take i)) dp ++ (Own.o 62 (es.flatMap enc) ow ++ (Own.o 9 ((rdT (bodyOf s)).map Value.string) rw ++ []))))))) (Γ' := [(81,[],.int .i64 (x.p : Int)),(78,[],.pointer (some ⟨pb,2,none⟩)),(75,[],pT pb),(10,[],.int .i64 (i : Int)),(11,[],pT eb),(48,[],.int .i64 (i : Int)),(47,[],.int .i64 (es.length : Int)),(46,[],.slice (some ⟨b2,0,none⟩) es.length (Own.c ow)),(9,[],pT pb)]) ?_ kr kr (List.Perm.refl _) (Conv.mk kr)
             refine CfgA.many [4,7] kr (by decide) (fuel' := 5) kr ⟨?_,?_,trivial⟩
             ·
              refine Ie rfl  (Eff.quiet (raw := false) (orc := some (.slice (Own.a dp) i (Own.c dp))) (v := .slice (Own.a dp) i (Own.c dp)) (nd := (fun S => [(cE S pb 2 (.slice (Own.a dp) i (Own.c dp)))])) (fun _ => kr) ⟨(oC 3 rfl rfl),trivial⟩ kr) (by rintro ⟨⟩ -; exact (.cons_cons _ (.cons_cons _ (.cons_cons _ (.cons _ (.cons_cons _ (show List.Sublist (Own.o 36 (((ids (es.take i)).flatMap dgc) ++ (dgc x.id)) o5 ++ (Own.o 9 (((txs (es.take i)).map Value.string) ++ [Value.string x.t]) o6 ++ (Own.o 62 (es.flatMap enc) ow ++ (Own.o 9 ((rdT (bodyOf s)).map Value.string) rw ++ [])))) (Own.o 36 (((ids (es.take i)).flatMap dgc) ++ (dgc x.id)) o5 ++ (Own.o 9 (((txs (es.take i)).map Value.string) ++ [Value.string x.t]) o6 ++ (Own.o 3 (dps (es.take i)) dp ++ (Own.o 62 (es.flatMap enc) ow ++ (Own.o 9 ((rdT (bodyOf s)).map Value.string) rw ++ []))))) from (List.Sublist.append (List.Sublist.refl (Own.o 36 (((ids (es.take i)).flatMap dgc) ++ (dgc x.id)) o5)) (List.Sublist.append (List.Sublist.refl (Own.o 9 (((txs (es.take i)).map Value.string) ++ [Value.string x.t]) o6)) (List.Sublist.trans (List.Sublist.append (List.Sublist.refl (Own.o 62 (es.flatMap enc) ow)) (List.Sublist.append (List.Sublist.refl (Own.o 9 ((rdT (bodyOf s)).map Value.string) rw)) (List.nil_sublist _))) (List.sublist_append_right (Own.o 3 (dps (es.take i)) dp) _))))))))))) ?_
              rintro ⟨⟩ -
              exact CfgA.to (IH (some (),none) trivial (lt4 kr)) kr kr (.refl _) (Conv.mk kr)
             ·
              refine Ie rfl  (Eff.buildSlice (e := 3) (cells := #[.int .i64 (x.p : Int)]) (parts := #[(0,.int .i64 (x.p : Int))]) rfl kr (fun _ => kr)) (by rintro nb ⟨hnb,nnb⟩; exact (.cons _ (.cons_cons _ (.cons_cons _ (.cons_cons _ (.cons _ (.cons_cons _ (show List.Sublist (Own.o 36 (((ids (es.take i)).flatMap dgc) ++ (dgc x.id)) o5 ++ (Own.o 9 (((txs (es.take i)).map Value.string) ++ [Value.string x.t]) o6 ++ (Own.o 62 (es.flatMap enc) ow ++ (Own.o 9 ((rdT (bodyOf s)).map Value.string) rw ++ [])))) (Own.o 36 (((ids (es.take i)).flatMap dgc) ++ (dgc x.id)) o5 ++ (Own.o 9 (((txs (es.take i)).map Value.string) ++ [Value.string x.t]) o6 ++ (Own.o 3 (dps (es.take i)) dp ++ (Own.o 62 (es.flatMap enc) ow ++ (Own.o 9 ((rdT (bodyOf s)).map Value.string) rw ++ []))))) from (List.Sublist.append (List.Sublist.refl (Own.o 36 (((ids (es.take i)).flatMap dgc) ++ (dgc x.id)) o5)) (List.Sublist.append (List.Sublist.refl (Own.o 9 (((txs (es.take i)).map Value.string) ++ [Value.string x.t]) o6)) (List.Sublist.trans (List.Sublist.append (List.Sublist.refl (Own.o 62 (es.flatMap enc) ow)) (List.Sublist.append (List.Sublist.refl (Own.o 9 ((rdT (bodyOf s)).map Value.string) rw)) (List.nil_sublist _))) (List.sublist_append_right (Own.o 3 (dps (es.take i)) dp) _)))))))))))) ?_
              rintro nb ⟨hnb,nnb⟩
              exact CfgA.to (IH (none,some nb) trivial (lt4 kr)) kr kr (.refl _) (Conv.mk kr)
            ·
             refine CfgA.to (l' := (bF 239 12)) (fuel' := 5) (O' := ([(nb,.cells #[.int .i64 (x.p : Int)] 3 (0,0)),(tb,.cells #[.string x.t] 9 (0,0)),(ib,.cells (bv x.id) 36 (0,0)),(eb,.cells ((enc x).toArray) 62 (0,0)),(pb,.cells ((#[.slice (Own.a io) i (Own.c io),.slice (Own.a tw) i (Own.c tw),.slice (Own.a dp) i (Own.c dp),.map (some am)].setIfInBounds 0 (.slice (Own.a o5) ((i + 1)) (Own.c o5))).setIfInBounds 1 (.slice (Own.a o6) ((i + 1)) (Own.c o6))) 60 (0,0)),(am,.map y.1 y.2)] ++ (Own.o 36 (((ids (es.take i)).flatMap dgc) ++ (dgc x.id)) o5 ++ (Own.o 9 (((txs (es.take i)).map Value.string) ++ [Value.string x.t]) o6 ++ (Own.o 3 (dps (es.take i)) dp ++ (Own.o 62 (es.flatMap enc) ow ++ (Own.o 9 ((rdT (bodyOf s)).map Value.string) rw ++ []))))))) (Γ' := [(82,[],.slice (some ⟨nb,0,none⟩) 1 1),(81,[],.int .i64 (x.p : Int)),(78,[],.pointer (some ⟨pb,2,none⟩)),(75,[],pT pb),(10,[],.int .i64 (i : Int)),(11,[],pT eb),(48,[],.int .i64 (i : Int)),(47,[],.int .i64 (es.length : Int)),(46,[],.slice (some ⟨b2,0,none⟩) es.length (Own.c ow)),(9,[],pT pb)]) ?_ kr kr (List.Perm.refl _) (Conv.mk kr)
             refine CfgA.many [4] kr (by decide) (fuel' := 4) kr ⟨?_,trivial⟩
             ·
              refine Ie rfl  (Eff.quiet (raw := false) (orc := some (.slice (Own.a dp) i (Own.c dp))) (v := .slice (Own.a dp) i (Own.c dp)) (nd := (fun S => [(cE S pb 2 (.slice (Own.a dp) i (Own.c dp)))])) (fun _ => kr) ⟨(oC 4 rfl rfl),trivial⟩ kr) (by rintro ⟨⟩ -; exact (.cons _ (.cons_cons _ (.cons_cons _ (.cons_cons _ (.cons _ (.cons_cons _ (show List.Sublist (Own.o 36 (((ids (es.take i)).flatMap dgc) ++ (dgc x.id)) o5 ++ (Own.o 9 (((txs (es.take i)).map Value.string) ++ [Value.string x.t]) o6 ++ (Own.o 62 (es.flatMap enc) ow ++ (Own.o 9 ((rdT (bodyOf s)).map Value.string) rw ++ [])))) (Own.o 36 (((ids (es.take i)).flatMap dgc) ++ (dgc x.id)) o5 ++ (Own.o 9 (((txs (es.take i)).map Value.string) ++ [Value.string x.t]) o6 ++ (Own.o 3 (dps (es.take i)) dp ++ (Own.o 62 (es.flatMap enc) ow ++ (Own.o 9 ((rdT (bodyOf s)).map Value.string) rw ++ []))))) from (List.Sublist.append (List.Sublist.refl (Own.o 36 (((ids (es.take i)).flatMap dgc) ++ (dgc x.id)) o5)) (List.Sublist.append (List.Sublist.refl (Own.o 9 (((txs (es.take i)).map Value.string) ++ [Value.string x.t]) o6)) (List.Sublist.trans (List.Sublist.append (List.Sublist.refl (Own.o 62 (es.flatMap enc) ow)) (List.Sublist.append (List.Sublist.refl (Own.o 9 ((rdT (bodyOf s)).map Value.string) rw)) (List.nil_sublist _))) (List.sublist_append_right (Own.o 3 (dps (es.take i)) dp) _)))))))))))) ?_
              rintro ⟨⟩ -
              exact CfgA.to (IH (some (),some nb) trivial (lt4 kr)) kr kr (.refl _) (Conv.mk kr)
           ·
            rcases oo7 with _ | nb
            ·
             refine CfgA.to (l' := tF 7 5) (fuel' := 5) (O' := ([(tb,.cells #[.string x.t] 9 (0,0)),(ib,.cells (bv x.id) 36 (0,0)),(eb,.cells ((enc x).toArray) 62 (0,0)),(pb,.cells ((#[.slice (Own.a io) i (Own.c io),.slice (Own.a tw) i (Own.c tw),.slice (Own.a dp) i (Own.c dp),.map (some am)].setIfInBounds 0 (.slice (Own.a o5) ((i + 1)) (Own.c o5))).setIfInBounds 1 (.slice (Own.a o6) ((i + 1)) (Own.c o6))) 60 (0,0)),(am,.map y.1 y.2)] ++ (Own.o 36 (((ids (es.take i)).flatMap dgc) ++ (dgc x.id)) o5 ++ (Own.o 9 (((txs (es.take i)).map Value.string) ++ [Value.string x.t]) o6 ++ (Own.o 3 (dps (es.take i)) dp ++ (Own.o 62 (es.flatMap enc) ow ++ (Own.o 9 ((rdT (bodyOf s)).map Value.string) rw ++ []))))))) (Γ' := [(79,[],.slice (Own.a dp) i (Own.c dp)),(81,[],.int .i64 (x.p : Int)),(78,[],.pointer (some ⟨pb,2,none⟩)),(75,[],pT pb),(10,[],.int .i64 (i : Int)),(11,[],pT eb),(48,[],.int .i64 (i : Int)),(47,[],.int .i64 (es.length : Int)),(46,[],.slice (some ⟨b2,0,none⟩) es.length (Own.c ow)),(9,[],pT pb)]) ?_ kr kr (List.Perm.refl _) (Conv.mk kr)
             refine CfgA.many [7] kr (by decide) (fuel' := 4) kr ⟨?_,trivial⟩
             ·
              refine Ie rfl  (Eff.buildSlice (e := 3) (cells := #[.int .i64 (x.p : Int)]) (parts := #[(0,.int .i64 (x.p : Int))]) rfl kr (fun _ => kr)) (by rintro nb ⟨hnb,nnb⟩; exact (.cons _ (.cons_cons _ (.cons_cons _ (.cons_cons _ (.cons _ (.cons_cons _ (show List.Sublist (Own.o 36 (((ids (es.take i)).flatMap dgc) ++ (dgc x.id)) o5 ++ (Own.o 9 (((txs (es.take i)).map Value.string) ++ [Value.string x.t]) o6 ++ (Own.o 62 (es.flatMap enc) ow ++ (Own.o 9 ((rdT (bodyOf s)).map Value.string) rw ++ [])))) (Own.o 36 (((ids (es.take i)).flatMap dgc) ++ (dgc x.id)) o5 ++ (Own.o 9 (((txs (es.take i)).map Value.string) ++ [Value.string x.t]) o6 ++ (Own.o 3 (dps (es.take i)) dp ++ (Own.o 62 (es.flatMap enc) ow ++ (Own.o 9 ((rdT (bodyOf s)).map Value.string) rw ++ []))))) from (List.Sublist.append (List.Sublist.refl (Own.o 36 (((ids (es.take i)).flatMap dgc) ++ (dgc x.id)) o5)) (List.Sublist.append (List.Sublist.refl (Own.o 9 (((txs (es.take i)).map Value.string) ++ [Value.string x.t]) o6)) (List.Sublist.trans (List.Sublist.append (List.Sublist.refl (Own.o 62 (es.flatMap enc) ow)) (List.Sublist.append (List.Sublist.refl (Own.o 9 ((rdT (bodyOf s)).map Value.string) rw)) (List.nil_sublist _))) (List.sublist_append_right (Own.o 3 (dps (es.take i)) dp) _)))))))))))) ?_
              rintro nb ⟨hnb,nnb⟩
              exact CfgA.to (IH (some (),some nb) trivial (lt4 kr)) kr kr (.refl _) (Conv.mk kr)
            ·
             refine CfgA.to (l' := tF 8 4) (fuel' := 4) (O' := ([(nb,.cells #[.int .i64 (x.p : Int)] 3 (0,0)),(tb,.cells #[.string x.t] 9 (0,0)),(ib,.cells (bv x.id) 36 (0,0)),(eb,.cells ((enc x).toArray) 62 (0,0)),(pb,.cells ((#[.slice (Own.a io) i (Own.c io),.slice (Own.a tw) i (Own.c tw),.slice (Own.a dp) i (Own.c dp),.map (some am)].setIfInBounds 0 (.slice (Own.a o5) ((i + 1)) (Own.c o5))).setIfInBounds 1 (.slice (Own.a o6) ((i + 1)) (Own.c o6))) 60 (0,0)),(am,.map y.1 y.2)] ++ (Own.o 36 (((ids (es.take i)).flatMap dgc) ++ (dgc x.id)) o5 ++ (Own.o 9 (((txs (es.take i)).map Value.string) ++ [Value.string x.t]) o6 ++ (Own.o 3 (dps (es.take i)) dp ++ (Own.o 62 (es.flatMap enc) ow ++ (Own.o 9 ((rdT (bodyOf s)).map Value.string) rw ++ []))))))) (Γ' := [(79,[],.slice (Own.a dp) i (Own.c dp)),(82,[],.slice (some ⟨nb,0,none⟩) 1 1),(81,[],.int .i64 (x.p : Int)),(78,[],.pointer (some ⟨pb,2,none⟩)),(75,[],pT pb),(10,[],.int .i64 (i : Int)),(11,[],pT eb),(48,[],.int .i64 (i : Int)),(47,[],.int .i64 (es.length : Int)),(46,[],.slice (some ⟨b2,0,none⟩) es.length (Own.c ow)),(9,[],pT pb)]) ?_ kr kr (List.Perm.refl _) (Conv.mk kr)
             refine Ae 8 rfl 3  (Eff.reO (A2 := fun (oq9 : K.Own) => ([(nb,.cells #[.int .i64 (x.p : Int)] 3 (0,0)),(tb,.cells #[.string x.t] 9 (0,0)),(ib,.cells (bv x.id) 36 (0,0)),(eb,.cells ((enc x).toArray) 62 (0,0)),(pb,.cells ((#[.slice (Own.a io) i (Own.c io),.slice (Own.a tw) i (Own.c tw),.slice (Own.a dp) i (Own.c dp),.map (some am)].setIfInBounds 0 (.slice (Own.a o5) ((i + 1)) (Own.c o5))).setIfInBounds 1 (.slice (Own.a o6) ((i + 1)) (Own.c o6))) 60 (0,0)),(am,.map y.1 y.2)] ++ (Own.o 36 (((ids (es.take i)).flatMap dgc) ++ (dgc x.id)) o5 ++ (Own.o 9 (((txs (es.take i)).map Value.string) ++ [Value.string x.t]) o6 ++ (Own.o 3 ((dps (es.take i)) ++ [Value.int .i64 (x.p : Int)]) oq9 ++ (Own.o 62 (es.flatMap enc) ow ++ (Own.o 9 ((rdT (bodyOf s)).map Value.string) rw ++ []))))))) (Eff.appendF rfl 1 8 Tryz.underlying58 kr (z := (.int .i64 0)) kr kr dp (xs := (dps (es.take i))) hdp kr (b2 := nb) (off2 := 0) (m := 1) (c2 := 1) kr ([Value.int .i64 (x.p : Int)]) rfl (fun q hq => by rw [List.mem_singleton.1 hq]; rfl) ([(nb,.cells #[.int .i64 (x.p : Int)] 3 (0,0)),(tb,.cells #[.string x.t] 9 (0,0)),(ib,.cells (bv x.id) 36 (0,0)),(eb,.cells ((enc x).toArray) 62 (0,0)),(pb,.cells ((#[.slice (Own.a io) i (Own.c io),.slice (Own.a tw) i (Own.c tw),.slice (Own.a dp) i (Own.c dp),.map (some am)].setIfInBounds 0 (.slice (Own.a o5) ((i + 1)) (Own.c o5))).setIfInBounds 1 (.slice (Own.a o6) ((i + 1)) (Own.c o6))) 60 (0,0)),(am,.map y.1 y.2)] ++ (Own.o 36 (((ids (es.take i)).flatMap dgc) ++ (dgc x.id)) o5 ++ (Own.o 9 (((txs (es.take i)).map Value.string) ++ [Value.string x.t]) o6))) ([] ++ (Own.o 62 (es.flatMap enc) ow ++ (Own.o 9 ((rdT (bodyOf s)).map Value.string) rw ++ []))) (by simp only [List.append_assoc,List.cons_append,List.nil_append,List.append_nil]) (fun w1 h j v hj => by rw [Nat.zero_add]; exact h.ocell 0 rfl (by rw [← Array.getElem?_toList]; exact hj)) om om) (fun oq9 => by simp only [List.append_assoc,List.cons_append,List.nil_append,List.append_nil])) (by rintro o7 ko7; exact (.cons _ (.cons_cons _ (.cons_cons _ (.cons_cons _ (.cons _ (.cons_cons _ (show List.Sublist (Own.o 36 (((ids (es.take i)).flatMap dgc) ++ (dgc x.id)) o5 ++ (Own.o 9 (((txs (es.take i)).map Value.string) ++ [Value.string x.t]) o6 ++ (Own.o 62 (es.flatMap enc) ow ++ (Own.o 9 ((rdT (bodyOf s)).map Value.string) rw ++ [])))) (Own.o 36 (((ids (es.take i)).flatMap dgc) ++ (dgc x.id)) o5 ++ (Own.o 9 (((txs (es.take i)).map Value.string) ++ [Value.string x.t]) o6 ++ (Own.o 3 ((dps (es.take i)) ++ [Value.int .i64 (x.p : Int)]) o7 ++ (Own.o 62 (es.flatMap enc) ow ++ (Own.o 9 ((rdT (bodyOf s)).map Value.string) rw ++ []))))) from (List.Sublist.append (List.Sublist.refl (Own.o 36 (((ids (es.take i)).flatMap dgc) ++ (dgc x.id)) o5)) (List.Sublist.append (List.Sublist.refl (Own.o 9 (((txs (es.take i)).map Value.string) ++ [Value.string x.t]) o6)) (List.Sublist.trans (List.Sublist.append (List.Sublist.refl (Own.o 62 (es.flatMap enc) ow)) (List.Sublist.append (List.Sublist.refl (Own.o 9 ((rdT (bodyOf s)).map Value.string) rw)) (List.nil_sublist _))) (List.sublist_append_right (Own.o 3 ((dps (es.take i)) ++ [Value.int .i64 (x.p : Int)]) o7) _)))))))))))) ?_
             rintro o7 ko7
             refine Ap [9,10] [] (some [9,10,11,46,47,48,83,85]) (tF 11 1) (.cons _ (.cons_cons _ (.cons_cons _ (.cons_cons _ (.cons _ (.cons_cons _ (show List.Sublist (Own.o 36 (((ids (es.take i)).flatMap dgc) ++ (dgc x.id)) o5 ++ (Own.o 9 (((txs (es.take i)).map Value.string) ++ [Value.string x.t]) o6 ++ (Own.o 62 (es.flatMap enc) ow ++ (Own.o 9 ((rdT (bodyOf s)).map Value.string) rw ++ [])))) (Own.o 36 (((ids (es.take i)).flatMap dgc) ++ (dgc x.id)) o5 ++ (Own.o 9 (((txs (es.take i)).map Value.string) ++ [Value.string x.t]) o6 ++ (Own.o 3 ((dps (es.take i)) ++ [Value.int .i64 (x.p : Int)]) o7 ++ (Own.o 62 (es.flatMap enc) ow ++ (Own.o 9 ((rdT (bodyOf s)).map Value.string) rw ++ []))))) from (List.Sublist.append (List.Sublist.refl (Own.o 36 (((ids (es.take i)).flatMap dgc) ++ (dgc x.id)) o5)) (List.Sublist.append (List.Sublist.refl (Own.o 9 (((txs (es.take i)).map Value.string) ++ [Value.string x.t]) o6)) (List.Sublist.trans (List.Sublist.append (List.Sublist.refl (Own.o 62 (es.flatMap enc) ow)) (List.Sublist.append (List.Sublist.refl (Own.o 9 ((rdT (bodyOf s)).map Value.string) rw)) (List.nil_sublist _))) (List.sublist_append_right (Own.o 3 ((dps (es.take i)) ++ [Value.int .i64 (x.p : Int)]) o7) _))))))))))) 1 n0 trivial ?_
             refine Ae 11 rfl 0  (Eff.store1 (b := pb) (off := 2) (v := .slice (Own.a o7) ((i + 1)) (Own.c o7)) rfl kr kr rfl kr 4 (cs := ((#[.slice (Own.a io) i (Own.c io),.slice (Own.a tw) i (Own.c tw),.slice (Own.a dp) i (Own.c dp),.map (some am)].setIfInBounds 0 (.slice (Own.a o5) ((i + 1)) (Own.c o5))).setIfInBounds 1 (.slice (Own.a o6) ((i + 1)) (Own.c o6)))) (e := 60) kr (by simp)) (by rintro ⟨⟩ -; exact (.cons _ (.cons_cons _ (.cons_cons _ (.cons_cons _ (.cons _ (.cons_cons _ (show List.Sublist (Own.o 36 (((ids (es.take i)).flatMap dgc) ++ (dgc x.id)) o5 ++ (Own.o 9 (((txs (es.take i)).map Value.string) ++ [Value.string x.t]) o6 ++ (Own.o 62 (es.flatMap enc) ow ++ (Own.o 9 ((rdT (bodyOf s)).map Value.string) rw ++ [])))) (Own.o 36 (((ids (es.take i)).flatMap dgc) ++ (dgc x.id)) o5 ++ (Own.o 9 (((txs (es.take i)).map Value.string) ++ [Value.string x.t]) o6 ++ (Own.o 3 ((dps (es.take i)) ++ [Value.int .i64 (x.p : Int)]) o7 ++ (Own.o 62 (es.flatMap enc) ow ++ (Own.o 9 ((rdT (bodyOf s)).map Value.string) rw ++ []))))) from (List.Sublist.append (List.Sublist.refl (Own.o 36 (((ids (es.take i)).flatMap dgc) ++ (dgc x.id)) o5)) (List.Sublist.append (List.Sublist.refl (Own.o 9 (((txs (es.take i)).map Value.string) ++ [Value.string x.t]) o6)) (List.Sublist.trans (List.Sublist.append (List.Sublist.refl (Own.o 62 (es.flatMap enc) ow)) (List.Sublist.append (List.Sublist.refl (Own.o 9 ((rdT (bodyOf s)).map Value.string) rw)) (List.nil_sublist _))) (List.sublist_append_right (Own.o 3 ((dps (es.take i)) ++ [Value.int .i64 (x.p : Int)]) o7) _)))))))))))) ?_
             rintro ⟨⟩ -
             refine CfgA.done kr ?_
             refine Cg (Γ' := [(10,[],.int .i64 (i : Int)),(11,[],pT eb),(48,[],.int .i64 (i : Int)),(47,[],.int .i64 (es.length : Int)),(46,[],.slice (some ⟨b2,0,none⟩) es.length (Own.c ow)),(9,[],pT pb)]) ?_
             refine Cfg.begA rfl kr ([(nb,.cells #[.int .i64 (x.p : Int)] 3 (0,0)),(tb,.cells #[.string x.t] 9 (0,0)),(ib,.cells (bv x.id) 36 (0,0)),(eb,.cells ((enc x).toArray) 62 (0,0)),(pb,.cells (((#[.slice (Own.a io) i (Own.c io),.slice (Own.a tw) i (Own.c tw),.slice (Own.a dp) i (Own.c dp),.map (some am)].setIfInBounds 0 (.slice (Own.a o5) ((i + 1)) (Own.c o5))).setIfInBounds 1 (.slice (Own.a o6) ((i + 1)) (Own.c o6))).setIfInBounds 2 (.slice (Own.a o7) ((i + 1)) (Own.c o7))) 60 (0,0))] ++ (Own.o 36 (((ids (es.take i)).flatMap dgc) ++ (dgc x.id)) o5 ++ (Own.o 9 (((txs (es.take i)).map Value.string) ++ [Value.string x.t]) o6 ++ (Own.o 3 ((dps (es.take i)) ++ [Value.int .i64 (x.p : Int)]) o7 ++ (Own.o 62 (es.flatMap enc) ow ++ (Own.o 9 ((rdT (bodyOf s)).map Value.string) rw ++ [])))))) ?_
             refine Ap [0,1,2,3,4,5,6] [dZ,dZ,dZ,(dS (.map (some am))),dZ,(dS (.agg (bv x.id)))] (some [9,46,47,48,89,91,92]) (tF 7 1) (.cons_cons _ (.cons_cons _ (.cons_cons _ (.cons_cons _ (.cons_cons _ (.cons _ slr)))))) 1 (fun S => [(cE S pb 3 (.map (some am))),(∀ w1,S w1 → (loadVar 36 ⟨eb,0,none⟩).run Tryz.prog w1 = .ok (.agg (bv x.id)) w1)]) ⟨(oC 4 rfl rfl),(fun w1 h => load_list (vs := dgc x.id) Tryz.underlying36 rfl kr (dgc_len hxl.id) (fun q9 v hq9 => h.ocell 3 rfl (by rw [List.getElem?_toArray]; exact enc_id hq9))),trivial⟩ ?_
             refine Ae 7 rfl 0  (Eff.dSet (r := am) (k := x.id) (u := .int .i64 (i : Int)) (es := y.1) (ck := y.2) (n := 32) (el := 5) rfl Tryz.underlying56 pKey hxl.id kr kr kr hm 5 kr) (fun _ _ => (.cons_cons _ (.cons_cons _ (.cons_cons _ (.cons_cons _ (.cons_cons _ (.cons _ slr))))))) ?_
             rintro xm hxm
             refine CfgA.done kr ?_
             refine Cg (Γ' := [(48,[],.int .i64 (i : Int)),(47,[],.int .i64 (es.length : Int)),(46,[],.slice (some ⟨b2,0,none⟩) es.length (Own.c ow)),(9,[],pT pb)]) ?_
             refine Rg [9,46,47,48] [] (fun _ => [(i6 ((i : Int) + 1))]) ⟨om,trivial⟩ ?_
             have h1 : ids (es.take (i + 1)) = ids (es.take i) ++ [x.id] := by rw [ids_take om,← hx]
             have h2 : txs (es.take (i + 1)) = txs (es.take i) ++ [x.t] := by rw [txs_take om,← hx]
             have h3 : dps (es.take (i + 1)) = dps (es.take i) ++ [.int .i64 (x.p : Int)] := by rw [dps_take om,← hx]
             have hit := ids_tl es (i := i) om
             refine Cfg.setO (congrArg (fun (xq : List Value) => (([(nb,.cells #[.int .i64 (x.p : Int)] 3 (0,0)),(tb,.cells #[.string x.t] 9 (0,0)),(ib,.cells (bv x.id) 36 (0,0)),(eb,.cells ((enc x).toArray) 62 (0,0)),(pb,.cells (((#[.slice (Own.a io) i (Own.c io),.slice (Own.a tw) i (Own.c tw),.slice (Own.a dp) i (Own.c dp),.map (some am)].setIfInBounds 0 (.slice (Own.a o5) ((i + 1)) (Own.c o5))).setIfInBounds 1 (.slice (Own.a o6) ((i + 1)) (Own.c o6))).setIfInBounds 2 (.slice (Own.a o7) ((i + 1)) (Own.c o7))) 60 (0,0)),(am,.map xm.1 xm.2)] ++ (Own.o 36 xq o5 ++ (Own.o 9 (((txs (es.take i)).map Value.string) ++ [Value.string x.t]) o6 ++ (Own.o 3 ((dps (es.take i)) ++ [Value.int .i64 (x.p : Int)]) o7 ++ (Own.o 62 (es.flatMap enc) ow ++ (Own.o 9 ((rdT (bodyOf s)).map Value.string) rw ++ [])))))) : LO)) (show _ = ((ids (es.take (i + 1))).flatMap dgc) from by rw [h1,List.flatMap_append,List.flatMap_singleton])) ?_
             refine Cfg.setO (congrArg (fun (xq : List Value) => (([(nb,.cells #[.int .i64 (x.p : Int)] 3 (0,0)),(tb,.cells #[.string x.t] 9 (0,0)),(ib,.cells (bv x.id) 36 (0,0)),(eb,.cells ((enc x).toArray) 62 (0,0)),(pb,.cells (((#[.slice (Own.a io) i (Own.c io),.slice (Own.a tw) i (Own.c tw),.slice (Own.a dp) i (Own.c dp),.map (some am)].setIfInBounds 0 (.slice (Own.a o5) ((i + 1)) (Own.c o5))).setIfInBounds 1 (.slice (Own.a o6) ((i + 1)) (Own.c o6))).setIfInBounds 2 (.slice (Own.a o7) ((i + 1)) (Own.c o7))) 60 (0,0)),(am,.map xm.1 xm.2)] ++ (Own.o 36 ((ids (es.take (i + 1))).flatMap dgc) o5 ++ (Own.o 9 xq o6 ++ (Own.o 3 ((dps (es.take i)) ++ [Value.int .i64 (x.p : Int)]) o7 ++ (Own.o 62 (es.flatMap enc) ow ++ (Own.o 9 ((rdT (bodyOf s)).map Value.string) rw ++ [])))))) : LO)) (show _ = ((txs (es.take (i + 1))).map Value.string) from by rw [h2,List.map_append]; rfl)) ?_
             refine Cfg.setO (congrArg (fun (xq : List Value) => (([(nb,.cells #[.int .i64 (x.p : Int)] 3 (0,0)),(tb,.cells #[.string x.t] 9 (0,0)),(ib,.cells (bv x.id) 36 (0,0)),(eb,.cells ((enc x).toArray) 62 (0,0)),(pb,.cells (((#[.slice (Own.a io) i (Own.c io),.slice (Own.a tw) i (Own.c tw),.slice (Own.a dp) i (Own.c dp),.map (some am)].setIfInBounds 0 (.slice (Own.a o5) ((i + 1)) (Own.c o5))).setIfInBounds 1 (.slice (Own.a o6) ((i + 1)) (Own.c o6))).setIfInBounds 2 (.slice (Own.a o7) ((i + 1)) (Own.c o7))) 60 (0,0)),(am,.map xm.1 xm.2)] ++ (Own.o 36 ((ids (es.take (i + 1))).flatMap dgc) o5 ++ (Own.o 9 ((txs (es.take (i + 1))).map Value.string) o6 ++ (Own.o 3 xq o7 ++ (Own.o 62 (es.flatMap enc) ow ++ (Own.o 9 ((rdT (bodyOf s)).map Value.string) rw ++ [])))))) : LO)) (show _ = (dps (es.take (i + 1))) from by rw [h3])) ?_
             refine Cfg.setS 46 (congrArg (fun (xq : Value) => (xq : Value)) (show .slice (some ⟨b2,0,none⟩) es.length (Own.c ow) = .slice (Own.a ow) es.length (Own.c ow) from by rw [hba])) ?_
             refine Cfg.again rfl (i + 1,dset W x.id (.int .i64 (i : Int)),xm,o5,o6,o7) ⟨by omega,by rw [h1,List.flatMap_append,List.flatMap_singleton]; exact ko5,by rw [h2,List.map_append]; exact ko6,by rw [h3]; exact ko7,hxm,by rw [h1]; have h9 := hW.add x.id; rw [hit] at h9; exact h9⟩ (by show es.length - (i + 1) < es.length - i; omega) (Conv.mk kr) (.cons _ (.cons _ (.cons _ (.cons _ slr))))
      ·have c5 := (dF c5r)
       refine Rg [2,3] [] n0 trivial ?_
       refine Cfg.ret rfl (rs := [.tmp 2,.tmp 3]) rfl [pT pb,.int .i64 0] ⟨kr,by kernel_rfl,trivial⟩ (fun w1 hp => ?_)
       have hx := openF_ok (s := s) om (fun h => h hsum) hsm (by rw [← hes]; exact hlay)
       rw [hx,← hes]
       have hie : i = es.length := by omega
       subst hie
       rw [List.take_length] at hio htw hdp hW
       have h9 : HP w [] _ ([(pb,Obj.cells #[.slice (Own.a io) es.length (Own.c io),.slice (Own.a tw) es.length (Own.c tw),.slice (Own.a dp) es.length (Own.c dp),.map (some am)] 60 (0,0)),(am,Obj.map y.1 y.2)] ++ (Own.o 36 ((ids (es.take es.length)).flatMap dgc) io ++ (Own.o 9 ((txs (es.take es.length)).map Value.string) tw ++ (Own.o 3 (dps (es.take es.length)) dp ++ _)))) w1 := hp
       rw [List.take_length] at h9
       exact ⟨some ⟨pb,am,y,io,tw,dp⟩,(fun m h => (by cases h; exact ⟨hio,htw,hdp,W,hm,hW⟩)),⟨(fun h => (by cases h)),(fun h => absurd rfl h)⟩,rfl,_,h9.sub (List.Sublist.append slr (List.Sublist.append slr (List.Sublist.append slr (List.Sublist.append slr (List.nil_sublist _)))))⟩
end Go.Proofs.YtbeegepcdglcaaaGreatDoor
namespace Go.Proofs.YtbeegepcdglcaaaGreatDoor
namespace K
set_option linter.unusedVariables false
def IterSpec2 {α : Type} (P : Program) (f : FuncId) (caps : Array Value) (Need : List (Nat × Obj)) (items : List α) (va vb : α → Value) : Prop :=
 ∀ (l dr : Nat) (fi : FuncId) (T : Array Value) (ps : Array Tmp) (assign body : Code) (σ : Type) (A : σ → LO) (J : List α → σ → Prop) (s0 : σ) (p : α → Bool) (w : World),ps.size = 2 → J [] s0 → Has w (A s0) → ((A s0).map (·.1)).Nodup →
  (∀ pre x,(∀ y ∈ pre,p y = true) → J pre x → (∀ e ∈ Need,e ∈ A x) ∧ (l,Obj.loop (rec0 fi T ps assign body dr .ready none)) ∈ A x) →
  (∀ pre x a rest,(∀ y ∈ pre,p y = true) → J pre x → items = pre ++ a :: rest → ∀ w,Has w (A x) → ((A x).map (·.1)).Nodup →
   RoundIn Fence.wide 0 P l fi ((ps.zip #[va a,vb a]).foldl (fun tmps (t,a) => tmps.setIfInBounds t a) T) assign body w fun e w' => ∃ y,J (pre ++ [a]) y ∧ e = .returned (.bool (p a)) ∧ ∃ R1,HP w ((A x).map (·.1)) R1 (A y) w') →
  Calls P f (#[.func (.yield l) #[] #[]] ++ caps) w fun e w' => ∃ y,J (vis p items) y ∧ e = .returned (.tuple #[]) ∧ ∃ R1,HP w ((A s0).map (·.1)) R1 (A y) w'
theorem IterSpec2.none {α : Type} {P : Program} {f : FuncId} {caps : Array Value} {Need : List (Nat × Obj)} {va vb : α → Value} (h : ∀ (l : Nat) (w : World),Has w Need → Calls P f (#[.func (.yield l) #[] #[]] ++ caps) w fun e w' => e = .returned (.tuple #[]) ∧ Ext [] w w') :
  IterSpec2 P f caps Need ([] : List α) va vb := by
 intro l dr fi T ps assign body σ A J s0 p w _ hJ hA hd hm _
 refine (h l w (fun e he => hA e ((hm [] s0 (fun y hy => by cases hy) hJ).1 e he))).mono ?_
 rintro e w' ⟨rfl,hx⟩
 exact ⟨s0,hJ,rfl,[],(HP.ofL hA hd (fun e he => by cases he) (fun e he => by cases he)).calm hx⟩
theorem zip2 (t u : Nat) (v v2 : Value) (T : Array Value) : ((#[t,u] : Array Tmp).zip #[v,v2]).foldl (fun tmps (t,a) => tmps.setIfInBounds t a) T = (T.setIfInBounds t v).setIfInBounds u v2 := by simp
section
variable {P : Program} {fn : Func} {post : Ending → World → Prop} {w0 : World} {M D : List Nat} {R O : List (Nat × Obj)} {Γ : Env} {ks ks' : List KI}
theorem Cfg.rangeI2 {g : Operand} {t u : Tmp} {assign body : Code} (hk : K.nrm 99 ks = .inl (.rangeFunc g #[t,u] assign body) :: ks')
  {f : FuncId} {fn' : Func} {c' : Code} {caps : Array Value} (hg : opd Γ [] g = some (.func (.func f) #[] caps)) (hf : P.funcs[f]? = some fn') (hnm : (fn'.name == "runtime.NumGoroutine") = false) (hb : fn'.body = some c') (ht : Nat.blt t fn.ntmps = true) (hu : Nat.blt u fn.ntmps = true)
  {α : Type} {Need : LO} {items : List α} {va vb : α → Value} (hit : IterSpec2 P f caps Need items va vb)
  {σ : Type} (Bo : σ → LO) (J : List α → σ → Prop) (s0 : σ) (hJ : J [] s0) (Rn T0 : LO) (hO : O.Perm (Bo s0 ++ T0)) (hRn : ∀ e ∈ Rn,e ∈ R) (hRd : (∀ w,HP w0 M R O w → (Rn.map (·.1)).Nodup))
  (p : α → Bool) (hneed : ∀ pre x,(∀ y ∈ pre,p y = true) → J pre x → ∀ e ∈ Need,e ∈ Bo x ++ Rn) (stop : Exit) (hstop : goes stop = false)
  (round : ∀ (l : Nat) (ob1 ob2 : Obj) (w2 : World) (M2 : List Nat) pre x a rest,(∀ y ∈ pre,p y = true) → J pre x → items = pre ++ a :: rest →
   ∃ (κ : Type) (F1 : κ → Prop) (Γ1 : κ → Env) (O1 : κ → LO),
    Cfg (Cx.rnd P fn l w2 M2 fun _ _ => False) [] ((l,ob1) :: (Bo x ++ Rn)) (put (put Γ t [] (va a)) u [] (vb a)) [.inl assign,.inr (.inr (Mid fn.ntmps w2 M2 [] F1 Γ1 fun y => (l,ob1) :: O1 y))] ∧
    ∀ y,F1 y → Cfg (Cx.rnd P fn l w2 M2 fun e w' => ∃ z,J (pre ++ [a]) z ∧ (if p a then Exit.normal else stop) = e ∧ HP w2 M2 [] ((l,ob2) :: (Bo z ++ Rn)) w') [] ((l,ob2) :: O1 y) (Γ1 y) [.inl body])
  (next : ∀ dr y,(∀ a ∈ items,p a = true) → J items y → Cfg (Cx.marks P fn post w0 M (dr :: D)) R ((dr,.deferred (some [])) :: (Bo y ++ T0)) Γ ks')
  (nextS : ∀ dr y pre a rest,items = pre ++ a :: rest → (∀ y ∈ pre,p y = true) → p a = false → J (pre ++ [a]) y → Cfg (Cx.marks P fn post w0 M (dr :: D)) R ((dr,.deferred (some [])) :: (Bo y ++ T0)) Γ (match pex stop with | none => ks' | some c => .inl c :: ks')) :
  Cfg (Cx.marks P fn post w0 M D) R O Γ ks := by
 refine Cfg.range (ι := σ × Bool) hk hg hf hnm hb (fun x => if x.2 then (∀ a ∈ items,p a = true) ∧ J items x.1 else ∃ pre a rest,items = pre ++ a :: rest ∧ (∀ y ∈ pre,p y = true) ∧ p a = false ∧ J (pre ++ [a]) x.1)
  (fun x => Bo x.1 ++ T0) (fun x => stx (if x.2 then .normal else stop)) (fun x => pex (if x.2 then .normal else stop)) (fun x => by cases x.2 <;> (try cases stop) <;> rfl) ?_ ?_
 ·intro fi l dr T w1 hT hl hdr hp1
  have hq : HP w0 M R (((l,Obj.loop (rec0 fi T #[t,u] assign body dr .ready Option.none)) :: Bo s0) ++ ((dr,.deferred (some [])) :: T0)) w1 := by
   refine hp1.perm ?_
   refine List.Perm.trans (List.Perm.cons _ (List.Perm.cons _ hO)) ?_
   rw [List.cons_append]
   exact List.Perm.cons _ List.perm_middle.symm
  have hhas : Has w1 (((l,Obj.loop (rec0 fi T #[t,u] assign body dr .ready Option.none)) :: Bo s0) ++ Rn) := fun e he => by
   rcases List.mem_append.1 he with he | he
   ·exact hq.own e (mL he)
   ·exact hq.ro e (hRn e he)
  have hnd : ((((l,Obj.loop (rec0 fi T #[t,u] assign body dr .ready Option.none)) :: Bo s0) ++ Rn).map (·.1)).Nodup := by
   rw [List.map_append]
   refine List.nodup_append.2 ⟨nodup_left hq.dist,hRd w1 (hp1.sub (.cons _ (.cons _ slr))),?_⟩
   intro a ha b hb hab
   obtain ⟨e,he,rfl⟩ := List.mem_map.1 ha
   obtain ⟨e2,he2,rfl⟩ := List.mem_map.1 hb
   exact hq.away (mL he) (hRn e2 he2) hab
  refine (hit l dr fi T #[t,u] assign body (σ × Bool) (fun x => (((l,Obj.loop (rec0 fi T #[t,u] assign body dr (stx (if x.2 then .normal else stop)) (pex (if x.2 then .normal else stop)))) :: Bo x.1) ++ Rn)) (fun pre x => J pre x.1 ∧ x.2 = pre.all p) (s0,true) p w1 rfl ⟨hJ,rfl⟩ hhas hnd ?_ ?_).mono ?_
  ·rintro pre ⟨x,b⟩ hpre ⟨hx,hb⟩
   have hb' : b = true := hb.trans (List.all_eq_true.2 hpre)
   subst hb'
   exact ⟨fun e he => by rw [List.cons_append]; exact List.mem_cons_of_mem _ (hneed pre x hpre hx e he),mH⟩
  ·rintro pre ⟨x,b⟩ a rest hpre ⟨hx,hb⟩ hi w2 hh hdn
   have hb' : b = true := hb.trans (List.all_eq_true.2 hpre)
   subst hb'
   obtain ⟨κ,F1,Γ1,O1,h1,h2⟩ := round l (.loop (rec0 fi T #[t,u] assign body dr .ready Option.none)) (.loop (rec0 fi T #[t,u] assign body dr .busy Option.none)) w2 (((((l,Obj.loop (rec0 fi T #[t,u] assign body dr .ready Option.none)) :: Bo x) ++ Rn)).map (·.1)) pre x a rest hpre hx hi
   have hs2 : St fn.ntmps [] (put (put Γ t [] (va a)) u [] (vb a)) { tmps := ((#[t,u] : Array Tmp).zip #[va a,vb a]).foldl (fun tmps (t,a) => tmps.setIfInBounds t a) T,defers := [] } := by
    rw [zip2]
    exact putO_ok (d := some u) (putO_ok (d := some t) hT (fun t' h => by cases h; exact Nat.lt_of_succ_le (Nat.le_of_ble_eq_true ht))) (fun t' h => by cases h; exact Nat.lt_of_succ_le (Nat.le_of_ble_eq_true hu))
   have hp2 := HP.ofL hh hdn (R := []) (fun e he => by cases he) (fun e he => by cases he)
   refine (roundK (O := Bo x ++ Rn) hs2 hp2 F1 Γ1 O1 h1 (fun z => J (pre ++ [a]) z) (fun _ => if p a then Exit.normal else stop) (fun z => Bo z ++ Rn) h2).mono ?_
   rintro e w3 ⟨z,hz,rfl,hp3⟩
   refine ⟨(z,p a),⟨hz,?_⟩,?_,[],?_⟩
   ·have := List.all_eq_true.2 hpre
    simp [List.all_append,this]
   ·cases hpa : p a with
    | true => rfl
    | false => simp [hstop]
   ·exact hp3
  ·rintro e w2 ⟨⟨y,b⟩,⟨hy,hb⟩,rfl,R1,hp2⟩
   refine ⟨⟨_,rfl⟩,(y,b),?_,?_⟩
   ·rcases vis_split p items with h | ⟨pre,a,rest,hi,h1,h2⟩
    ·rw [vis_all h] at hy hb
     have hb' : b = true := hb.trans (List.all_eq_true.2 h)
     subst hb'
     exact ⟨h,hy⟩
    ·rw [hi,vis_stop h1 h2] at hy hb
     have hb' : b = false := by
      have e1 : b = (pre ++ [a]).all p := hb
      rw [e1,List.all_append]; simp [h2]
     subst hb'
     exact ⟨pre,a,rest,hi,h1,h2,hy⟩
   ·refine (hq.swapR hRn hp2).perm ?_
    rw [List.cons_append]
    exact List.Perm.cons _ List.perm_middle
 ·rintro dr ⟨y,b⟩ hy
  cases b with
  | true => exact next dr y hy.1 hy.2
  | false =>
   obtain ⟨pre,a,rest,hi,h1,h2,h3⟩ := hy
   exact nextS dr y pre a rest hi h1 h2 h3
end
section
variable {P : Program} {fn : Func} {post : Ending → World → Prop} {w0 : World} {M D : List Nat} {R O : List (Nat × Obj)} {Γ : Env} {ks ks' : List KI}
theorem Cfg.rangeJ2 {g : Operand} {t u : Tmp} {assign body : Code} (hk : K.nrm 99 ks = .inl (.rangeFunc g #[t,u] assign body) :: ks')
  {f : FuncId} {fn' : Func} {c' : Code} {caps : Array Value} (hg : opd Γ [] g = some (.func (.func f) #[] caps)) (hf : P.funcs[f]? = some fn') (hnm : (fn'.name == "runtime.NumGoroutine") = false) (hb : fn'.body = some c') (ht : Nat.blt t fn.ntmps = true) (hu : Nat.blt u fn.ntmps = true)
  {α : Type} {Need : LO} {items : List α} {va vb : α → Value} (hit : IterSpec2 P f caps Need items va vb)
  {σ : Type} (Bo : σ → LO) (J : List α → σ → Prop) (s0 : σ) (hJ : J [] s0) (Rn : LO) (hO : O.Perm (Bo s0)) (hRn : ∀ e ∈ Rn,e ∈ R) (hRd : (∀ w,HP w0 M R O w → (Rn.map (·.1)).Nodup))
  (BR : σ → LO) (hBR : ∀ x,Bo x ++ Rn = BR x)
  (p : α → Bool) (hneed : ∀ pre x,(∀ y ∈ pre,p y = true) → J pre x → ∀ e ∈ Need,e ∈ BR x) (stop : Exit) (hstop : goes stop = false)
  (round : ∀ (l : Nat) (ob1 ob2 : Obj) (w2 : World) (M2 : List Nat) pre x a rest,(∀ y ∈ pre,p y = true) → J pre x → items = pre ++ a :: rest →
   ∃ (κ : Type) (F1 : κ → Prop) (Γ1 : κ → Env) (O1 : κ → LO),
    Cfg (Cx.rnd P fn l w2 M2 fun _ _ => False) [] ((l,ob1) :: BR x) (put (put Γ t [] (va a)) u [] (vb a)) [.inl assign,.inr (.inr (Mid fn.ntmps w2 M2 [] F1 Γ1 fun y => (l,ob1) :: O1 y))] ∧
    ∀ y,F1 y → Cfg (Cx.rnd P fn l w2 M2 fun e w' => ∃ z,J (pre ++ [a]) z ∧ (if p a then Exit.normal else stop) = e ∧ HP w2 M2 [] ((l,ob2) :: BR z) w') [] ((l,ob2) :: O1 y) (Γ1 y) [.inl body])
  (next : ∀ dr y,(∀ a ∈ items,p a = true) → J items y → Cfg (Cx.marks P fn post w0 M (dr :: D)) R ((dr,.deferred (some [])) :: Bo y) Γ ks')
  (nextS : ∀ dr y pre a rest,items = pre ++ a :: rest → (∀ y ∈ pre,p y = true) → p a = false → J (pre ++ [a]) y → Cfg (Cx.marks P fn post w0 M (dr :: D)) R ((dr,.deferred (some [])) :: Bo y) Γ (match pex stop with | none => ks' | some c => .inl c :: ks')) :
  Cfg (Cx.marks P fn post w0 M D) R O Γ ks := by
 refine Cfg.rangeI2 hk hg hf hnm hb ht hu hit Bo J s0 hJ Rn [] (by rw [List.append_nil]; exact hO) hRn hRd p (fun pre x h1 h2 e he => by rw [hBR]; exact hneed pre x h1 h2 e he) stop hstop ?_ ?_ ?_
 ·intro l ob1 ob2 w2 M2 pre x a rest h1 h2 h3
  simp only [hBR]
  exact round l ob1 ob2 w2 M2 pre x a rest h1 h2 h3
 ·intro dr y h1 h2
  rw [List.append_nil]; exact next dr y h1 h2
 ·intro dr y pre a rest h1 h2 h3 h4
  rw [List.append_nil]; exact nextS dr y pre a rest h1 h2 h3 h4
end
end K
end Go.Proofs.YtbeegepcdglcaaaGreatDoor
namespace Go.Proofs.YtbeegepcdglcaaaGreatDoor
namespace K
set_option linter.unusedVariables false
section
variable {P : Program} {ops : Array Oper} {Q : Exit → Act → World → Prop} {S : World → Prop}
def anyB (P : Program) (ops : Array Oper) (Q : Exit → Act → World → Prop) (S : World → Prop) : Nat → Array Bool → Act → World → Prop
 | 0,l,a,w => Region.ready .any ops l = [] ∧ Q .normal a w
 | fuel + 1,l,a,w => (Region.ready .any ops l = [] → Q .normal a w) ∧ ∀ i ∈ Region.ready .any ops l,wpOpIn (fen none) 0 P ops Q i (fun a' w' => S w' ∧ anyB P ops Q S fuel (l.setIfInBounds i true) a' w') a w
theorem anyB_in : ∀ (fuel : Nat) (l : Array Bool) (a : Act) (w : World),anyB P ops Q S fuel l a w → wpAnyIn (fen none) 0 P .any ops Q fuel l a w
 | 0,_,_,_,h => h
 | fuel + 1,_,_,_,h => ⟨h.1,fun i hi => wpOpIn_mono (fun a' w' h' => anyB_in fuel _ a' w' h'.2) (h.2 i hi)⟩
theorem yieldsB {i : Nat} {o : Oper} {v : Value} {a : Act} (hi : ops[i]? = some o) (hy : YieldsIf P ops S o v a) {K : Act → World → Prop} {w : World} (hS : S w) (h : K (a.put o.dst v) w) : wpOpIn (fen none) 0 P ops Q i K a w := by
 unfold Go.wpOpIn
 simp only [hi]
 rcases hy with ⟨hw,hv⟩ | ⟨hw,rfl⟩
 ·simp only [hw,if_true,Oper.wpIn]
  refine ⟨fun _ _ => trivial,?_⟩
  rw [show (fen none).round = none from rfl,Oper.semAt_none,hv w hS]
  exact h
 ·simp only [hw,Bool.false_eq_true,if_false]; exact ⟨fun _ _ => trivial,h⟩
theorem opB_put {j : Nat} {oi oj : Oper} {v : Value} (hj : ops[j]? = some oj) (hap : oi.apart ops oj = true)
  (hsi : ∀ cs b,oi.op ≠ .select cs b) (hsj : ∀ cs b,oj.op ≠ .select cs b)
  (hQ : ∀ c a w,Q (.panic c) (a.put oi.dst v) w → Q (.panic c) a w) {K : Act → World → Prop} {a : Act} {w : World}
  (hy : YieldsIf P ops S oi v a) (h : wpOpIn (fen none) 0 P ops Q j K (a.put oi.dst v) w) :
  wpOpIn (fen none) 0 P ops Q j (fun a' w' => YieldsIf P ops S oi v a' ∧ K (a'.put oi.dst v) w') a w := by
 obtain ⟨h1,h2,h3⟩ := Oper.apart_spec hap
 have keep : ∀ (a : Act),YieldsIf P ops S oi v a → ∀ u,YieldsIf P ops S oi v (a.put oj.dst u) := fun a hy u =>
  hy.of_same (execOp_put oi hsi a oj.dst u h3) (wanted_put oi a oj.dst u h3)
 have keepD : ∀ d,YieldsIf P ops S oi v { a with defers := d :: a.defers } := fun d => hy.of_same rfl rfl
 unfold wpOpIn at *
 simp only [hj] at *
 rw [wanted_put oj a oi.dst v h1,about_put oj w a oi.dst v h1] at h
 split
 ·rename_i hw
  simp only [hw,if_true] at h
  unfold Oper.wpIn at *
  rw [about_put oj w a oi.dst v h1] at h
  refine ⟨h.1,?_⟩
  have h := h.2
  rw [show (fen none).round = none from rfl,Oper.semAt_none,execOp_put oj hsj a oi.dst v h1] at h
  rw [show (fen none).round = none from rfl,Oper.semAt_none]
  generalize (execOp a.eval oj).run P w = r at *
  cases r with
  | ok x w' =>
   cases x <;> simp only [Oper.uponIn] at h ⊢
   case value u => exact ⟨keep a hy u,by rw [← Act.put_comm a v u h2]; exact h⟩
   case skip => exact ⟨keep a hy _,by rw [← Act.put_comm a v undef h2]; exact h⟩
   case defer d =>
    refine ⟨keep _ (keepD d) _,?_⟩
    rw [← Act.put_comm _ v undef h2,← Act.put_defers]
    exact h
   case enter f args =>
    refine ⟨h.1,CallsIn.mono h.2 fun e w'' he => ?_⟩
    cases e with
    | returned u => exact ⟨keep a hy u,by rw [← Act.put_comm a v u h2]; exact he⟩
    | panicked c => exact hQ _ _ _ he
    | outgrown => exact he
   case row row args => exact ⟨h.1,RowsIn.mono h.2 fun u w'' he => ⟨keep a hy u,by rw [← Act.put_comm a v u h2]; exact he⟩⟩
   case round l f tmps assign body =>
    refine ⟨h.1,RoundIn.mono h.2 fun e w'' he => ?_⟩
    cases e with
    | returned u => exact ⟨keep a hy u,by rw [← Act.put_comm a v u h2]; exact he⟩
    | panicked c => exact hQ _ _ _ he
    | outgrown => exact he
  | halt x w' =>
   cases x <;> simp only [Oper.uponIn] at h ⊢
   case panic u => exact hQ _ _ _ h
 ·rename_i hw
  simp only [hw] at h
  exact ⟨h.1,keep a hy _,by rw [← Act.put_comm a v undef h2]; exact h.2⟩
theorem anyB_first {i : Nat} {oi : Oper} {v : Value} (hi : ops[i]? = some oi) (hsel : ∀ (j : Nat) (o : Oper) cs b,ops[j]? = some o → o.op ≠ .select cs b)
  (hQ : ∀ c a w,Q (.panic c) (a.put oi.dst v) w → Q (.panic c) a w) :
  ∀ (fuel : Nat) (listed : Array Bool) (a : Act) (w : World),
   (∀ j oj,ops[j]? = some oj → j ≠ i → listed.getD j true = false → (∀ e ∈ oj.after,Region.binds .any e = true → e.on ≠ i) → oi.apart ops oj = true) →
   i ∈ Region.ready .any ops listed → YieldsIf P ops S oi v a → S w →
   anyB P ops Q S fuel (listed.setIfInBounds i true) (a.put oi.dst v) w → anyB P ops Q S (fuel + 1) listed a w := by
 intro fuel
 induction fuel with
 | zero =>
  intro listed a w _ hr hy hS H
  refine ⟨fun h => (by rw [h] at hr; cases hr),fun j hj => ?_⟩
  by_cases hji : j = i
  ·subst hji; exact yieldsB hi hy hS ⟨hS,H⟩
  ·have := ready_mono hj hji
   rw [H.1] at this
   cases this
 | succ fuel ih =>
  intro listed a w hfree hr hy hS H
  refine ⟨fun h => (by rw [h] at hr; cases hr),fun j hj => ?_⟩
  by_cases hji : j = i
  ·subst hji; exact yieldsB hi hy hS ⟨hS,H⟩
  ·have h1 := H.2 j (ready_mono hj hji)
   obtain ⟨hjun,oj,hoj,hall⟩ := mem_ready.1 hj
   have hnot : ∀ e ∈ oj.after,Region.binds .any e = true → e.on ≠ i := fun e he hb heq => by
    have h1 := hall e he hb
    have h0 := (mem_ready.1 hr).1
    rw [heq] at h1
    rcases Nat.lt_or_ge i listed.size with h' | h'
    ·simp [h'] at h0 h1; rw [h0] at h1; cases h1
    ·simp [Array.getElem?_eq_none h'] at h1
   have h2 := opB_put hoj (hfree j oj hoj hji hjun hnot) (fun cs b => hsel i oi cs b hi) (fun cs b => hsel j oj cs b hoj) hQ hy h1
   have hfree' : ∀ k ok,ops[k]? = some ok → k ≠ i → (listed.setIfInBounds j true).getD k true = false →
     (∀ e ∈ ok.after,Region.binds .any e = true → e.on ≠ i) → oi.apart ops ok = true := fun k ok hk hki hun hno => by
    refine hfree k ok hk hki ?_ hno
    by_cases hjk : j = k
    ·subst hjk; exact hjun
    ·rw [getD_set_ne true hjk] at hun; exact hun
   refine wpOpIn_mono (fun a' w' h3 => ⟨h3.2.1,ih (listed.setIfInBounds j true) a' w' hfree' (ready_mono hr (Ne.symm hji)) h3.1 h3.2.1 ?_⟩) h2
   rw [Array.setIfInBounds_comm _ _ hji]
   exact h3.2.2
theorem anyB_done {l : Array Bool} {a : Act} {w : World} (hr : Region.ready .any ops l = []) (h : Q .normal a w) : ∀ fuel,anyB P ops Q S fuel l a w
 | 0 => ⟨hr,h⟩
 | _ + 1 => ⟨fun _ => h,by rw [hr]; simp⟩
theorem anyB_all {rs : List Nat} {fuel : Nat} {l : Array Bool} {a : Act} {w : World} (hr : Region.ready .any ops l = rs) (hne : rs ≠ [])
  (h : ∀ i ∈ rs,wpOpIn (fen none) 0 P ops Q i (fun a' w' => S w' ∧ anyB P ops Q S fuel (l.setIfInBounds i true) a' w') a w) : anyB P ops Q S (fuel + 1) l a w :=
 ⟨fun h0 => absurd (hr ▸ h0) hne,hr ▸ h⟩
theorem anyB_pure {n : Nat} {D : List Deferred} (hsel : Region.noSelect ops = true) (hQ : PanicOk Q) {w : World} {fuel : Nat} {l' : Array Bool} : ∀ (is : List Nat) (os : List Oper) (ds : List Dir) (l : Array Bool) (Γ : Env) (a : Act) {Γ' : Env} {nd : List Prop},
  takes .any ops l is = some l' → opsAt ops is = some os → St n D Γ a → evOps P S n ops os ds Γ = some (Γ',nd) → (∀ p ∈ nd,p) → S w →
  (∀ a',St n D Γ' a' → anyB P ops Q S fuel l' a' w) → anyB P ops Q S (fuel + is.length) l a w
 | [],os,ds,l,Γ,a,Γ',nd,ht,ho,hs,he,_,_,h => by
  simp only [takes,Option.some.injEq] at ht
  simp only [opsAt,Option.some.injEq] at ho
  subst ht; subst ho
  simp only [evOps,Option.some.injEq,Prod.mk.injEq] at he
  exact h a (he.1 ▸ hs)
 | i :: is,os,ds,l,Γ,a,Γ',nd,ht,ho,hs,he,hn,hS,h => by
  unfold takes at ht
  unfold opsAt at ho
  split at ho
  ·rename_i o os' hi hos
   simp only [Option.some.injEq] at ho
   subst ho
   cases hb : (Region.free .any ops l i && (Region.ready .any ops l).contains i) with
   | false => simp only [hb,cond_false] at ht; cases ht
   | true =>
    simp only [hb,cond_true] at ht
    simp only [Bool.and_eq_true] at hb
    unfold evOps at he
    split at he
    ·rename_i Γ1 n1 h1
     split at he
     ·rename_i Γ2 n2 h2
      simp only [Option.some.injEq,Prod.mk.injEq] at he
      obtain ⟨rfl,rfl⟩ := he
      obtain ⟨u,hy,hs'⟩ := step1_ok (P := P) (S := S) hs (Region.noSelect_spec hsel i o · · hi) h1 (fun p hp => hn p (mL hp))
      have ih := anyB_pure hsel hQ is os' ds.tail _ Γ1 (a.put o.dst u) ht hos hs' h2 (fun p hp => hn p (mR hp)) hS h
      exact anyB_first hi (Region.noSelect_spec hsel) (fun c a w hq => hQ c a w _ _ hq) (fuel + is.length) l a w (Region.free_spec hi hb.1) (by simpa using hb.2) hy hS ih
     ·cases he
    ·cases he
  ·cases ho
end
def CfgB (C : Cx) (R Os O : List (Nat × Obj)) (Γ : Env) (ops : Array Oper) (fuel : Nat) (l : Array Bool) (ks : List KI) : Prop :=
 C.ro = none ∧ ∀ a w,St C.fn.ntmps C.D Γ a → HP C.w0 C.M R O w → anyB C.P ops (C.Q ks) (HP C.w0 C.M R Os) fuel l a w
def CfgJ (C : Cx) (R Os O : List (Nat × Obj)) (Γ : Env) (ops : Array Oper) (fuel : Nat) (l : Array Bool) (i : Nat) (ks : List KI) : Prop :=
 C.ro = none ∧ ∀ a w,St C.fn.ntmps C.D Γ a → HP C.w0 C.M R O w → wpOpIn (fen none) 0 C.P ops (C.Q ks) i (fun a' w' => HP C.w0 C.M R Os w' ∧ anyB C.P ops (C.Q ks) (HP C.w0 C.M R Os) fuel (l.setIfInBounds i true) a' w') a w
section
variable {C : Cx} {R O Os : List (Nat × Obj)} {Γ Γ' : Env} {ks ks' : List KI} {ops : Array Oper} {nd : (World → Prop) → List Prop} {fuel fuel' : Nat} {l l' : Array Bool}
theorem Cfg.begB {id : Nat} (hk : K.nrm 99 ks = .inl (.region id ops true) :: ks') (hm : C.P.follows .mixedOrders = true) (hro : C.ro = none) (Os : List (Nat × Obj)) (h : CfgB C R Os O Γ ops ops.size (Array.replicate ops.size false) ks') : Cfg C R O Γ ks := by
 refine Cfg.nrm ?_
 rw [hk]
 intro a w hs hp
 have h1 := wpIn_region_any (F := fen none) (n := 0) (id := id) hm (anyB_in _ _ _ _ (h.2 a _ hs hp.drew))
 rw [← hro] at h1
 exact h1
theorem CfgB.pure (is : List Nat) (ds : List Dir) (kp : Option (List Nat)) (ht : takes .any ops l is = some l') (ho0 : (opsAt ops is).isSome = true)
  (hO : Os.Sublist O) (fuel' : Nat) (hf : fuel = fuel' + is.length)
  (he : ∀ S,evR C S Γ ops ((opsAt ops is).getD []) ds kp = some (Γ',nd S)) (hn : All (nd (HP C.w0 C.M R Os))) (h : CfgB C R Os O Γ' ops fuel' l' ks) : CfgB C R Os O Γ ops fuel l ks := by
 refine ⟨h.1,?_⟩
 intro a w hs hp
 obtain ⟨hsel,Γ2,he2,hw⟩ := evR_some (he _)
 obtain ⟨os,ho⟩ := Option.isSome_iff_exists.1 ho0
 rw [ho,Option.getD_some] at he2
 rw [hf]
 exact anyB_pure (Q := C.Q ks) (w := w) hsel (panicOk C ks) is os ds l Γ a ht ho hs he2 hn.mem (hp.sub hO) (fun a' hs' => h.2 a' w (hw _ _ _ hs') hp)
theorem Eff.toI {o : Oper} {ι : Type} {V : ι → Value} {O' : ι → List (Nat × Obj)} {F : ι → Prop} (hn : ndf o = true) (h : Eff C R O Γ o ι V O' F) : EffI C R O Γ o ι V O' F :=
 fun a w hs hp Kt Q hK => wpIn_of_wp hn (h a w hs hp Kt Q hK)
theorem CfgJ.effI {i : Nat} {o : Oper} (ho : ops[i]? = some o) (hd : DstOk C.fn.ntmps o = true) (hg : guardV Γ ops o = guardW o)
  {ι : Type} {V : ι → Value} {O' : ι → LO} {F : ι → Prop} (hro : C.ro = none) (he : EffI C R O Γ o ι V O' F) (hO : ∀ x,F x → Os.Sublist (O' x))
  (h : ∀ x,F x → CfgB C R Os (O' x) (putO Γ o.dst (V x)) ops fuel (l.setIfInBounds i true) ks) : CfgJ C R Os O Γ ops fuel l i ks := by
 refine ⟨hro,?_⟩
 intro a w hs hp
 unfold wpOpIn
 simp only [ho,goes_wanted hs hg,if_true]
 have h1 := he a w hs hp (fun a' w' => HP C.w0 C.M R Os w' ∧ anyB C.P ops (C.Q ks) (HP C.w0 C.M R Os) fuel (l.setIfInBounds i true) a' w') (C.Q ks) (fun x w' hx hp' => ⟨hp'.sub (hO x hx),(h x hx).2 _ w' (putO_ok hs (DstOk.lt hd)) hp'⟩)
 rw [hro] at h1
 exact h1
theorem CfgJ.eff {i : Nat} {o : Oper} (ho : ops[i]? = some o) (hd : DstOk C.fn.ntmps o = true) (hg : guardV Γ ops o = guardW o)
  {ι : Type} {V : ι → Value} {O' : ι → LO} {F : ι → Prop} (he : Eff C R O Γ o ι V O' F) (hO : ∀ x,F x → Os.Sublist (O' x))
  (h : ∀ x,F x → CfgB C R Os (O' x) (putO Γ o.dst (V x)) ops fuel (l.setIfInBounds i true) ks) (hro : C.ro = none := by rfl) (hn : ndf o = true := by kernel_rfl) : CfgJ C R Os O Γ ops fuel l i ks :=
 CfgJ.effI ho hd hg hro (he.toI hn) hO h
theorem CfgB.of1 (i : Nat) (hr : Region.ready .any ops l = [i]) (hf : fuel = fuel' + 1) (h1 : CfgJ C R Os O Γ ops fuel' l i ks) : CfgB C R Os O Γ ops fuel l ks := by
 subst hf
 refine ⟨h1.1,?_⟩
 intro a w hs hp
 refine anyB_all hr (by simp) ?_
 intro k hk
 simp only [List.mem_cons,List.not_mem_nil,or_false] at hk
 subst hk
 exact h1.2 a w hs hp
theorem CfgB.two (i j : Nat) (hr : Region.ready .any ops l = [i,j]) (hf : fuel = fuel' + 1) (h1 : CfgJ C R Os O Γ ops fuel' l i ks) (h2 : CfgJ C R Os O Γ ops fuel' l j ks) : CfgB C R Os O Γ ops fuel l ks := by
 subst hf
 refine ⟨h1.1,?_⟩
 intro a w hs hp
 refine anyB_all hr (by simp) ?_
 intro k hk
 simp only [List.mem_cons,List.not_mem_nil,or_false] at hk
 rcases hk with rfl | rfl
 ·exact h1.2 a w hs hp
 ·exact h2.2 a w hs hp
theorem CfgB.eff (i : Nat) {o : Oper} (ho : ops[i]? = some o) (hr : Region.ready .any ops l = [i]) (hf : fuel = fuel' + 1) (hd : DstOk C.fn.ntmps o = true) (hg : guardV Γ ops o = guardW o)
  {ι : Type} {V : ι → Value} {O' : ι → LO} {F : ι → Prop} (he : Eff C R O Γ o ι V O' F) (hO : ∀ x,F x → Os.Sublist (O' x))
  (h : ∀ x,F x → CfgB C R Os (O' x) (putO Γ o.dst (V x)) ops fuel' (l.setIfInBounds i true) ks) (hro : C.ro = none := by rfl) (hn : ndf o = true := by kernel_rfl) : CfgB C R Os O Γ ops fuel l ks :=
 CfgB.of1 i hr hf (CfgJ.eff ho hd hg he hO h hro hn)
theorem CfgB.effI (i : Nat) {o : Oper} (ho : ops[i]? = some o) (hr : Region.ready .any ops l = [i]) (hf : fuel = fuel' + 1) (hd : DstOk C.fn.ntmps o = true) (hg : guardV Γ ops o = guardW o)
  {ι : Type} {V : ι → Value} {O' : ι → LO} {F : ι → Prop} (he : EffI C R O Γ o ι V O' F) (hO : ∀ x,F x → Os.Sublist (O' x))
  (h : ∀ x,F x → CfgB C R Os (O' x) (putO Γ o.dst (V x)) ops fuel' (l.setIfInBounds i true) ks) (hro : C.ro = none := by rfl) : CfgB C R Os O Γ ops fuel l ks :=
 CfgB.of1 i hr hf (CfgJ.effI ho hd hg hro he hO h)
theorem CfgB.done (hr : Region.ready .any ops l = []) (hro : C.ro = none) (h : Cfg C R O Γ ks) : CfgB C R Os O Γ ops fuel l ks :=
 ⟨hro,fun a w hs hp => anyB_done hr (h a w hs hp) fuel⟩
end
end K
end Go.Proofs.YtbeegepcdglcaaaGreatDoor
namespace Go.Proofs.YtbeegepcdglcaaaGreatDoor
open K
set_option linter.unusedVariables false
section
variable {m : PkM} {es : List En}
theorem pk_pb : (m.pb,Obj.cells (pkC m es.length) 60 (0,0)) ∈ pkM (some m) es := List.mem_append_left _ (List.mem_cons_self ..)
theorem pk_am : (m.am,Obj.map m.x.1 m.x.2) ∈ pkM (some m) es := List.mem_append_left _ (List.mem_cons_of_mem _ (List.mem_cons_self ..))
theorem pk_io : ∀ e ∈ Own.o 36 ((ids es).flatMap dgc) m.io,e ∈ pkM (some m) es := fun e he => List.mem_append_right _ (List.mem_append_left _ he)
theorem pk_tw : ∀ e ∈ Own.o 9 ((txs es).map Value.string) m.tw,e ∈ pkM (some m) es := fun e he => List.mem_append_right _ (List.mem_append_right _ (List.mem_append_left _ he))
theorem pk_dp : ∀ e ∈ Own.o 3 (dps es) m.dp,e ∈ pkM (some m) es := fun e he => List.mem_append_right _ (List.mem_append_right _ (List.mem_append_right _ (List.mem_append_left _ he)))
theorem txs_at {cs : Array Value} (hcs : ∀ j,j < ((txs es).map Value.string).length → cs[0 + j]? = some (((txs es).map Value.string).getD j undef)) {j : Nat} (hj : j < es.length) : cs[j]? = some (.string (es.getD j ez).t) := by
 have h := str_at (ts := txs es) hcs (j := j) (by unfold txs; rw [List.length_map]; exact hj)
 rw [h,getD_of _ hj,getD_of _ (by unfold txs; rw [List.length_map]; exact hj)]
 unfold txs
 rw [List.getElem_map]
theorem dps_at {cs : Array Value} (hcs : ∀ j,j < (dps es).length → cs[0 + j]? = some ((dps es).getD j undef)) {j : Nat} (hj : j < es.length) : cs[j]? = some (.int .i64 ((es.getD j ez).p : Int)) := by
 have hl : (dps es).length = es.length := by unfold dps; rw [List.length_map]
 have h := hcs j om
 rw [Nat.zero_add] at h
 rw [h,getD_of _ om,getD_of _ hj]
 unfold dps
 rw [List.getElem_map]
theorem ids_at (hl : ∀ e ∈ es,EnL e) {cs : Array Value} (hcs : ∀ j,j < ((ids es).flatMap dgc).length → cs[0 + j]? = some (((ids es).flatMap dgc).getD j undef)) {i : Nat} (hi : i < es.length) {j : Nat} {v : Value} (hv : (dgc (es.getD i ez).id)[j]? = some v) : cs[i * 32 + j]? = some v := by
 have hd : ∀ d ∈ ids es,(dgc d).length = 32 := fun d hd => by
  obtain ⟨e,he,rfl⟩ := List.mem_map.1 hd
  exact dgc_len (hl e he).id
 have hfl : ((ids es).flatMap dgc).length = (ids es).length * 32 := flat_len hd
 have hil : (ids es).length = es.length := List.length_map ..
 have h := fl_cell (f := dgc) (sz := 32) (l := ids es) [] hd (off := 0) (cs := cs) (fun j hj => hcs j (by rw [hfl]; exact hj)) (i := i) om (j := j) (v := v) (by
  rw [getD_of _ om]
  rw [getD_of _ hi] at hv
  unfold ids
  rw [List.getElem_map]; exact hv)
 rwa [Nat.zero_add] at h
end
set_option maxRecDepth 100000 in
set_option maxHeartbeats 8000000 in
theorem pkLen (m : PkM) (es : List En) (Rl : List (Nat × Obj)) (w : World) (hm : PkOk m es) (hl : ∀ e ∈ es,EnL e) (hA : ∀ e ∈ pkM (some m) es,e ∈ Rl) (hR : Has w Rl) (hn : es.length ≤ 1000000) :
  Calls Tryz.prog 14 #[.pointer (some ⟨m.pb,0,none⟩)] w fun e w' => e = .returned (.int .i64 (es.length : Int)) ∧ Ext [] w w' := by
 refine enter (vs := [.pointer (some ⟨m.pb,0,none⟩)]) [] Rl [] Tryz.func14 rfl kr (HP.ofHas hR) ?_
 refine Rg [0] [] n0 trivial ?_
 refine Rg [0,4] [] n0 trivial ?_
 refine Cfg.condF rfl (b := false) kr rfl ?_
 refine Rg [2] [dZ,dZ,dZ,(dS (.slice (Own.a m.io) es.length (Own.c m.io)))] (fun S => [(∀ w1,S w1 → w1.cell? ⟨m.pb,0,none⟩ = some (.slice (Own.a m.io) es.length (Own.c m.io)))]) ⟨(fun w1 h => (cell_cells (h.ro _ (hA _ pk_pb))).trans rfl),trivial⟩ ?_
 refine Cfg.ret rfl (rs := [.tmp 2]) rfl [.int .i64 (es.length : Int)] ⟨kr,trivial⟩ (fun w1 hp => ?_)
 exact ⟨rfl,hp.ext⟩
set_option maxRecDepth 100000 in
set_option maxHeartbeats 8000000 in
theorem pkGet (m : PkM) (es : List En) (Rl : List (Nat × Obj)) (d : List UInt8) (j : Nat) (w : World) (hm : PkOk m es) (hl : ∀ e ∈ es,EnL e) (hA : ∀ e ∈ pkM (some m) es,e ∈ Rl) (hR : Has w Rl) (hn : es.length ≤ 1000000) (hd : d.length = 32) (hj : atF (ids es) d = some j) :
  Calls Tryz.prog 27 #[.pointer (some ⟨m.pb,0,none⟩),.agg (bv d)] w fun e w' => e = .returned (.tuple #[.string (es.getD j ez).t,.bool true]) ∧ Ext [] w w' := by
 obtain ⟨W,hW1,hW2⟩ := hm.at_
 have hjl := atF_lt hj
 have hil : (ids es).length = es.length := List.length_map ..
 obtain ⟨s1,scs,hsa,hsm,hsc⟩ := own_at (e := 9) hm.tw om
 refine enter (vs := [.pointer (some ⟨m.pb,0,none⟩),.agg (bv d)]) [] Rl [] Tryz.func27 rfl kr (HP.ofHas hR) ?_
 refine Cfg.begL rfl ?_
 refine Le (Eff.box (v := .agg (bv d)) rfl kr) ?_
 rintro db ⟨hdb,ndb⟩
 refine Lp 2 [] (some [0,3]) n0 trivial ?_
 refine CfgL.done rfl ?_
 refine Rg [0,3,9] [] n0 trivial ?_
 refine Cfg.condF rfl (b := false) kr rfl ?_
 refine Cfg.begA rfl kr [(db,.cells (bv d) 36 (0,0))] ?_
 refine Ap [0,1,2,3,4] [dZ,dZ,dZ,(dS (.map (some m.am))),(dS (.agg (bv d)))] (some [0,14,15]) (tF 5 6) (.cons_cons _ .slnil) 6 (fun S => [(∀ w1,S w1 → w1.cell? ⟨m.pb,3,none⟩ = some (.map (some m.am))),(∀ w1,S w1 → (loadVar 36 ⟨db,0,none⟩).run Tryz.prog w1 = .ok (.agg (bv d)) w1)]) ⟨(fun w1 h => (cell_cells (h.ro _ (hA _ pk_pb))).trans rfl),(fun w1 h => h.oload 0 rfl Tryz.underlying36 rfl (n := 32) kr ((bv_size _).trans hd)),trivial⟩ ?_
 refine Ae 5 rfl 5  (Eff.atGet (r := m.am) (k := d) (l := ids es) (es := m.x.1) (ck := m.x.2) rfl Tryz.underlying56 pKey hd kr kr kr hW1 hW2 (fun w1 h => h.ro _ (hA _ pk_am)) (j := j) (b := true) (.inl ⟨hj,rfl⟩)) (fun _ _ => (.cons_cons _ .slnil)) ?_
 rintro ⟨⟩ -
 refine Ap [6,7,8,9,10] [] (some [0,6,7]) (tF 11 0) (.cons_cons _ .slnil) 0 n0 trivial ?_
 refine CfgA.done kr ?_
 refine Rg [0,6,20] [] n0 trivial ?_
 refine Cfg.condF rfl (b := false) kr rfl ?_
 refine Rg [4,5] [dZ,dZ,dZ,(dS (.slice (some ⟨s1,0,none⟩) es.length (Own.c m.tw))),dZ,dZ,(dS (.string (es.getD j ez).t))] (fun S => [(∀ w1,S w1 → w1.cell? ⟨m.pb,1,none⟩ = some (.slice (some ⟨s1,0,none⟩) es.length (Own.c m.tw))),(0 ≤ (j : Int) ∧ (j : Int) < (es.length : Int)),(cE S s1 j (.string (es.getD j ez).t))]) ⟨(fun w1 h => (cell_cells (h.ro _ (hA _ pk_pb))).trans (by rw [pkC,hsa]; rfl)),om,(fun w1 h => (cell_cells (h.ro _ (hA _ (pk_tw _ hsm)))).trans (txs_at hsc om)),trivial⟩ ?_
 refine Cfg.ret rfl (rs := [.tmp 4,.tmp 5]) rfl [.string (es.getD j ez).t,.bool true] ⟨kr,by kernel_rfl,trivial⟩ (fun w1 hp => ?_)
 exact ⟨rfl,hp.ext⟩
set_option maxRecDepth 100000 in
set_option maxHeartbeats 8000000 in
theorem pkDepth (m : PkM) (es : List En) (Rl : List (Nat × Obj)) (d : List UInt8) (j : Nat) (w : World) (hm : PkOk m es) (hl : ∀ e ∈ es,EnL e) (hA : ∀ e ∈ pkM (some m) es,e ∈ Rl) (hR : Has w Rl) (hn : es.length ≤ 1000000) (hd : d.length = 32) (hj : atF (ids es) d = some j) :
  Calls Tryz.prog 26 #[.pointer (some ⟨m.pb,0,none⟩),.agg (bv d)] w fun e w' => e = .returned (.int .i64 ((es.getD j ez).p : Int)) ∧ Ext [] w w' := by
 obtain ⟨W,hW1,hW2⟩ := hm.at_
 have hjl := atF_lt hj
 have hil : (ids es).length = es.length := List.length_map ..
 obtain ⟨s1,scs,hsa,hsm,hsc⟩ := own_at (e := 3) hm.dp om
 refine enter (vs := [.pointer (some ⟨m.pb,0,none⟩),.agg (bv d)]) [] Rl [] Tryz.func26 rfl kr (HP.ofHas hR) ?_
 refine Cfg.begL rfl ?_
 refine Le (Eff.box (v := .agg (bv d)) rfl kr) ?_
 rintro db ⟨hdb,ndb⟩
 refine Lp 1 [] (some [0,3]) n0 trivial ?_
 refine CfgL.done rfl ?_
 refine Rg [0,3,8] [] n0 trivial ?_
 refine Cfg.condF rfl (b := false) kr rfl ?_
 refine Cfg.begA rfl kr [(db,.cells (bv d) 36 (0,0))] ?_
 refine Ap [0,1,2,3,4] [dZ,dZ,dZ,(dS (.map (some m.am))),(dS (.agg (bv d)))] (some [0,13,14]) (tF 5 6) (.cons_cons _ .slnil) 6 (fun S => [(∀ w1,S w1 → w1.cell? ⟨m.pb,3,none⟩ = some (.map (some m.am))),(∀ w1,S w1 → (loadVar 36 ⟨db,0,none⟩).run Tryz.prog w1 = .ok (.agg (bv d)) w1)]) ⟨(fun w1 h => (cell_cells (h.ro _ (hA _ pk_pb))).trans rfl),(fun w1 h => h.oload 0 rfl Tryz.underlying36 rfl (n := 32) kr ((bv_size _).trans hd)),trivial⟩ ?_
 refine Ae 5 rfl 5  (Eff.atGet (r := m.am) (k := d) (l := ids es) (es := m.x.1) (ck := m.x.2) rfl Tryz.underlying56 pKey hd kr kr kr hW1 hW2 (fun w1 h => h.ro _ (hA _ pk_am)) (j := j) (b := true) (.inl ⟨hj,rfl⟩)) (fun _ _ => (.cons_cons _ .slnil)) ?_
 rintro ⟨⟩ -
 refine Ap [6,7,8,9,10] [] (some [0,5,6]) (tF 11 0) (.cons_cons _ .slnil) 0 n0 trivial ?_
 refine CfgA.done kr ?_
 refine Rg [0,5,19] [] n0 trivial ?_
 refine Cfg.condF rfl (b := false) kr rfl ?_
 refine Rg [4] [dZ,dZ,dZ,(dS (.slice (some ⟨s1,0,none⟩) es.length (Own.c m.dp))),dZ,dZ,(dS (.int .i64 ((es.getD j ez).p : Int)))] (fun S => [(∀ w1,S w1 → w1.cell? ⟨m.pb,2,none⟩ = some (.slice (some ⟨s1,0,none⟩) es.length (Own.c m.dp))),(0 ≤ (j : Int) ∧ (j : Int) < (es.length : Int)),(cE S s1 j (.int .i64 ((es.getD j ez).p : Int)))]) ⟨(fun w1 h => (cell_cells (h.ro _ (hA _ pk_pb))).trans (by rw [pkC,hsa]; rfl)),om,(fun w1 h => (cell_cells (h.ro _ (hA _ (pk_dp _ hsm)))).trans (dps_at hsc om)),trivial⟩ ?_
 refine Cfg.ret rfl (rs := [.tmp 4]) rfl [.int .i64 ((es.getD j ez).p : Int)] ⟨kr,trivial⟩ (fun w1 hp => ?_)
 exact ⟨rfl,hp.ext⟩
set_option maxRecDepth 100000 in
theorem pkTexts (q : Option Addr) (w : World) :
  Calls Tryz.prog 25 #[.pointer q] w fun e w' => ∃ tb : Nat,True ∧ e = .returned (.func (.func 61) #[] #[.pointer (some ⟨tb,0,none⟩)]) ∧ w.heap.size ≤ tb ∧ w'.heap[tb]? = some (.cells #[.pointer q] 29 (0,0)) ∧ Ext [] w w' := by
 refine enter (vs := [.pointer q]) [] [] [] Tryz.func25 rfl kr (HP.start w) ?_
 refine Cfg.begL rfl ?_
 refine Le (Eff.box (v := .pointer q) rfl kr) ?_
 rintro tb ⟨htb,ntb⟩
 refine Lp 1 [] (some [1]) n0 trivial ?_
 refine CfgL.done rfl ?_
 refine Rg [2] [] n0 trivial ?_
 refine Cfg.ret rfl (rs := [.tmp 2]) rfl [.func (.func 61) #[] #[pT tb]] ⟨kr,trivial⟩ (fun w1 hp => ?_)
 exact ⟨tb,trivial,rfl,htb,hp.own (tb,_) mH,hp.ext⟩
set_option maxRecDepth 100000 in
set_option maxHeartbeats 8000000 in
theorem pkIt0 (l dr tb : Nat) (fi : FuncId) (T : Array Value) (ps : Array Tmp) (assign body : Code) (m : PkM) (es : List En) (σ : Type) (A : σ → List (Nat × Obj)) (J : List En → σ → Prop) (s0 : σ) (p : En → Bool) (w : World) (hm : PkOk m es) (hl : ∀ e ∈ es,EnL e) (hn : es.length ≤ 1000000) (hps : ps.size = 2) (hJ : J [] s0) (hA : Has w (A s0)) (hd : ((A s0).map (·.1)).Nodup) (hmem : ∀ pre x,(∀ y ∈ pre,p y = true) → J pre x → (∀ e ∈ ((tb,Obj.cells #[.pointer (some ⟨m.pb,0,none⟩)] 29 (0,0)) :: pkM (some m) es),e ∈ A x) ∧ (l,Obj.loop (rec0 fi T ps assign body dr .ready none)) ∈ A x) (hy : ∀ pre x (a : En) rest,(∀ y ∈ pre,p y = true) → J pre x → es = pre ++ a :: rest → ∀ w,Has w (A x) → ((A x).map (·.1)).Nodup → RoundIn Fence.wide 0 Tryz.prog l fi ((ps.zip #[(fun (x : En) => Value.agg (bv x.id)) a,(fun (x : En) => Value.string x.t) a]).foldl (fun tmps (t,a) => tmps.setIfInBounds t a) T) assign body w fun e w' => ∃ y,J (pre ++ [a]) y ∧ e = .returned (.bool (p a)) ∧ ∃ R1,HP w ((A x).map (·.1)) R1 (A y) w') :
  Calls Tryz.prog 61 #[.func (.yield l) #[] #[],.pointer (some ⟨tb,0,none⟩)] w fun e w' => ∃ y,J (vis p es) y ∧ e = .returned (.tuple #[]) ∧ ∃ R1,HP w ((A s0).map (·.1)) R1 (A y) w' := by
 refine enter (vs := [.func (.yield l) #[] #[],pT tb]) ((A s0).map (·.1)) [] ([] ++ (A s0 ++ [])) Tryz.func61 rfl kr (by have h0 := HP.ofL hA hd (R := []) (fun e he => by cases he) (fun e he => by cases he); simpa using h0) ?_
 refine Rg [0,1,6] [(dS (.pointer (some ⟨m.pb,0,none⟩)))] (fun S => [(cE S tb 0 (.pointer (some ⟨m.pb,0,none⟩)))]) ⟨(fun w1 h => cell_cells (h.own _ (show _ ∈ (([] ++ (A s0 ++ [])) : LO) from (mR (mL ((hmem [] s0 (fun x hx => by cases hx) hJ).1 _ mH)))))),trivial⟩ ?_
 refine Cfg.condF rfl (b := false) kr rfl ?_
 refine Rg [0,1,10,11,12] [(dS (.pointer (some ⟨m.pb,0,none⟩))),dZ,dZ,(dS (.slice (Own.a m.io) es.length (Own.c m.io)))] (fun S => [(cE S tb 0 (.pointer (some ⟨m.pb,0,none⟩))),(∀ w1,S w1 → w1.cell? ⟨m.pb,0,none⟩ = some (.slice (Own.a m.io) es.length (Own.c m.io)))]) ⟨(fun w1 h => cell_cells (h.own _ (show _ ∈ (([] ++ (A s0 ++ [])) : LO) from (mR (mL ((hmem [] s0 (fun x hx => by cases hx) hJ).1 _ mH)))))),(fun w1 h => (cell_cells (h.own _ (show _ ∈ (([] ++ (A s0 ++ [])) : LO) from (mR (mL ((hmem [] s0 (fun x hx => by cases hx) hJ).1 _ (List.mem_cons_of_mem _ pk_pb))))))).trans rfl),trivial⟩ ?_
 refine Cfg.loop rfl (ι := Nat × List En × σ) (fun (xz : Nat × List En × σ) => match xz with | (k,pre,x) => [(12,[],.int .i64 (k : Int)),(11,[],.int .i64 (es.length : Int)),(10,[],.slice (Own.a m.io) es.length (Own.c m.io)),(0,[],.func (.yield l) #[] #[]),(1,[],pT tb)]) (fun (xz : Nat × List En × σ) => match xz with | (k,pre,x) => ([] ++ (A x ++ []))) (fun (xz : Nat × List En × σ) => match xz with | (k,pre,x) => (k ≤ es.length) ∧ (es = pre ++ es.drop k) ∧ (∀ x ∈ pre,p x = true) ∧ (J pre x)) (fun (xz : Nat × List En × σ) => match xz with | (k,pre,x) => es.length - k) (0,[],s0) ?_ (Conv.mk kr) slr ?_
 ·exact ⟨Nat.zero_le _,rfl,(fun x hx => by cases hx),hJ⟩
 ·rintro ⟨k,pre,x⟩ ⟨hk,hR,hal,hJx⟩
  refine Rg [0,1,10,11,12,13] [] n0 trivial ?_
  refine Cfg.cond rfl (b := (decide ((k : Int) < (es.length : Int)))) kr (fun c2r => ?_) (fun c2r => ?_)
  ·have c2 := (dT c2r)
   obtain ⟨b1,bcs,hba,hbm,hbc⟩ := own_at (e := 36) hm.io om
   obtain ⟨s1,scs,hsa,hsm,hsc⟩ := own_at (e := 9) hm.tw om
   obtain ⟨xe,hxe⟩ : ∃ q,q = es.getD k ez := ⟨_,rfl⟩
   have hxl : EnL xe := by rw [hxe]; exact hl _ (K.getD_mem om)
   have hR2 : es = pre ++ xe :: es.drop (k + 1) := by rw [hxe,getD_of _ om,← List.drop_eq_getElem_cons om]; exact hR
   refine Cfg.setS 10 (congrArg (fun (xq : Value) => (xq : Value)) (show .slice (Own.a m.io) es.length (Own.c m.io) = .slice (some ⟨b1,0,none⟩) es.length (Own.c m.io) from by rw [hba])) ?_
   refine Cfg.begL rfl ?_
   refine Lp 3 [dZ,dZ,(dS (.agg (bv xe.id)))] (some [0,1,10,11,12,14,16]) (fun S => [(0 ≤ (k : Int) ∧ (k : Int) < (es.length : Int)),(∀ w1,S w1 → (loadVar 36 ⟨b1,(k * 32),none⟩).run Tryz.prog w1 = .ok (.agg (bv xe.id)) w1)]) ⟨om,(fun w1 h => load_list (vs := dgc xe.id) Tryz.underlying36 rfl kr (dgc_len hxl.id) (fun q9 v hq9 => (cell_cells (h.own _ (show _ ∈ (([] ++ (A x ++ [])) : LO) from (mR (mL ((hmem pre x hal hJx).1 _ (List.mem_cons_of_mem _ (pk_io _ hbm)))))))).trans (ids_at hl hbc om (by rw [← hxe]; exact hq9)))),trivial⟩ ?_
   refine Le (Eff.alloc (z := (.agg (bv (List.replicate 32 0)))) rfl kr) ?_
   rintro db ⟨hdb,ndb⟩
   refine Lp 1 [] (some [0,1,3,4,10,11,12,16]) n0 trivial ?_
   refine Le (Eff.storeN (b := db) (off := 0) (vs := (bv xe.id)) (n := 32) rfl kr kr kr ((bv_size _).trans hxl.id) (all_bv _) 0 (cs := (bv (List.replicate 32 0))) (e := 36) kr (by rw [zdg_size]; omega)) ?_
   rintro ⟨⟩ -
   refine CfgL.setO (congrArg (fun (xq : Array Value) => (([(db,.cells xq 36 (0,0))] ++ (A x ++ [])) : LO)) (show _ = (bv xe.id) from spl_all (((bv_size _).trans hxl.id).trans zdg_size.symm))) ?_
   refine CfgL.done rfl ?_
   refine Cg (Γ' := [(3,[],.int .i64 (k : Int)),(4,[],pT db),(12,[],.int .i64 (k : Int)),(11,[],.int .i64 (es.length : Int)),(10,[],.slice (some ⟨b1,0,none⟩) es.length (Own.c m.io)),(0,[],.func (.yield l) #[] #[]),(1,[],pT tb)]) ?_
   refine Cfg.begB rfl kr rfl [] ?_
   refine CfgB.pure [0,6] [] (some [0,1,4,10,11,12,17,23]) (l' := (bF 65 11)) kr kr (.cons _ (List.nil_sublist _)) 9 rfl (Γ' := [(23,[],.int .i64 (k : Int)),(17,[],.func (.yield l) #[] #[]),(4,[],pT db),(12,[],.int .i64 (k : Int)),(11,[],.int .i64 (es.length : Int)),(10,[],.slice (some ⟨b1,0,none⟩) es.length (Own.c m.io)),(0,[],.func (.yield l) #[] #[]),(1,[],pT tb)]) (nd := (fun _ => [])) (fun _ => kr) trivial ?_
   refine CfgB.two 1 2 kr (fuel' := 8) rfl ?_ ?_
   ·
    refine CfgJ.eff (o := _) rfl kr kr (Eff.quiet (raw := false) (orc := some (.agg (bv xe.id))) (v := .agg (bv xe.id)) (nd := (fun S => [(∀ w1,S w1 → (loadVar 36 ⟨db,0,none⟩).run Tryz.prog w1 = .ok (.agg (bv xe.id)) w1)])) (fun _ => kr) ⟨(fun w1 h => h.oload 0 rfl Tryz.underlying36 rfl (n := 32) kr ((bv_size _).trans hxl.id)),trivial⟩ kr) (fun _ _ => List.nil_sublist _) ?_
    rintro ⟨⟩ -
    refine CfgB.eff 2 (o := _) rfl kr (fuel' := 7) rfl kr kr (Eff.quiet (raw := false) (orc := some (.pointer (some ⟨m.pb,0,none⟩))) (v := .pointer (some ⟨m.pb,0,none⟩)) (nd := (fun S => [(cE S tb 0 (.pointer (some ⟨m.pb,0,none⟩)))])) (fun _ => kr) ⟨(fun w1 h => cell_cells (h.own _ (show _ ∈ (([(db,Obj.cells (bv xe.id) 36 (0,0))] ++ (A x ++ [])) : LO) from (mR (mL ((hmem pre x hal hJx).1 _ mH)))))),trivial⟩ kr) (fun _ _ => List.nil_sublist _) ?_
    rintro ⟨⟩ -
    refine CfgB.pure [3,4] [] (some [0,1,10,11,12,17,18,21,23]) (l' := (bF 95 11)) kr kr (.cons _ (List.nil_sublist _)) 5 rfl (Γ' := [(21,[],.pointer (some ⟨m.pb,1,none⟩)),(18,[],.agg (bv xe.id)),(23,[],.int .i64 (k : Int)),(17,[],.func (.yield l) #[] #[]),(12,[],.int .i64 (k : Int)),(11,[],.int .i64 (es.length : Int)),(10,[],.slice (some ⟨b1,0,none⟩) es.length (Own.c m.io)),(0,[],.func (.yield l) #[] #[]),(1,[],pT tb)]) (nd := (fun _ => [])) (fun _ => kr) trivial ?_
    refine CfgB.eff 5 (o := _) rfl kr (fuel' := 4) rfl kr kr (Eff.quiet (raw := false) (orc := some (.slice (some ⟨s1,0,none⟩) es.length (Own.c m.tw))) (v := .slice (some ⟨s1,0,none⟩) es.length (Own.c m.tw)) (nd := (fun S => [(∀ w1,S w1 → w1.cell? ⟨m.pb,1,none⟩ = some (.slice (some ⟨s1,0,none⟩) es.length (Own.c m.tw)))])) (fun _ => kr) ⟨(fun w1 h => (cell_cells (h.own _ (show _ ∈ (([(db,Obj.cells (bv xe.id) 36 (0,0))] ++ (A x ++ [])) : LO) from (mR (mL ((hmem pre x hal hJx).1 _ (List.mem_cons_of_mem _ pk_pb))))))).trans (by rw [pkC,hsa]; rfl)),trivial⟩ kr) (fun _ _ => List.nil_sublist _) ?_
    rintro ⟨⟩ -
    refine CfgB.pure [7] [] (some [0,1,10,11,12,17,18,24]) (l' := tF 8 3) kr kr (.cons _ (List.nil_sublist _)) 3 rfl (Γ' := [(24,[],.pointer (some ⟨s1,k,none⟩)),(18,[],.agg (bv xe.id)),(17,[],.func (.yield l) #[] #[]),(12,[],.int .i64 (k : Int)),(11,[],.int .i64 (es.length : Int)),(10,[],.slice (some ⟨b1,0,none⟩) es.length (Own.c m.io)),(0,[],.func (.yield l) #[] #[]),(1,[],pT tb)]) (nd := (fun _ => [(0 ≤ (k : Int) ∧ (k : Int) < (es.length : Int))])) (fun _ => kr) ⟨om,trivial⟩ ?_
    refine CfgB.eff 8 (o := _) rfl kr (fuel' := 2) rfl kr kr (Eff.quiet (raw := false) (orc := some (.string xe.t)) (v := .string xe.t) (nd := (fun S => [(cE S s1 k (.string xe.t))])) (fun _ => kr) ⟨(fun w1 h => by rw [hxe]; exact (cell_cells (h.own _ (show _ ∈ (([(db,Obj.cells (bv xe.id) 36 (0,0))] ++ (A x ++ [])) : LO) from (mR (mL ((hmem pre x hal hJx).1 _ (List.mem_cons_of_mem _ (pk_tw _ hsm)))))))).trans (txs_at hsc om)),trivial⟩ kr) (fun _ _ => List.nil_sublist _) ?_
    rintro ⟨⟩ -
    refine CfgB.effI 9 (o := _) rfl kr (fuel' := 1) rfl kr kr (EffI.yield (ι := σ) (vs := [.agg (bv xe.id),.string xe.t]) (fun _ => .bool (p xe)) (A x) (fun y => A y) (fun y => J (pre ++ [xe]) y) [(db,.cells (bv xe.id) 36 (0,0))] [] rfl rfl kr kr hps.symm (hmem pre x hal hJx).2 (fun w1 hh hdn => hy pre x xe _ hal hJx hR2 w1 hh hdn)) (fun _ _ => List.nil_sublist _) ?_
    rintro y hJy
    refine CfgB.pure [10] [] (some [0,1,10,11,12,27]) (l' := tF 11 0) kr kr (.cons _ (List.nil_sublist _)) 0 rfl (Γ' := [(27,[],.bool (!(p xe))),(12,[],.int .i64 (k : Int)),(11,[],.int .i64 (es.length : Int)),(10,[],.slice (some ⟨b1,0,none⟩) es.length (Own.c m.io)),(0,[],.func (.yield l) #[] #[]),(1,[],pT tb)]) (nd := (fun _ => [])) (fun _ => kr) trivial ?_
    refine CfgB.done kr rfl ?_
    refine Cfg.cond rfl (b := (!(p xe))) kr (fun c3r => ?_) (fun c3r => ?_)
    ·have c3 : ((p xe) = false) := (notT c3r)
     refine Cfg.ret rfl (rs := []) rfl [] trivial (fun w1 hp => ?_)
     have hv : vis p es = pre ++ [xe] := by rw [hR2]; exact vis_stop hal (by simpa using c3)
     rw [hv]
     have h3 := hp.sub (show List.Sublist (A y) _ from (List.sublist_append_left _ _).trans (List.sublist_append_right _ _))
     exact ⟨y,hJy,rfl,_,h3⟩
    ·have c3 : ((p xe) = true) := (notF c3r)
     refine Rg [0,1,10,11,12] [] (fun _ => [(i6 ((k : Int) + 1))]) ⟨om,trivial⟩ ?_
     refine Cfg.setS 10 (congrArg (fun (xq : Value) => (xq : Value)) (show .slice (some ⟨b1,0,none⟩) es.length (Own.c m.io) = .slice (Own.a m.io) es.length (Own.c m.io) from by rw [hba])) ?_
     refine Cfg.again rfl (k + 1,pre ++ [xe],y) ⟨by omega,by rw [List.append_assoc]; exact hR2,fun x hx => (List.mem_append.1 hx).elim (hal x) (fun h => by rw [List.mem_singleton.1 h]; simpa using c3),hJy⟩ (by show es.length - (k + 1) < es.length - k; omega) (Conv.mk kr) (.cons _ slr)
   ·
    refine CfgJ.eff (o := _) rfl kr kr (Eff.quiet (raw := false) (orc := some (.pointer (some ⟨m.pb,0,none⟩))) (v := .pointer (some ⟨m.pb,0,none⟩)) (nd := (fun S => [(cE S tb 0 (.pointer (some ⟨m.pb,0,none⟩)))])) (fun _ => kr) ⟨(fun w1 h => cell_cells (h.own _ (show _ ∈ (([(db,Obj.cells (bv xe.id) 36 (0,0))] ++ (A x ++ [])) : LO) from (mR (mL ((hmem pre x hal hJx).1 _ mH)))))),trivial⟩ kr) (fun _ _ => List.nil_sublist _) ?_
    rintro ⟨⟩ -
    refine CfgB.pure [3,4] [] (some [0,1,4,10,11,12,17,21,23]) (l' := (bF 93 11)) kr kr (.cons _ (List.nil_sublist _)) 6 rfl (Γ' := [(21,[],.pointer (some ⟨m.pb,1,none⟩)),(23,[],.int .i64 (k : Int)),(17,[],.func (.yield l) #[] #[]),(4,[],pT db),(12,[],.int .i64 (k : Int)),(11,[],.int .i64 (es.length : Int)),(10,[],.slice (some ⟨b1,0,none⟩) es.length (Own.c m.io)),(0,[],.func (.yield l) #[] #[]),(1,[],pT tb)]) (nd := (fun _ => [])) (fun _ => kr) trivial ?_
    refine CfgB.two 1 5 kr (fuel' := 5) rfl ?_ ?_
    ·
     refine CfgJ.eff (o := _) rfl kr kr (Eff.quiet (raw := false) (orc := some (.agg (bv xe.id))) (v := .agg (bv xe.id)) (nd := (fun S => [(∀ w1,S w1 → (loadVar 36 ⟨db,0,none⟩).run Tryz.prog w1 = .ok (.agg (bv xe.id)) w1)])) (fun _ => kr) ⟨(fun w1 h => h.oload 0 rfl Tryz.underlying36 rfl (n := 32) kr ((bv_size _).trans hxl.id)),trivial⟩ kr) (fun _ _ => List.nil_sublist _) ?_
     rintro ⟨⟩ -
     refine CfgB.eff 5 (o := _) rfl kr (fuel' := 4) rfl kr kr (Eff.quiet (raw := false) (orc := some (.slice (some ⟨s1,0,none⟩) es.length (Own.c m.tw))) (v := .slice (some ⟨s1,0,none⟩) es.length (Own.c m.tw)) (nd := (fun S => [(∀ w1,S w1 → w1.cell? ⟨m.pb,1,none⟩ = some (.slice (some ⟨s1,0,none⟩) es.length (Own.c m.tw)))])) (fun _ => kr) ⟨(fun w1 h => (cell_cells (h.own _ (show _ ∈ (([(db,Obj.cells (bv xe.id) 36 (0,0))] ++ (A x ++ [])) : LO) from (mR (mL ((hmem pre x hal hJx).1 _ (List.mem_cons_of_mem _ pk_pb))))))).trans (by rw [pkC,hsa]; rfl)),trivial⟩ kr) (fun _ _ => List.nil_sublist _) ?_
     rintro ⟨⟩ -
     refine CfgB.pure [7] [] (some [0,1,10,11,12,17,18,24]) (l' := tF 8 3) kr kr (.cons _ (List.nil_sublist _)) 3 rfl (Γ' := [(24,[],.pointer (some ⟨s1,k,none⟩)),(18,[],.agg (bv xe.id)),(17,[],.func (.yield l) #[] #[]),(12,[],.int .i64 (k : Int)),(11,[],.int .i64 (es.length : Int)),(10,[],.slice (some ⟨b1,0,none⟩) es.length (Own.c m.io)),(0,[],.func (.yield l) #[] #[]),(1,[],pT tb)]) (nd := (fun _ => [(0 ≤ (k : Int) ∧ (k : Int) < (es.length : Int))])) (fun _ => kr) ⟨om,trivial⟩ ?_
     refine CfgB.eff 8 (o := _) rfl kr (fuel' := 2) rfl kr kr (Eff.quiet (raw := false) (orc := some (.string xe.t)) (v := .string xe.t) (nd := (fun S => [(cE S s1 k (.string xe.t))])) (fun _ => kr) ⟨(fun w1 h => by rw [hxe]; exact (cell_cells (h.own _ (show _ ∈ (([(db,Obj.cells (bv xe.id) 36 (0,0))] ++ (A x ++ [])) : LO) from (mR (mL ((hmem pre x hal hJx).1 _ (List.mem_cons_of_mem _ (pk_tw _ hsm)))))))).trans (txs_at hsc om)),trivial⟩ kr) (fun _ _ => List.nil_sublist _) ?_
     rintro ⟨⟩ -
     refine CfgB.effI 9 (o := _) rfl kr (fuel' := 1) rfl kr kr (EffI.yield (ι := σ) (vs := [.agg (bv xe.id),.string xe.t]) (fun _ => .bool (p xe)) (A x) (fun y => A y) (fun y => J (pre ++ [xe]) y) [(db,.cells (bv xe.id) 36 (0,0))] [] rfl rfl kr kr hps.symm (hmem pre x hal hJx).2 (fun w1 hh hdn => hy pre x xe _ hal hJx hR2 w1 hh hdn)) (fun _ _ => List.nil_sublist _) ?_
     rintro y hJy
     refine CfgB.pure [10] [] (some [0,1,10,11,12,27]) (l' := tF 11 0) kr kr (.cons _ (List.nil_sublist _)) 0 rfl (Γ' := [(27,[],.bool (!(p xe))),(12,[],.int .i64 (k : Int)),(11,[],.int .i64 (es.length : Int)),(10,[],.slice (some ⟨b1,0,none⟩) es.length (Own.c m.io)),(0,[],.func (.yield l) #[] #[]),(1,[],pT tb)]) (nd := (fun _ => [])) (fun _ => kr) trivial ?_
     refine CfgB.done kr rfl ?_
     refine Cfg.cond rfl (b := (!(p xe))) kr (fun c4r => ?_) (fun c4r => ?_)
     ·have c4 : ((p xe) = false) := (notT c4r)
      refine Cfg.ret rfl (rs := []) rfl [] trivial (fun w1 hp => ?_)
      have hv : vis p es = pre ++ [xe] := by rw [hR2]; exact vis_stop hal (by simpa using c4)
      rw [hv]
      have h3 := hp.sub (show List.Sublist (A y) _ from (List.sublist_append_left _ _).trans (List.sublist_append_right _ _))
      exact ⟨y,hJy,rfl,_,h3⟩
     ·have c4 : ((p xe) = true) := (notF c4r)
      refine Rg [0,1,10,11,12] [] (fun _ => [(i6 ((k : Int) + 1))]) ⟨om,trivial⟩ ?_
      refine Cfg.setS 10 (congrArg (fun (xq : Value) => (xq : Value)) (show .slice (some ⟨b1,0,none⟩) es.length (Own.c m.io) = .slice (Own.a m.io) es.length (Own.c m.io) from by rw [hba])) ?_
      refine Cfg.again rfl (k + 1,pre ++ [xe],y) ⟨by omega,by rw [List.append_assoc]; exact hR2,fun x hx => (List.mem_append.1 hx).elim (hal x) (fun h => by rw [List.mem_singleton.1 h]; simpa using c4),hJy⟩ (by show es.length - (k + 1) < es.length - k; omega) (Conv.mk kr) (.cons _ slr)
    ·
     refine CfgJ.eff (o := _) rfl kr kr (Eff.quiet (raw := false) (orc := some (.slice (some ⟨s1,0,none⟩) es.length (Own.c m.tw))) (v := .slice (some ⟨s1,0,none⟩) es.length (Own.c m.tw)) (nd := (fun S => [(∀ w1,S w1 → w1.cell? ⟨m.pb,1,none⟩ = some (.slice (some ⟨s1,0,none⟩) es.length (Own.c m.tw)))])) (fun _ => kr) ⟨(fun w1 h => (cell_cells (h.own _ (show _ ∈ (([(db,Obj.cells (bv xe.id) 36 (0,0))] ++ (A x ++ [])) : LO) from (mR (mL ((hmem pre x hal hJx).1 _ (List.mem_cons_of_mem _ pk_pb))))))).trans (by rw [pkC,hsa]; rfl)),trivial⟩ kr) (fun _ _ => List.nil_sublist _) ?_
     rintro ⟨⟩ -
     refine CfgB.pure [7] [] (some [0,1,4,10,11,12,17,24]) (l' := (bF 253 11)) kr kr (.cons _ (List.nil_sublist _)) 4 rfl (Γ' := [(24,[],.pointer (some ⟨s1,k,none⟩)),(17,[],.func (.yield l) #[] #[]),(4,[],pT db),(12,[],.int .i64 (k : Int)),(11,[],.int .i64 (es.length : Int)),(10,[],.slice (some ⟨b1,0,none⟩) es.length (Own.c m.io)),(0,[],.func (.yield l) #[] #[]),(1,[],pT tb)]) (nd := (fun _ => [(0 ≤ (k : Int) ∧ (k : Int) < (es.length : Int))])) (fun _ => kr) ⟨om,trivial⟩ ?_
     refine CfgB.two 1 8 kr (fuel' := 3) rfl ?_ ?_
     ·
      refine CfgJ.eff (o := _) rfl kr kr (Eff.quiet (raw := false) (orc := some (.agg (bv xe.id))) (v := .agg (bv xe.id)) (nd := (fun S => [(∀ w1,S w1 → (loadVar 36 ⟨db,0,none⟩).run Tryz.prog w1 = .ok (.agg (bv xe.id)) w1)])) (fun _ => kr) ⟨(fun w1 h => h.oload 0 rfl Tryz.underlying36 rfl (n := 32) kr ((bv_size _).trans hxl.id)),trivial⟩ kr) (fun _ _ => List.nil_sublist _) ?_
      rintro ⟨⟩ -
      refine CfgB.eff 8 (o := _) rfl kr (fuel' := 2) rfl kr kr (Eff.quiet (raw := false) (orc := some (.string xe.t)) (v := .string xe.t) (nd := (fun S => [(cE S s1 k (.string xe.t))])) (fun _ => kr) ⟨(fun w1 h => by rw [hxe]; exact (cell_cells (h.own _ (show _ ∈ (([(db,Obj.cells (bv xe.id) 36 (0,0))] ++ (A x ++ [])) : LO) from (mR (mL ((hmem pre x hal hJx).1 _ (List.mem_cons_of_mem _ (pk_tw _ hsm)))))))).trans (txs_at hsc om)),trivial⟩ kr) (fun _ _ => List.nil_sublist _) ?_
      rintro ⟨⟩ -
      refine CfgB.effI 9 (o := _) rfl kr (fuel' := 1) rfl kr kr (EffI.yield (ι := σ) (vs := [.agg (bv xe.id),.string xe.t]) (fun _ => .bool (p xe)) (A x) (fun y => A y) (fun y => J (pre ++ [xe]) y) [(db,.cells (bv xe.id) 36 (0,0))] [] rfl rfl kr kr hps.symm (hmem pre x hal hJx).2 (fun w1 hh hdn => hy pre x xe _ hal hJx hR2 w1 hh hdn)) (fun _ _ => List.nil_sublist _) ?_
      rintro y hJy
      refine CfgB.pure [10] [] (some [0,1,10,11,12,27]) (l' := tF 11 0) kr kr (.cons _ (List.nil_sublist _)) 0 rfl (Γ' := [(27,[],.bool (!(p xe))),(12,[],.int .i64 (k : Int)),(11,[],.int .i64 (es.length : Int)),(10,[],.slice (some ⟨b1,0,none⟩) es.length (Own.c m.io)),(0,[],.func (.yield l) #[] #[]),(1,[],pT tb)]) (nd := (fun _ => [])) (fun _ => kr) trivial ?_
      refine CfgB.done kr rfl ?_
      refine Cfg.cond rfl (b := (!(p xe))) kr (fun c5r => ?_) (fun c5r => ?_)
      ·have c5 : ((p xe) = false) := (notT c5r)
       refine Cfg.ret rfl (rs := []) rfl [] trivial (fun w1 hp => ?_)
       have hv : vis p es = pre ++ [xe] := by rw [hR2]; exact vis_stop hal (by simpa using c5)
       rw [hv]
       have h3 := hp.sub (show List.Sublist (A y) _ from (List.sublist_append_left _ _).trans (List.sublist_append_right _ _))
       exact ⟨y,hJy,rfl,_,h3⟩
      ·have c5 : ((p xe) = true) := (notF c5r)
       refine Rg [0,1,10,11,12] [] (fun _ => [(i6 ((k : Int) + 1))]) ⟨om,trivial⟩ ?_
       refine Cfg.setS 10 (congrArg (fun (xq : Value) => (xq : Value)) (show .slice (some ⟨b1,0,none⟩) es.length (Own.c m.io) = .slice (Own.a m.io) es.length (Own.c m.io) from by rw [hba])) ?_
       refine Cfg.again rfl (k + 1,pre ++ [xe],y) ⟨by omega,by rw [List.append_assoc]; exact hR2,fun x hx => (List.mem_append.1 hx).elim (hal x) (fun h => by rw [List.mem_singleton.1 h]; simpa using c5),hJy⟩ (by show es.length - (k + 1) < es.length - k; omega) (Conv.mk kr) (.cons _ slr)
     ·
      refine CfgJ.eff (o := _) rfl kr kr (Eff.quiet (raw := false) (orc := some (.string xe.t)) (v := .string xe.t) (nd := (fun S => [(cE S s1 k (.string xe.t))])) (fun _ => kr) ⟨(fun w1 h => by rw [hxe]; exact (cell_cells (h.own _ (show _ ∈ (([(db,Obj.cells (bv xe.id) 36 (0,0))] ++ (A x ++ [])) : LO) from (mR (mL ((hmem pre x hal hJx).1 _ (List.mem_cons_of_mem _ (pk_tw _ hsm)))))))).trans (txs_at hsc om)),trivial⟩ kr) (fun _ _ => List.nil_sublist _) ?_
      rintro ⟨⟩ -
      refine CfgB.eff 1 (o := _) rfl kr (fuel' := 2) rfl kr kr (Eff.quiet (raw := false) (orc := some (.agg (bv xe.id))) (v := .agg (bv xe.id)) (nd := (fun S => [(∀ w1,S w1 → (loadVar 36 ⟨db,0,none⟩).run Tryz.prog w1 = .ok (.agg (bv xe.id)) w1)])) (fun _ => kr) ⟨(fun w1 h => h.oload 0 rfl Tryz.underlying36 rfl (n := 32) kr ((bv_size _).trans hxl.id)),trivial⟩ kr) (fun _ _ => List.nil_sublist _) ?_
      rintro ⟨⟩ -
      refine CfgB.effI 9 (o := _) rfl kr (fuel' := 1) rfl kr kr (EffI.yield (ι := σ) (vs := [.agg (bv xe.id),.string xe.t]) (fun _ => .bool (p xe)) (A x) (fun y => A y) (fun y => J (pre ++ [xe]) y) [(db,.cells (bv xe.id) 36 (0,0))] [] rfl rfl kr kr hps.symm (hmem pre x hal hJx).2 (fun w1 hh hdn => hy pre x xe _ hal hJx hR2 w1 hh hdn)) (fun _ _ => List.nil_sublist _) ?_
      rintro y hJy
      refine CfgB.pure [10] [] (some [0,1,10,11,12,27]) (l' := tF 11 0) kr kr (.cons _ (List.nil_sublist _)) 0 rfl (Γ' := [(27,[],.bool (!(p xe))),(12,[],.int .i64 (k : Int)),(11,[],.int .i64 (es.length : Int)),(10,[],.slice (some ⟨b1,0,none⟩) es.length (Own.c m.io)),(0,[],.func (.yield l) #[] #[]),(1,[],pT tb)]) (nd := (fun _ => [])) (fun _ => kr) trivial ?_
      refine CfgB.done kr rfl ?_
      refine Cfg.cond rfl (b := (!(p xe))) kr (fun c6r => ?_) (fun c6r => ?_)
      ·have c6 : ((p xe) = false) := (notT c6r)
       refine Cfg.ret rfl (rs := []) rfl [] trivial (fun w1 hp => ?_)
       have hv : vis p es = pre ++ [xe] := by rw [hR2]; exact vis_stop hal (by simpa using c6)
       rw [hv]
       have h3 := hp.sub (show List.Sublist (A y) _ from (List.sublist_append_left _ _).trans (List.sublist_append_right _ _))
       exact ⟨y,hJy,rfl,_,h3⟩
      ·have c6 : ((p xe) = true) := (notF c6r)
       refine Rg [0,1,10,11,12] [] (fun _ => [(i6 ((k : Int) + 1))]) ⟨om,trivial⟩ ?_
       refine Cfg.setS 10 (congrArg (fun (xq : Value) => (xq : Value)) (show .slice (some ⟨b1,0,none⟩) es.length (Own.c m.io) = .slice (Own.a m.io) es.length (Own.c m.io) from by rw [hba])) ?_
       refine Cfg.again rfl (k + 1,pre ++ [xe],y) ⟨by omega,by rw [List.append_assoc]; exact hR2,fun x hx => (List.mem_append.1 hx).elim (hal x) (fun h => by rw [List.mem_singleton.1 h]; simpa using c6),hJy⟩ (by show es.length - (k + 1) < es.length - k; omega) (Conv.mk kr) (.cons _ slr)
  ·have c2 := (dF c2r)
   refine Cfg.fin rfl (rs := []) rfl [] trivial (fun w1 hp => ?_)
   have hke : es.drop k = [] := List.drop_eq_nil_of_le om
   rw [hke,List.append_nil] at hR
   have hv : vis p es = pre := by rw [hR]; exact vis_all hal
   rw [hv]
   have h3 : HP w ((A s0).map (·.1)) [] ([] ++ (A x ++ [])) w1 := hp
   rw [List.nil_append,List.append_nil] at h3
   exact ⟨x,hJx,rfl,_,h3⟩
theorem pkIt (tb : Nat) (m : PkM) (es : List En) (hm : PkOk m es) (hl : ∀ e ∈ es,EnL e) (hn : es.length ≤ 1000000) :
  IterSpec2 Tryz.prog 61 #[.pointer (some ⟨tb,0,none⟩)] ((tb,Obj.cells #[.pointer (some ⟨m.pb,0,none⟩)] 29 (0,0)) :: pkM (some m) es) es (fun (x : En) => Value.agg (bv x.id)) (fun (x : En) => Value.string x.t) :=
 fun l dr fi T ps assign body σ A J s0 p w hps hJ hA hd hmem hy => pkIt0 l dr tb fi T ps assign body m es σ A J s0 p w hm hl hn hps hJ hA hd hmem hy
end Go.Proofs.YtbeegepcdglcaaaGreatDoor
