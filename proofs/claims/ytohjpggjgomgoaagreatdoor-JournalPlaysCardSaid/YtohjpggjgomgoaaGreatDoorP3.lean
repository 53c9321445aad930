/- Texts on which the proof of this claim stands: Wire1, Wire2, Wire3, Wire4, Wire5, K24, Jn1, Jn2, ShaM, ShaR1. -/
import Derived.Test.YtohjpggjgomgoaaGreatDoorP2
namespace Go.Proofs.YtohjpggjgomgoaaGreatDoor
open K
set_option linter.unusedVariables false
def be (n : Nat) : Nat → List UInt8
 | 0 => []
 | k + 1 => UInt8.ofNat (n / 256 ^ k) :: be n k
theorem be_len (n : Nat) : ∀ k,(be n k).length = k
 | 0 => rfl
 | k + 1 => by rw [be,List.length_cons,be_len n k]
def nrow (n k : Nat) : List UInt8 := (List.range 8).map fun i => if i < k then UInt8.ofNat (n / 256 ^ (7 - i)) else 0
theorem nrow_len (n k : Nat) : (nrow n k).length = 8 := by simp [nrow]
theorem nrow_end (n : Nat) : nrow n 8 = be n 8 := rfl
theorem nrow_set (n k : Nat) (hk : k < 8) : (nrow n k).set k (UInt8.ofNat (n / 256 ^ (7 - k))) = nrow n (k + 1) := by
 rcases k with _ | _ | _ | _ | _ | _ | _ | _ | k <;> first | rfl | omega
theorem u8_mod (m : Nat) : UInt8.ofNat (m % 256) = UInt8.ofNat m := by
 apply UInt8.toNat_inj.1
 simp
theorem nrow_step (n k : Nat) (hk : k < 8) {x : Int} (hx : x = ((n : Int) / ((2 ^ (56 - 8 * (k : Int)).toNat : Nat) : Int)) % 256) : (bv (nrow n k)).setIfInBounds k (.int .u8 x) = bv (nrow n (k + 1)) := by
 have e1 : ((n : Int) / ((2 ^ (56 - 8 * (k : Int)).toNat : Nat) : Int)) % 256 = ((n / 2 ^ (56 - 8 * (k : Int)).toNat % 256 : Nat) : Int) := by rw [Int.natCast_emod,Int.natCast_ediv]; rfl
 rw [hx,e1]
 have hlt : n / 2 ^ (56 - 8 * (k : Int)).toNat % 256 < 256 := Nat.mod_lt _ (by decide)
 rw [bv_set om om,Int.toNat_natCast,u8_mod,show (56 - 8 * (k : Int)).toNat = 8 * (7 - k) by omega,Nat.pow_mul,show 2 ^ 8 = 256 from rfl,nrow_set n k hk]
def beS (n k : Nat) : ByteArray := ⟨(be n k).toArray⟩
theorem beS_size (n k : Nat) : (beS n k).size = k := by simp [beS,ByteArray.size,be_len]
theorem beS_list (n k : Nat) : (beS n k).data.toList = be n k := rfl
theorem be_drop (n : Nat) : ∀ (j k : Nat),(be n (j + k)).drop j = be n k
 | 0,k => by rw [Nat.zero_add]; rfl
 | j + 1,k => by rw [show j + 1 + k = (j + k) + 1 by omega,be,List.drop_succ_cons,be_drop n j k]
theorem num_str {P : Program} {w0 w : World} {M : List Nat} {R O : List (Nat × Obj)} {n k b j c : Nat} {t : TypeId} (h : HP w0 M R O w) (ho : O[0]? = some (b,.cells (bv (nrow n k)) t (0,0))) (hk : k = 8) (m : Nat) (hj : j + m = 8) :
  (Conv.bytesToString (.slice (some ⟨b,j,none⟩) m c)).run P w = .ok (.string (beS n m)) w := by
 subst hk
 refine bytes_str (be_len n m) fun i hi => ?_
 have e := be_drop n j m
 rw [hj] at e
 rw [← e,h.ocell 0 ho (bv_get (n := 8) (nrow_len n 8) (show j + i < 8 by omega)),nrow_end]
 simp [List.getD_eq_getElem?_getD,List.getElem?_drop]
def sat (ss : List ByteArray) (i : Nat) : ByteArray := ss.getD i ByteArray.empty
def cat (ss : List ByteArray) : List UInt8 := ss.flatMap fun s => s.data.toList
theorem take_sat {ss : List ByteArray} {i : Nat} (h : i < ss.length) : ss.take (i + 1) = ss.take i ++ [sat ss i] := by
 rw [List.take_succ_eq_append_getElem h]; simp [sat,List.getElem?_eq_getElem h]
theorem cat_app (a b : List ByteArray) : cat (a ++ b) = cat a ++ cat b := List.flatMap_append ..
theorem cat_one (s : ByteArray) : cat [s] = s.data.toList := by simp [cat]
theorem cat_succ {ss : List ByteArray} {i : Nat} (h : i < ss.length) : cat (ss.take (i + 1)) = cat (ss.take i) ++ (sat ss i).data.toList := by rw [take_sat h,cat_app,cat_one]
theorem cat_part {ss : List ByteArray} {i : Nat} (h : i < ss.length) : (cat (ss.take i)).length + (sat ss i).size ≤ (cat ss).length := by
 have h1 := cat_succ h
 have h2 : cat ss = cat (ss.take (i + 1)) ++ cat (ss.drop (i + 1)) := by rw [← cat_app,List.take_append_drop]
 rw [h2,h1,List.length_append,List.length_append,ba_len]; omega
def tx (l : List UInt8) : ByteArray := ⟨l.toArray⟩
theorem tx_list (l : List UInt8) : (tx l).data.toList = l := rfl
theorem tx_size (l : List UInt8) : (tx l).size = l.length := by simp [tx,ByteArray.size]
theorem one_len (x : ByteArray) : [x].length ≤ maxLen := by simp [maxLen]
theorem inS_lit (bk : Nat) (t : TypeId) (fr : Nat × Nat) (ss : List ByteArray) : InS [(bk,.cells (ss.map Value.string).toArray t fr)] (some ⟨bk,0,none⟩) ss.length (fun j => .string (sat ss j)) := by
 intro _
 refine ⟨bk,0,_,t,fr,rfl,List.mem_singleton.2 rfl,fun j hj => ?_⟩
 rw [Nat.zero_add]
 simp [sat,List.getElem?_eq_getElem hj]
set_option maxRecDepth 100000 in
theorem wNumber1 (n : Nat) (w : World) (hn : n < 2 ^ 64) :
  Calls Tryz.prog 77 #[.int .u64 (n : Int),.int .i64 1] w fun e w' => e = .returned (.string (beS n 1)) ∧ Ext [] w w' := by
 refine enter (vs := [.int .u64 (n : Int),.int .i64 1]) [] [] [] Tryz.func77 rfl kr (HP.start w) ?_
 refine Rg [0,1] [] n0 trivial ?_
 refine Cfg.begL rfl ?_
 refine Le (Eff.alloc (z := (.agg (bv (List.replicate 8 0)))) rfl kr) ?_
 rintro b ⟨hb,nb⟩
 refine CfgL.done rfl ?_
 refine Rg [0,1,5,7] [] n0 trivial ?_
 refine Cfg.loop rfl (ι := Nat) (fun (k : Nat) => [(7,[],.int .i64 (k : Int)),(5,[],.pointer (some ⟨b,0,none⟩)),(0,[],.int .u64 (n : Int)),(1,[],.int .i64 1)]) (fun (k : Nat) => [(b,.cells (bv (nrow n k)) 171 (0,0))]) (fun (k : Nat) => (k ≤ 8)) (fun (k : Nat) => 8 - k) 0 ?_ (Conv.mk kr) (List.Sublist.refl _) ?_
 ·exact Nat.zero_le _
 ·rintro k hk
  refine Rg [0,1,5,7,8] [] n0 trivial ?_
  refine Cfg.cond rfl (b := (decide ((k : Int) < (8 : Int)))) kr (fun c1r => ?_) (fun c1r => ?_)
  ·have c1 := (of_decide_eq_true c1r)
   refine Rg [0,1,5,6,7] [] n0 trivial ?_
   refine Cfg.begL rfl ?_
   refine Lp 8 [] (some [0,1,5,7,16,17]) (fun _ => [((-9223372036854775808 : Int) ≤ (8 * (k : Int)) ∧ (8 * (k : Int)) ≤ 9223372036854775807),((-9223372036854775808 : Int) ≤ (56 - (8 * (k : Int))) ∧ (56 - (8 * (k : Int))) ≤ 9223372036854775807),(0 ≤ (56 - (8 * (k : Int))) ∧ ((56 - (8 * (k : Int)))).toNat ≤ 64),(0 ≤ (k : Int) ∧ (k : Int) < (8 : Int))]) ⟨om,om,om,om,trivial⟩ ?_
   refine Le (Eff.store1 (b := b) (off := k) (v := .int .u8 (((n : Int) / ((2 ^ ((56 - (8 * (k : Int)))).toNat : Nat) : Int)) % 256)) rfl kr kr rfl kr 0 (cs := (bv (nrow n k))) (e := 171) kr (by rw [bv_size,nrow_len]; omega)) ?_
   rintro ⟨⟩ -
   refine CfgL.done rfl ?_
   refine Cg (Γ' := [(7,[],.int .i64 (k : Int)),(5,[],.pointer (some ⟨b,0,none⟩)),(0,[],.int .u64 (n : Int)),(1,[],.int .i64 1)]) ?_
   refine Rg [0,1,5,7] [] (fun _ => [((-9223372036854775808 : Int) ≤ ((k : Int) + 1) ∧ ((k : Int) + 1) ≤ 9223372036854775807)]) ⟨om,trivial⟩ ?_
   refine Cfg.setO (congrArg (fun (xq : Array Value) => ([(b,.cells xq 171 (0,0))] : List (Nat × Obj))) (show _ = (bv (nrow n (k + 1))) from nrow_step n k om rfl)) ?_
   refine Cfg.again rfl (k + 1) (show k + 1 ≤ 8 by omega) om (Conv.mk kr) (.cons_cons _ .slnil)
  ·have c1 := (of_decide_eq_false c1r)
   refine Rg [4] [dZ,dZ,dZ,(0,false,some (.string (beS n 1)))] (fun S => [((-9223372036854775808 : Int) ≤ (7 : Int) ∧ (7 : Int) ≤ 9223372036854775807),(0 ≤ (7 : Int)),(7 ≤ 8 ∧ 8 ≤ 8),(∀ w1,S w1 → (Conv.bytesToString (.slice (some ⟨b,(if 8 = 7 then 0 else 7),none⟩) (8 - 7) (8 - 7))).run Tryz.prog w1 = .ok (.string (beS n 1)) w1)]) ⟨om,om,om,(fun w1 h => num_str h rfl om 1 rfl),trivial⟩ ?_
   refine Cfg.ret rfl (rs := [.tmp 4]) rfl [.string (beS n 1)] ⟨kr,trivial⟩ (fun w1 hp => ?_)
   exact ⟨rfl,hp.ext⟩
set_option maxRecDepth 100000 in
theorem wNumber4 (n : Nat) (w : World) (hn : n < 2 ^ 64) :
  Calls Tryz.prog 77 #[.int .u64 (n : Int),.int .i64 4] w fun e w' => e = .returned (.string (beS n 4)) ∧ Ext [] w w' := by
 refine enter (vs := [.int .u64 (n : Int),.int .i64 4]) [] [] [] Tryz.func77 rfl kr (HP.start w) ?_
 refine Rg [0,1] [] n0 trivial ?_
 refine Cfg.begL rfl ?_
 refine Le (Eff.alloc (z := (.agg (bv (List.replicate 8 0)))) rfl kr) ?_
 rintro b ⟨hb,nb⟩
 refine CfgL.done rfl ?_
 refine Rg [0,1,5,7] [] n0 trivial ?_
 refine Cfg.loop rfl (ι := Nat) (fun (k : Nat) => [(7,[],.int .i64 (k : Int)),(5,[],.pointer (some ⟨b,0,none⟩)),(0,[],.int .u64 (n : Int)),(1,[],.int .i64 4)]) (fun (k : Nat) => [(b,.cells (bv (nrow n k)) 171 (0,0))]) (fun (k : Nat) => (k ≤ 8)) (fun (k : Nat) => 8 - k) 0 ?_ (Conv.mk kr) (List.Sublist.refl _) ?_
 ·exact Nat.zero_le _
 ·rintro k hk
  refine Rg [0,1,5,7,8] [] n0 trivial ?_
  refine Cfg.cond rfl (b := (decide ((k : Int) < (8 : Int)))) kr (fun c1r => ?_) (fun c1r => ?_)
  ·have c1 := (of_decide_eq_true c1r)
   refine Rg [0,1,5,6,7] [] n0 trivial ?_
   refine Cfg.begL rfl ?_
   refine Lp 8 [] (some [0,1,5,7,16,17]) (fun _ => [((-9223372036854775808 : Int) ≤ (8 * (k : Int)) ∧ (8 * (k : Int)) ≤ 9223372036854775807),((-9223372036854775808 : Int) ≤ (56 - (8 * (k : Int))) ∧ (56 - (8 * (k : Int))) ≤ 9223372036854775807),(0 ≤ (56 - (8 * (k : Int))) ∧ ((56 - (8 * (k : Int)))).toNat ≤ 64),(0 ≤ (k : Int) ∧ (k : Int) < (8 : Int))]) ⟨om,om,om,om,trivial⟩ ?_
   refine Le (Eff.store1 (b := b) (off := k) (v := .int .u8 (((n : Int) / ((2 ^ ((56 - (8 * (k : Int)))).toNat : Nat) : Int)) % 256)) rfl kr kr rfl kr 0 (cs := (bv (nrow n k))) (e := 171) kr (by rw [bv_size,nrow_len]; omega)) ?_
   rintro ⟨⟩ -
   refine CfgL.done rfl ?_
   refine Cg (Γ' := [(7,[],.int .i64 (k : Int)),(5,[],.pointer (some ⟨b,0,none⟩)),(0,[],.int .u64 (n : Int)),(1,[],.int .i64 4)]) ?_
   refine Rg [0,1,5,7] [] (fun _ => [((-9223372036854775808 : Int) ≤ ((k : Int) + 1) ∧ ((k : Int) + 1) ≤ 9223372036854775807)]) ⟨om,trivial⟩ ?_
   refine Cfg.setO (congrArg (fun (xq : Array Value) => ([(b,.cells xq 171 (0,0))] : List (Nat × Obj))) (show _ = (bv (nrow n (k + 1))) from nrow_step n k om rfl)) ?_
   refine Cfg.again rfl (k + 1) (show k + 1 ≤ 8 by omega) om (Conv.mk kr) (.cons_cons _ .slnil)
  ·have c1 := (of_decide_eq_false c1r)
   refine Rg [4] [dZ,dZ,dZ,(0,false,some (.string (beS n 4)))] (fun S => [((-9223372036854775808 : Int) ≤ (4 : Int) ∧ (4 : Int) ≤ 9223372036854775807),(0 ≤ (4 : Int)),(4 ≤ 8 ∧ 8 ≤ 8),(∀ w1,S w1 → (Conv.bytesToString (.slice (some ⟨b,(if 8 = 4 then 0 else 4),none⟩) (8 - 4) (8 - 4))).run Tryz.prog w1 = .ok (.string (beS n 4)) w1)]) ⟨om,om,om,(fun w1 h => num_str h rfl om 4 rfl),trivial⟩ ?_
   refine Cfg.ret rfl (rs := [.tmp 4]) rfl [.string (beS n 4)] ⟨kr,trivial⟩ (fun w1 hp => ?_)
   exact ⟨rfl,hp.ext⟩
set_option maxRecDepth 100000 in
theorem wNumber8 (n : Nat) (w : World) (hn : n < 2 ^ 64) :
  Calls Tryz.prog 77 #[.int .u64 (n : Int),.int .i64 8] w fun e w' => e = .returned (.string (beS n 8)) ∧ Ext [] w w' := by
 refine enter (vs := [.int .u64 (n : Int),.int .i64 8]) [] [] [] Tryz.func77 rfl kr (HP.start w) ?_
 refine Rg [0,1] [] n0 trivial ?_
 refine Cfg.begL rfl ?_
 refine Le (Eff.alloc (z := (.agg (bv (List.replicate 8 0)))) rfl kr) ?_
 rintro b ⟨hb,nb⟩
 refine CfgL.done rfl ?_
 refine Rg [0,1,5,7] [] n0 trivial ?_
 refine Cfg.loop rfl (ι := Nat) (fun (k : Nat) => [(7,[],.int .i64 (k : Int)),(5,[],.pointer (some ⟨b,0,none⟩)),(0,[],.int .u64 (n : Int)),(1,[],.int .i64 8)]) (fun (k : Nat) => [(b,.cells (bv (nrow n k)) 171 (0,0))]) (fun (k : Nat) => (k ≤ 8)) (fun (k : Nat) => 8 - k) 0 ?_ (Conv.mk kr) (List.Sublist.refl _) ?_
 ·exact Nat.zero_le _
 ·rintro k hk
  refine Rg [0,1,5,7,8] [] n0 trivial ?_
  refine Cfg.cond rfl (b := (decide ((k : Int) < (8 : Int)))) kr (fun c1r => ?_) (fun c1r => ?_)
  ·have c1 := (of_decide_eq_true c1r)
   refine Rg [0,1,5,6,7] [] n0 trivial ?_
   refine Cfg.begL rfl ?_
   refine Lp 8 [] (some [0,1,5,7,16,17]) (fun _ => [((-9223372036854775808 : Int) ≤ (8 * (k : Int)) ∧ (8 * (k : Int)) ≤ 9223372036854775807),((-9223372036854775808 : Int) ≤ (56 - (8 * (k : Int))) ∧ (56 - (8 * (k : Int))) ≤ 9223372036854775807),(0 ≤ (56 - (8 * (k : Int))) ∧ ((56 - (8 * (k : Int)))).toNat ≤ 64),(0 ≤ (k : Int) ∧ (k : Int) < (8 : Int))]) ⟨om,om,om,om,trivial⟩ ?_
   refine Le (Eff.store1 (b := b) (off := k) (v := .int .u8 (((n : Int) / ((2 ^ ((56 - (8 * (k : Int)))).toNat : Nat) : Int)) % 256)) rfl kr kr rfl kr 0 (cs := (bv (nrow n k))) (e := 171) kr (by rw [bv_size,nrow_len]; omega)) ?_
   rintro ⟨⟩ -
   refine CfgL.done rfl ?_
   refine Cg (Γ' := [(7,[],.int .i64 (k : Int)),(5,[],.pointer (some ⟨b,0,none⟩)),(0,[],.int .u64 (n : Int)),(1,[],.int .i64 8)]) ?_
   refine Rg [0,1,5,7] [] (fun _ => [((-9223372036854775808 : Int) ≤ ((k : Int) + 1) ∧ ((k : Int) + 1) ≤ 9223372036854775807)]) ⟨om,trivial⟩ ?_
   refine Cfg.setO (congrArg (fun (xq : Array Value) => ([(b,.cells xq 171 (0,0))] : List (Nat × Obj))) (show _ = (bv (nrow n (k + 1))) from nrow_step n k om rfl)) ?_
   refine Cfg.again rfl (k + 1) (show k + 1 ≤ 8 by omega) om (Conv.mk kr) (.cons_cons _ .slnil)
  ·have c1 := (of_decide_eq_false c1r)
   refine Rg [4] [dZ,dZ,dZ,(0,false,some (.string (beS n 8)))] (fun S => [((-9223372036854775808 : Int) ≤ (0 : Int) ∧ (0 : Int) ≤ 9223372036854775807),(0 ≤ (0 : Int)),(0 ≤ 8 ∧ 8 ≤ 8),(∀ w1,S w1 → (Conv.bytesToString (.slice (some ⟨b,(if 8 = 0 then 0 else 0),none⟩) (8 - 0) (8 - 0))).run Tryz.prog w1 = .ok (.string (beS n 8)) w1)]) ⟨om,om,om,(fun w1 h => num_str h rfl om 8 rfl),trivial⟩ ?_
   refine Cfg.ret rfl (rs := [.tmp 4]) rfl [.string (beS n 8)] ⟨kr,trivial⟩ (fun w1 hp => ?_)
   exact ⟨rfl,hp.ext⟩
set_option maxRecDepth 100000 in
theorem wWith (s : ByteArray) (la : Option Addr) (cap : Nat) (ss : List ByteArray) (Rl : List (Nat × Obj)) (w : World) (hI : InS Rl la ss.length (fun j => .string (sat ss j))) (hR : Has w Rl) (hn : ss.length ≤ maxLen) (hr : s.size + (cat ss).length ≤ 140737488355328) :
  Calls Tryz.prog 75 #[.agg #[.string s],.slice la ss.length cap] w fun e w' => e = .returned (.agg #[.string (tx (s.data.toList ++ cat ss))]) ∧ Ext [] w w' := by
 unfold maxLen at hn
 refine enter (vs := [.agg #[.string s],.slice la ss.length cap]) [] Rl [] Tryz.func75 rfl kr (HP.ofHas hR) ?_
 refine Cfg.begL rfl ?_
 refine Le (Eff.box (v := .agg #[.string s]) rfl kr) ?_
 rintro o ⟨ho,no⟩
 refine Le (Eff.alloc (z := (.agg #[.string ByteArray.empty])) rfl kr) ?_
 rintro rs ⟨hrs,nrs⟩
 refine CfgL.done rfl ?_
 refine Cg (Γ' := [(4,[],.pointer (some ⟨rs,0,none⟩)),(2,[],.pointer (some ⟨o,0,none⟩)),(1,[],.slice la ss.length cap)]) ?_
 refine Cfg.begL rfl ?_
 refine Le (Eff.allocB 5 [(rs,.cells #[.string ByteArray.empty] 84 (0,0)),(o,.cells #[.string s] 84 (0,0))] [] rfl rfl kr) ?_
 rintro b ⟨hb,nb⟩
 refine CfgL.done rfl ?_
 refine Cfg.begL rfl ?_
 refine Lp 2 [dZ,(0,false,some (.string s))] (some [1,4,5,9]) (fun S => [(∀ w1,S w1 → w1.cell? ⟨o,0,none⟩ = some (.string s))]) ⟨(fun w1 h => h.ocell 1 rfl rfl),trivial⟩ ?_
 refine Le (Eff.callH (vs := [.pointer (some ⟨b,0,none⟩),.string s]) (fun _ => (.tuple #[.int .i64 (s.size : Int),.nilIface] : Value)) (bl 145 5 b ([]) bd0) (fun B1 => bl 145 5 b (([]) ++ s.data.toList) B1) (fun B1 => BdOk b (([]) ++ s.data.toList) B1) [(rs,.cells #[.string ByteArray.empty] 84 (0,0)),(o,.cells #[.string s] 84 (0,0))] [] (by rfl) rfl Tryz.func76 rfl rfl kr (fun w1 h hh hd => bWriteString b ([]) bd0 s w1 (bd0_ok b) hh hd (by simp only [List.length_nil]; omega))) ?_
 rintro B1 kB1
 refine CfgL.done rfl ?_
 refine Cg (Γ' := [(5,[],.pointer (some ⟨b,0,none⟩)),(4,[],.pointer (some ⟨rs,0,none⟩)),(1,[],.slice la ss.length cap)]) ?_
 refine Rg [4,5,11,12,13] [] n0 trivial ?_
 refine Cfg.setO (congrArg (fun (xq : List UInt8) => (([(rs,.cells #[.string ByteArray.empty] 84 (0,0)),(o,.cells #[.string s] 84 (0,0))] ++ (bl 145 5 b xq B1 ++ [])) : List (Nat × Obj))) (show _ = (s.data.toList ++ cat (ss.take 0)) from by rw [List.take_zero]; simp [cat])) ?_
 refine Cfg.loop rfl (ι := Nat × Bd) (fun (xz : Nat × Bd) => match xz with | (i,B) => [(13,[],.int .i64 (i : Int)),(12,[],.int .i64 (ss.length : Int)),(11,[],.slice la ss.length cap),(5,[],.pointer (some ⟨b,0,none⟩)),(4,[],.pointer (some ⟨rs,0,none⟩))]) (fun (xz : Nat × Bd) => match xz with | (i,B) => ([(rs,.cells #[.string ByteArray.empty] 84 (0,0)),(o,.cells #[.string s] 84 (0,0))] ++ (bl 145 5 b (s.data.toList ++ cat (ss.take i)) B ++ []))) (fun (xz : Nat × Bd) => match xz with | (i,B) => (i ≤ ss.length) ∧ (BdOk b (s.data.toList ++ cat (ss.take i)) B)) (fun (xz : Nat × Bd) => match xz with | (i,B) => ss.length - i) (0,B1) ?_ (Conv.mk kr) (List.Sublist.refl _) ?_
 ·exact ⟨Nat.zero_le _,by rw [List.take_zero,show s.data.toList ++ cat [] = [] ++ s.data.toList by simp [cat]]; exact kB1⟩
 ·rintro ⟨i,B⟩ ⟨hi,hB⟩
  refine Rg [4,5,11,12,13,14] [] n0 trivial ?_
  refine Cfg.cond rfl (b := (decide ((i : Int) < (ss.length : Int)))) kr (fun c1r => ?_) (fun c1r => ?_)
  ·have c1 := (of_decide_eq_true c1r)
   obtain ⟨sb,off,cs,te,fre,rfl,hmem,hcs⟩ := hI om
   refine Conv.cfg (Γ' := [(14,[],.bool (decide ((i : Int) < (ss.length : Int)))),(13,[],.int .i64 (i : Int)),(12,[],.int .i64 (ss.length : Int)),(11,[],.slice (some ⟨sb,off,none⟩) ss.length cap),(5,[],.pointer (some ⟨b,0,none⟩)),(4,[],.pointer (some ⟨rs,0,none⟩))]) (Conv.mk kr) ?_
   refine Rg [4,5,7,11,12,13] [dZ,(0,false,some (.string (sat ss i)))] (fun S => [(0 ≤ (i : Int) ∧ (i : Int) < (ss.length : Int)),(∀ w1,S w1 → w1.cell? ⟨sb,(addO off i),none⟩ = some (.string (sat ss i)))]) ⟨om,(fun w1 h => by rw [addO_eq]; exact (cell_cells (h.ro _ hmem)).trans (hcs i om)),trivial⟩ ?_
   refine Cfg.begL rfl ?_
   refine Lp 1 [] (some [4,5,11,12,13,17]) n0 trivial ?_
   refine Le (Eff.callH (vs := [.pointer (some ⟨b,0,none⟩),.string (sat ss i)]) (fun _ => (.tuple #[.int .i64 ((sat ss i).size : Int),.nilIface] : Value)) (bl 145 5 b (s.data.toList ++ cat (ss.take i)) B) (fun B1 => bl 145 5 b ((s.data.toList ++ cat (ss.take i)) ++ (sat ss i).data.toList) B1) (fun B1 => BdOk b ((s.data.toList ++ cat (ss.take i)) ++ (sat ss i).data.toList) B1) [(rs,.cells #[.string ByteArray.empty] 84 (0,0)),(o,.cells #[.string s] 84 (0,0))] [] (by rfl) rfl Tryz.func76 rfl rfl kr (fun w1 h hh hd => bWriteString b (s.data.toList ++ cat (ss.take i)) B (sat ss i) w1 hB hh hd (by have := cat_part (ss := ss) (i := i) om; rw [List.length_append,ba_len]; omega))) ?_
   rintro B2 kB2
   refine CfgL.done rfl ?_
   refine Cg (Γ' := [(13,[],.int .i64 (i : Int)),(12,[],.int .i64 (ss.length : Int)),(11,[],.slice (some ⟨sb,off,none⟩) ss.length cap),(5,[],.pointer (some ⟨b,0,none⟩)),(4,[],.pointer (some ⟨rs,0,none⟩))]) ?_
   refine Rg [4,5,11,12,13] [] (fun _ => [((-9223372036854775808 : Int) ≤ ((i : Int) + 1) ∧ ((i : Int) + 1) ≤ 9223372036854775807)]) ⟨om,trivial⟩ ?_
   have hcs2 : (s.data.toList ++ cat (ss.take i)) ++ (sat ss i).data.toList = (s.data.toList ++ cat (ss.take (i + 1))) := by rw [cat_succ om,List.append_assoc]
   refine Cfg.setO (congrArg (fun (xq : List UInt8) => (([(rs,.cells #[.string ByteArray.empty] 84 (0,0)),(o,.cells #[.string s] 84 (0,0))] ++ (bl 145 5 b xq B2 ++ [])) : List (Nat × Obj))) (show _ = (s.data.toList ++ cat (ss.take (i + 1))) from hcs2)) ?_
   refine Cfg.again rfl (i + 1,B2) ⟨by omega,hcs2 ▸ kB2⟩ (by show ss.length - (i + 1) < ss.length - i; omega) (Conv.mk kr) (.cons_cons _ (.cons_cons _ (List.Sublist.refl _)))
  ·have c1 := (of_decide_eq_false c1r)
   obtain rfl : i = ss.length := by omega
   refine Cfg.setO (congrArg (fun (xq : List UInt8) => (([(rs,.cells #[.string ByteArray.empty] 84 (0,0)),(o,.cells #[.string s] 84 (0,0))] ++ (bl 145 5 b xq B ++ [])) : List (Nat × Obj))) (show _ = (s.data.toList ++ cat ss) from by rw [List.take_length])) ?_
   rw [List.take_length] at hB
   refine Conv.cfg (Γ' := [(12,[],.int .i64 (ss.length : Int)),(11,[],.slice la ss.length cap),(5,[],.pointer (some ⟨b,0,none⟩)),(4,[],.pointer (some ⟨rs,0,none⟩))]) (Conv.mk kr) ?_
   refine Cfg.begL rfl ?_
   refine Le (Eff.callH (vs := [.pointer (some ⟨b,0,none⟩)]) (fun _ : Unit => (.string (tx (s.data.toList ++ cat ss)) : Value)) (bl 145 5 b (s.data.toList ++ cat ss) B) (fun _ => []) (fun _ => True) [(rs,.cells #[.string ByteArray.empty] 84 (0,0)),(o,.cells #[.string s] 84 (0,0))] [] (by rfl) rfl Tryz.func78 rfl rfl kr (fun w1 h hh hd => bString b (s.data.toList ++ cat ss) B w1 hB hh hd (by rw [List.length_append,ba_len]; omega))) ?_
   rintro ⟨⟩ -
   refine Lp 1 [(0,false,some (.agg #[.string (tx (s.data.toList ++ cat ss))]))] (some [4,21]) (fun S => [(∀ w1,S w1 → (Instr.build 84 #[(0,.string (tx (s.data.toList ++ cat ss)))]).run Tryz.prog w1 = .ok (.agg #[.string (tx (s.data.toList ++ cat ss))]) w1)]) ⟨(fun _ _ => kr),trivial⟩ ?_
   refine Le (Eff.storeN (b := rs) (off := 0) (vs := #[.string (tx (s.data.toList ++ cat ss))]) (n := 1) rfl kr kr kr rfl (by simp [K.one]) 0 (cs := #[.string ByteArray.empty]) (e := 84) kr (by simp)) ?_
   rintro ⟨⟩ -
   refine CfgL.setO (congrArg (fun (xq : Array Value) => ([(rs,.cells xq 84 (0,0)),(o,.cells #[.string s] 84 (0,0))] : List (Nat × Obj))) (show _ = #[.string (tx (s.data.toList ++ cat ss))] from rfl)) ?_
   refine CfgL.done rfl ?_
   refine Cg (Γ' := [(4,[],.pointer (some ⟨rs,0,none⟩))]) ?_
   refine Cfg.ret rfl (rs := [.cell 4 84]) rfl [.agg #[.string (tx (s.data.toList ++ cat ss))]] ⟨⟨_,by kernel_rfl,(fun w1 h => h.oload 0 rfl Tryz.underlying84 rfl (n := 1) kr rfl)⟩,trivial⟩ (fun w1 hp => ?_)
   exact ⟨rfl,hp.ext⟩
end Go.Proofs.YtohjpggjgomgoaaGreatDoor
namespace Go.Proofs.YtohjpggjgomgoaaGreatDoor
open K
set_option linter.unusedVariables false
def flat {α : Type} (f : α → List UInt8) (l : List α) : List UInt8 := l.flatMap f
theorem flat_app {α : Type} (f : α → List UInt8) (a b : List α) : flat f (a ++ b) = flat f a ++ flat f b := List.flatMap_append ..
theorem flat_succ {α : Type} {f : α → List UInt8} {l : List α} {i : Nat} (d : α) (h : i < l.length) : flat f (l.take (i + 1)) = flat f (l.take i) ++ f (l.getD i d) := by
 rw [List.take_succ_eq_append_getElem h,flat_app]
 simp [flat,List.getElem?_eq_getElem h]
theorem flat_part {α : Type} {f : α → List UInt8} {l : List α} {i : Nat} (d : α) (h : i < l.length) : (flat f (l.take i)).length + (f (l.getD i d)).length ≤ (flat f l).length := by
 have h1 := flat_succ (f := f) d h
 have h2 : flat f l = flat f (l.take (i + 1)) ++ flat f (l.drop (i + 1)) := by rw [← flat_app,List.take_append_drop]
 rw [h2,h1,List.length_append,List.length_append]; omega
theorem cat_tx (l : List UInt8) : cat [tx l] = l := by rw [cat_one,tx_list]
def four (n : Nat) : List UInt8 := be n 4
def eight (n : Nat) : List UInt8 := be n 8
theorem HP.notin {w0 w : World} {M : List Nat} {R Fl A T : List (Nat × Obj)} {d : Nat} {ob : Obj} (h : HP w0 M R (Fl ++ (A ++ T)) w) (hm : (d,ob) ∈ Fl) : d ∉ A.map (·.1) := by
 intro hx
 have hd := h.dist
 rw [List.map_append,List.map_append] at hd
 exact (List.nodup_append.1 hd).2.2 d (List.mem_map.2 ⟨_,hm,rfl⟩) d (List.mem_append_left _ hx) rfl
theorem zsz32 : (bv (List.replicate 32 0)).size = 32 := rfl
set_option maxRecDepth 100000 in
theorem wByte (s : ByteArray) (n : Nat) (w : World) (hn : n < 256) (hr : s.size + 1 ≤ 140737488355328) :
  Calls Tryz.prog 33 #[.agg #[.string s],.int .u8 (n : Int)] w fun e w' => e = .returned (.agg #[.string (tx (s.data.toList ++ be n 1))]) ∧ Ext [] w w' := by
 refine enter (vs := [.agg #[.string s],.int .u8 (n : Int)]) [] [] [] Tryz.func33 rfl kr (HP.start w) ?_
 refine Cfg.begL rfl ?_
 refine Le (Eff.box (v := .agg #[.string s]) rfl kr) ?_
 rintro o ⟨ho,no⟩
 refine Le (Eff.alloc (z := (.agg #[.string ByteArray.empty])) rfl kr) ?_
 rintro rs ⟨hrs,nrs⟩
 refine CfgL.done rfl ?_
 refine Cg (Γ' := [(4,[],.pointer (some ⟨rs,0,none⟩)),(2,[],.pointer (some ⟨o,0,none⟩)),(1,[],.int .u8 (n : Int))]) ?_
 refine Cfg.begA rfl kr [(o,.cells #[.string s] 84 (0,0))] ?_
 refine Ap [0,1,2] [(0,false,some (.agg #[.string s]))] (some [4,5,7]) #[true,true,true,false,false,false,false] (.cons _ (.cons_cons _ .slnil)) 4 (fun S => [(∀ w1,S w1 → (loadVar 84 ⟨o,0,none⟩).run Tryz.prog w1 = .ok (.agg #[.string s]) w1),((0 : Int) ≤ (n : Int) ∧ (n : Int) ≤ 18446744073709551615)]) ⟨(fun w1 h => h.oload 0 rfl Tryz.underlying84 rfl (n := 1) kr rfl),om,trivial⟩ ?_
 refine Ae 3 rfl 3  (Eff.callA (vs := [.int .u64 (n : Int),.int .i64 1]) (.string (beS n 1)) rfl Tryz.func77 rfl rfl kr (fun w1 _ => wNumber1 n w1 om)) (fun _ _ => (.cons _ (.cons_cons _ .slnil))) ?_
 rintro ⟨⟩ -
 refine Ae 4 rfl 2  (Eff.buildSlice (e := 9) (cells := #[.string (beS n 1)]) (parts := #[(0,.string (beS n 1))]) rfl kr (fun _ => kr)) (fun _ _ => (.cons _ (.cons _ (.cons_cons _ .slnil)))) ?_
 rintro x3 ⟨hx3,nx3⟩
 refine Ae 5 rfl 1  (Eff.callA (vs := [.agg #[.string s],.slice (some ⟨x3,0,none⟩) 1 1]) (.agg #[.string (tx (s.data.toList ++ cat [(beS n 1)]))]) rfl Tryz.func75 rfl rfl kr (fun w1 h => wWith s (some ⟨x3,0,none⟩) 1 [(beS n 1)] [(x3,.cells (List.map Value.string [(beS n 1)]).toArray 9 (0,0))] w1 (inS_lit x3 9 (0,0) [(beS n 1)]) (h.has (fun e he => List.mem_of_getElem? (i := 0) (by rw [List.mem_singleton.1 he]; rfl))) (one_len _) (by rw [cat_one,beS_list,be_len]; omega))) (fun _ _ => (.cons _ (.cons _ (.cons_cons _ .slnil)))) ?_
 rintro ⟨⟩ -
 refine Ae 6 rfl 0  (Eff.storeN (b := rs) (off := 0) (vs := #[.string (tx (s.data.toList ++ cat [(beS n 1)]))]) (n := 1) rfl kr kr kr rfl (by simp [K.one]) 1 (cs := #[.string ByteArray.empty]) (e := 84) kr (by simp)) (fun _ _ => (.cons _ (.cons _ (.cons_cons _ .slnil)))) ?_
 rintro ⟨⟩ -
 refine CfgA.setO (congrArg (fun (xq : Array Value) => ([(x3,.cells #[.string (beS n 1)] 9 (0,0)),(rs,.cells xq 84 (0,0)),(o,.cells #[.string s] 84 (0,0))] : List (Nat × Obj))) (show _ = #[.string (tx (s.data.toList ++ cat [(beS n 1)]))] from rfl)) ?_
 refine CfgA.done kr ?_
 refine Cg (Γ' := [(4,[],.pointer (some ⟨rs,0,none⟩))]) ?_
 refine Cfg.ret rfl (rs := [.cell 4 84]) rfl [.agg #[.string (tx (s.data.toList ++ cat [(beS n 1)]))]] ⟨⟨_,by kernel_rfl,(fun w1 h => h.oload 1 rfl Tryz.underlying84 rfl (n := 1) kr rfl)⟩,trivial⟩ (fun w1 hp => ?_)
 exact ⟨by rw [cat_one,beS_list]; rfl,hp.ext⟩
set_option maxRecDepth 100000 in
theorem wFour (s : ByteArray) (la : Option Addr) (cap : Nat) (xs : List Nat) (Rl : List (Nat × Obj)) (w : World) (hI : InS Rl la xs.length (fun j => .int .u32 ((xs.getD j 0 : Nat) : Int))) (hR : Has w Rl) (hn : xs.length ≤ maxLen) (hr : s.size + (flat four xs).length ≤ 140737488355328) (hx : ∀ i,xs.getD i 0 < 4294967296) :
  Calls Tryz.prog 32 #[.agg #[.string s],.slice la xs.length cap] w fun e w' => e = .returned (.agg #[.string (tx (s.data.toList ++ flat four xs))]) ∧ Ext [] w w' := by
 unfold maxLen at hn
 refine enter (vs := [.agg #[.string s],.slice la xs.length cap]) [] Rl [] Tryz.func32 rfl kr (HP.ofHas hR) ?_
 refine Cfg.begL rfl ?_
 refine Le (Eff.box (v := .agg #[.string s]) rfl kr) ?_
 rintro o ⟨ho,no⟩
 refine Le (Eff.alloc (z := (.agg #[.string ByteArray.empty])) rfl kr) ?_
 rintro rs ⟨hrs,nrs⟩
 refine CfgL.done rfl ?_
 refine Cg (Γ' := [(4,[],.pointer (some ⟨rs,0,none⟩)),(2,[],.pointer (some ⟨o,0,none⟩)),(1,[],.slice la xs.length cap)]) ?_
 refine Cfg.begL rfl ?_
 refine Le (Eff.allocB 5 [(rs,.cells #[.string ByteArray.empty] 84 (0,0)),(o,.cells #[.string s] 84 (0,0))] [] rfl rfl kr) ?_
 rintro b ⟨hb,nb⟩
 refine CfgL.done rfl ?_
 refine Rg [2,4,5,8,9,10] [] n0 trivial ?_
 refine Cfg.setO (congrArg (fun (xq : List UInt8) => (([(rs,.cells #[.string ByteArray.empty] 84 (0,0)),(o,.cells #[.string s] 84 (0,0))] ++ (bl 145 5 b xq bd0 ++ [])) : List (Nat × Obj))) (show _ = (flat four (xs.take 0)) from by rw [List.take_zero]; rfl)) ?_
 refine Cfg.loop rfl (ι := Nat × Bd) (fun (xz : Nat × Bd) => match xz with | (i,B) => [(10,[],.int .i64 (i : Int)),(9,[],.int .i64 (xs.length : Int)),(8,[],.slice la xs.length cap),(5,[],.pointer (some ⟨b,0,none⟩)),(4,[],.pointer (some ⟨rs,0,none⟩)),(2,[],.pointer (some ⟨o,0,none⟩))]) (fun (xz : Nat × Bd) => match xz with | (i,B) => ([(rs,.cells #[.string ByteArray.empty] 84 (0,0)),(o,.cells #[.string s] 84 (0,0))] ++ (bl 145 5 b (flat four (xs.take i)) B ++ []))) (fun (xz : Nat × Bd) => match xz with | (i,B) => (i ≤ xs.length) ∧ (BdOk b (flat four (xs.take i)) B)) (fun (xz : Nat × Bd) => match xz with | (i,B) => xs.length - i) (0,bd0) ?_ (Conv.mk kr) (List.Sublist.refl _) ?_
 ·exact ⟨Nat.zero_le _,by rw [List.take_zero]; exact (bd0_ok b)⟩
 ·rintro ⟨i,B⟩ ⟨hi,hB⟩
  have hpart := fun (hlt : i < xs.length) => flat_part (f := four) 0 hlt
  refine Rg [2,4,5,8,9,10,11] [] n0 trivial ?_
  refine Cfg.cond rfl (b := (decide ((i : Int) < (xs.length : Int)))) kr (fun c1r => ?_) (fun c1r => ?_)
  ·have c1 := (of_decide_eq_true c1r)
   have hpt := hpart om
   obtain ⟨sb,off,cs,te,fre,rfl,hmem,hcs⟩ := hI om
   refine Conv.cfg (Γ' := [(11,[],.bool (decide ((i : Int) < (xs.length : Int)))),(10,[],.int .i64 (i : Int)),(9,[],.int .i64 (xs.length : Int)),(8,[],.slice (some ⟨sb,off,none⟩) xs.length cap),(5,[],.pointer (some ⟨b,0,none⟩)),(4,[],.pointer (some ⟨rs,0,none⟩)),(2,[],.pointer (some ⟨o,0,none⟩))]) (Conv.mk kr) ?_
   refine Rg [2,4,5,7,8,9,10] [dZ,(0,false,some (.int .u32 ((xs.getD i 0) : Int)))] (fun S => [(0 ≤ (i : Int) ∧ (i : Int) < (xs.length : Int)),(∀ w1,S w1 → w1.cell? ⟨sb,(addO off i),none⟩ = some (.int .u32 ((xs.getD i 0) : Int)))]) ⟨om,(fun w1 h => by rw [addO_eq]; exact (cell_cells (h.ro _ hmem)).trans (hcs i om)),trivial⟩ ?_
   refine Cfg.begL rfl ?_
   refine Lp 2 [] (some [2,4,5,8,9,10,15]) (fun _ => [((0 : Int) ≤ ((xs.getD i 0) : Int) ∧ ((xs.getD i 0) : Int) ≤ 18446744073709551615)]) ⟨(by have := hx i; omega),trivial⟩ ?_
   refine Le (Eff.callA (vs := [.int .u64 ((xs.getD i 0) : Int),.int .i64 4]) (.string (beS ((xs.getD i 0)) 4)) rfl Tryz.func77 rfl rfl kr (fun w1 _ => wNumber4 ((xs.getD i 0)) w1 (by have := hx i; omega))) ?_
   rintro ⟨⟩ -
   refine Le (Eff.callH (vs := [.pointer (some ⟨b,0,none⟩),.string (beS ((xs.getD i 0)) 4)]) (fun _ => (.tuple #[.int .i64 ((beS ((xs.getD i 0)) 4).size : Int),.nilIface] : Value)) (bl 145 5 b (flat four (xs.take i)) B) (fun B1 => bl 145 5 b ((flat four (xs.take i)) ++ (beS ((xs.getD i 0)) 4).data.toList) B1) (fun B1 => BdOk b ((flat four (xs.take i)) ++ (beS ((xs.getD i 0)) 4).data.toList) B1) [(rs,.cells #[.string ByteArray.empty] 84 (0,0)),(o,.cells #[.string s] 84 (0,0))] [] (by rfl) rfl Tryz.func76 rfl rfl kr (fun w1 h hh hd => bWriteString b (flat four (xs.take i)) B (beS ((xs.getD i 0)) 4) w1 hB hh hd (by rw [beS_size]; have : (four (xs.getD i 0)).length = 4 := be_len _ _; omega))) ?_
   rintro B2 kB2
   refine CfgL.done rfl ?_
   refine Cg (Γ' := [(10,[],.int .i64 (i : Int)),(9,[],.int .i64 (xs.length : Int)),(8,[],.slice (some ⟨sb,off,none⟩) xs.length cap),(5,[],.pointer (some ⟨b,0,none⟩)),(4,[],.pointer (some ⟨rs,0,none⟩)),(2,[],.pointer (some ⟨o,0,none⟩))]) ?_
   refine Rg [2,4,5,8,9,10] [] (fun _ => [((-9223372036854775808 : Int) ≤ ((i : Int) + 1) ∧ ((i : Int) + 1) ≤ 9223372036854775807)]) ⟨om,trivial⟩ ?_
   have hcs2 : ((flat four (xs.take i)) ++ (beS ((xs.getD i 0)) 4).data.toList) = (flat four (xs.take (i + 1))) := by rw [flat_succ 0 om]; rfl
   refine Cfg.setO (congrArg (fun (xq : List UInt8) => (([(rs,.cells #[.string ByteArray.empty] 84 (0,0)),(o,.cells #[.string s] 84 (0,0))] ++ (bl 145 5 b xq B2 ++ [])) : List (Nat × Obj))) (show _ = (flat four (xs.take (i + 1))) from hcs2)) ?_
   refine Cfg.again rfl (i + 1,B2) ⟨by omega,hcs2 ▸ kB2⟩ (by show xs.length - (i + 1) < xs.length - i; omega) (Conv.mk kr) (.cons_cons _ (.cons_cons _ (List.Sublist.refl _)))
  ·have c1 := (of_decide_eq_false c1r)
   obtain rfl : i = xs.length := by omega
   refine Cfg.setO (congrArg (fun (xq : List UInt8) => (([(rs,.cells #[.string ByteArray.empty] 84 (0,0)),(o,.cells #[.string s] 84 (0,0))] ++ (bl 145 5 b xq B ++ [])) : List (Nat × Obj))) (show _ = (flat four xs) from by rw [List.take_length])) ?_
   rw [List.take_length] at hB
   refine Conv.cfg (Γ' := [(9,[],.int .i64 (xs.length : Int)),(8,[],.slice la xs.length cap),(5,[],.pointer (some ⟨b,0,none⟩)),(4,[],.pointer (some ⟨rs,0,none⟩)),(2,[],.pointer (some ⟨o,0,none⟩))]) (Conv.mk kr) ?_
   refine Cfg.begA rfl kr [(o,.cells #[.string s] 84 (0,0))] ?_
   refine Ap [0] [(0,false,some (.agg #[.string s]))] (some [4,5,19]) #[true,false,false,false,false] (.cons _ (.cons_cons _ (List.nil_sublist _))) 4 (fun S => [(∀ w1,S w1 → (loadVar 84 ⟨o,0,none⟩).run Tryz.prog w1 = .ok (.agg #[.string s]) w1)]) ⟨(fun w1 h => h.oload 0 rfl Tryz.underlying84 rfl (n := 1) kr rfl),trivial⟩ ?_
   refine Ae 1 rfl 3  (Eff.callH (vs := [.pointer (some ⟨b,0,none⟩)]) (fun _ : Unit => (.string (tx (flat four xs)) : Value)) (bl 145 5 b (flat four xs) B) (fun _ => []) (fun _ => True) [(rs,.cells #[.string ByteArray.empty] 84 (0,0)),(o,.cells #[.string s] 84 (0,0))] [] (by rfl) rfl Tryz.func78 rfl rfl kr (fun w1 h hh hd => bString b (flat four xs) B w1 hB hh hd om)) (fun _ _ => (.cons _ (.cons_cons _ .slnil))) ?_
   rintro ⟨⟩ -
   refine Ae 2 rfl 2  (Eff.buildSlice (e := 9) (cells := #[.string (tx (flat four xs))]) (parts := #[(0,.string (tx (flat four xs)))]) rfl kr (fun _ => kr)) (fun _ _ => (.cons _ (.cons _ (.cons_cons _ .slnil)))) ?_
   rintro x3 ⟨hx3,nx3⟩
   refine Ae 3 rfl 1  (Eff.callA (vs := [.agg #[.string s],.slice (some ⟨x3,0,none⟩) 1 1]) (.agg #[.string (tx (s.data.toList ++ cat [(tx (flat four xs))]))]) rfl Tryz.func75 rfl rfl kr (fun w1 h => wWith s (some ⟨x3,0,none⟩) 1 [(tx (flat four xs))] [(x3,.cells (List.map Value.string [(tx (flat four xs))]).toArray 9 (0,0))] w1 (inS_lit x3 9 (0,0) [(tx (flat four xs))]) (h.has (fun e he => List.mem_of_getElem? (i := 0) (by rw [List.mem_singleton.1 he]; rfl))) (one_len _) (by rw [cat_tx]; omega))) (fun _ _ => (.cons _ (.cons _ (.cons_cons _ .slnil)))) ?_
   rintro ⟨⟩ -
   refine Ae 4 rfl 0  (Eff.storeN (b := rs) (off := 0) (vs := #[.string (tx (s.data.toList ++ cat [(tx (flat four xs))]))]) (n := 1) rfl kr kr kr rfl (by simp [K.one]) 1 (cs := #[.string ByteArray.empty]) (e := 84) kr (by simp)) (fun _ _ => (.cons _ (.cons _ (.cons_cons _ .slnil)))) ?_
   rintro ⟨⟩ -
   refine CfgA.setO (congrArg (fun (xq : Array Value) => ([(x3,.cells #[.string (tx (flat four xs))] 9 (0,0)),(rs,.cells xq 84 (0,0)),(o,.cells #[.string s] 84 (0,0))] : List (Nat × Obj))) (show _ = #[.string (tx (s.data.toList ++ cat [(tx (flat four xs))]))] from rfl)) ?_
   refine CfgA.done kr ?_
   refine Cg (Γ' := [(4,[],.pointer (some ⟨rs,0,none⟩))]) ?_
   refine Cfg.ret rfl (rs := [.cell 4 84]) rfl [.agg #[.string (tx (s.data.toList ++ cat [(tx (flat four xs))]))]] ⟨⟨_,by kernel_rfl,(fun w1 h => h.oload 1 rfl Tryz.underlying84 rfl (n := 1) kr rfl)⟩,trivial⟩ (fun w1 hp => ?_)
   exact ⟨by rw [cat_tx]; rfl,hp.ext⟩
set_option maxRecDepth 100000 in
theorem wEight (s : ByteArray) (la : Option Addr) (cap : Nat) (xs : List Nat) (Rl : List (Nat × Obj)) (w : World) (hI : InS Rl la xs.length (fun j => .int .u64 ((xs.getD j 0 : Nat) : Int))) (hR : Has w Rl) (hn : xs.length ≤ maxLen) (hr : s.size + (flat eight xs).length ≤ 140737488355328) (hx : ∀ i,xs.getD i 0 < 18446744073709551616) :
  Calls Tryz.prog 31 #[.agg #[.string s],.slice la xs.length cap] w fun e w' => e = .returned (.agg #[.string (tx (s.data.toList ++ flat eight xs))]) ∧ Ext [] w w' := by
 unfold maxLen at hn
 refine enter (vs := [.agg #[.string s],.slice la xs.length cap]) [] Rl [] Tryz.func31 rfl kr (HP.ofHas hR) ?_
 refine Cfg.begL rfl ?_
 refine Le (Eff.box (v := .agg #[.string s]) rfl kr) ?_
 rintro o ⟨ho,no⟩
 refine Le (Eff.alloc (z := (.agg #[.string ByteArray.empty])) rfl kr) ?_
 rintro rs ⟨hrs,nrs⟩
 refine CfgL.done rfl ?_
 refine Cg (Γ' := [(4,[],.pointer (some ⟨rs,0,none⟩)),(2,[],.pointer (some ⟨o,0,none⟩)),(1,[],.slice la xs.length cap)]) ?_
 refine Cfg.begL rfl ?_
 refine Le (Eff.allocB 5 [(rs,.cells #[.string ByteArray.empty] 84 (0,0)),(o,.cells #[.string s] 84 (0,0))] [] rfl rfl kr) ?_
 rintro b ⟨hb,nb⟩
 refine CfgL.done rfl ?_
 refine Rg [2,4,5,8,9,10] [] n0 trivial ?_
 refine Cfg.setO (congrArg (fun (xq : List UInt8) => (([(rs,.cells #[.string ByteArray.empty] 84 (0,0)),(o,.cells #[.string s] 84 (0,0))] ++ (bl 145 5 b xq bd0 ++ [])) : List (Nat × Obj))) (show _ = (flat eight (xs.take 0)) from by rw [List.take_zero]; rfl)) ?_
 refine Cfg.loop rfl (ι := Nat × Bd) (fun (xz : Nat × Bd) => match xz with | (i,B) => [(10,[],.int .i64 (i : Int)),(9,[],.int .i64 (xs.length : Int)),(8,[],.slice la xs.length cap),(5,[],.pointer (some ⟨b,0,none⟩)),(4,[],.pointer (some ⟨rs,0,none⟩)),(2,[],.pointer (some ⟨o,0,none⟩))]) (fun (xz : Nat × Bd) => match xz with | (i,B) => ([(rs,.cells #[.string ByteArray.empty] 84 (0,0)),(o,.cells #[.string s] 84 (0,0))] ++ (bl 145 5 b (flat eight (xs.take i)) B ++ []))) (fun (xz : Nat × Bd) => match xz with | (i,B) => (i ≤ xs.length) ∧ (BdOk b (flat eight (xs.take i)) B)) (fun (xz : Nat × Bd) => match xz with | (i,B) => xs.length - i) (0,bd0) ?_ (Conv.mk kr) (List.Sublist.refl _) ?_
 ·exact ⟨Nat.zero_le _,by rw [List.take_zero]; exact (bd0_ok b)⟩
 ·rintro ⟨i,B⟩ ⟨hi,hB⟩
  have hpart := fun (hlt : i < xs.length) => flat_part (f := eight) 0 hlt
  refine Rg [2,4,5,8,9,10,11] [] n0 trivial ?_
  refine Cfg.cond rfl (b := (decide ((i : Int) < (xs.length : Int)))) kr (fun c1r => ?_) (fun c1r => ?_)
  ·have c1 := (of_decide_eq_true c1r)
   have hpt := hpart om
   obtain ⟨sb,off,cs,te,fre,rfl,hmem,hcs⟩ := hI om
   refine Conv.cfg (Γ' := [(11,[],.bool (decide ((i : Int) < (xs.length : Int)))),(10,[],.int .i64 (i : Int)),(9,[],.int .i64 (xs.length : Int)),(8,[],.slice (some ⟨sb,off,none⟩) xs.length cap),(5,[],.pointer (some ⟨b,0,none⟩)),(4,[],.pointer (some ⟨rs,0,none⟩)),(2,[],.pointer (some ⟨o,0,none⟩))]) (Conv.mk kr) ?_
   refine Rg [2,4,5,7,8,9,10] [dZ,(0,false,some (.int .u64 ((xs.getD i 0) : Int)))] (fun S => [(0 ≤ (i : Int) ∧ (i : Int) < (xs.length : Int)),(∀ w1,S w1 → w1.cell? ⟨sb,(addO off i),none⟩ = some (.int .u64 ((xs.getD i 0) : Int)))]) ⟨om,(fun w1 h => by rw [addO_eq]; exact (cell_cells (h.ro _ hmem)).trans (hcs i om)),trivial⟩ ?_
   refine Cfg.begL rfl ?_
   refine Lp 1 [] (some [2,4,5,8,9,10,14]) n0 trivial ?_
   refine Le (Eff.callA (vs := [.int .u64 ((xs.getD i 0) : Int),.int .i64 8]) (.string (beS ((xs.getD i 0)) 8)) rfl Tryz.func77 rfl rfl kr (fun w1 _ => wNumber8 ((xs.getD i 0)) w1 (by have := hx i; omega))) ?_
   rintro ⟨⟩ -
   refine Le (Eff.callH (vs := [.pointer (some ⟨b,0,none⟩),.string (beS ((xs.getD i 0)) 8)]) (fun _ => (.tuple #[.int .i64 ((beS ((xs.getD i 0)) 8).size : Int),.nilIface] : Value)) (bl 145 5 b (flat eight (xs.take i)) B) (fun B1 => bl 145 5 b ((flat eight (xs.take i)) ++ (beS ((xs.getD i 0)) 8).data.toList) B1) (fun B1 => BdOk b ((flat eight (xs.take i)) ++ (beS ((xs.getD i 0)) 8).data.toList) B1) [(rs,.cells #[.string ByteArray.empty] 84 (0,0)),(o,.cells #[.string s] 84 (0,0))] [] (by rfl) rfl Tryz.func76 rfl rfl kr (fun w1 h hh hd => bWriteString b (flat eight (xs.take i)) B (beS ((xs.getD i 0)) 8) w1 hB hh hd (by rw [beS_size]; have : (eight (xs.getD i 0)).length = 8 := be_len _ _; omega))) ?_
   rintro B2 kB2
   refine CfgL.done rfl ?_
   refine Cg (Γ' := [(10,[],.int .i64 (i : Int)),(9,[],.int .i64 (xs.length : Int)),(8,[],.slice (some ⟨sb,off,none⟩) xs.length cap),(5,[],.pointer (some ⟨b,0,none⟩)),(4,[],.pointer (some ⟨rs,0,none⟩)),(2,[],.pointer (some ⟨o,0,none⟩))]) ?_
   refine Rg [2,4,5,8,9,10] [] (fun _ => [((-9223372036854775808 : Int) ≤ ((i : Int) + 1) ∧ ((i : Int) + 1) ≤ 9223372036854775807)]) ⟨om,trivial⟩ ?_
   have hcs2 : ((flat eight (xs.take i)) ++ (beS ((xs.getD i 0)) 8).data.toList) = (flat eight (xs.take (i + 1))) := by rw [flat_succ 0 om]; rfl
   refine Cfg.setO (congrArg (fun (xq : List UInt8) => (([(rs,.cells #[.string ByteArray.empty] 84 (0,0)),(o,.cells #[.string s] 84 (0,0))] ++ (bl 145 5 b xq B2 ++ [])) : List (Nat × Obj))) (show _ = (flat eight (xs.take (i + 1))) from hcs2)) ?_
   refine Cfg.again rfl (i + 1,B2) ⟨by omega,hcs2 ▸ kB2⟩ (by show xs.length - (i + 1) < xs.length - i; omega) (Conv.mk kr) (.cons_cons _ (.cons_cons _ (List.Sublist.refl _)))
  ·have c1 := (of_decide_eq_false c1r)
   obtain rfl : i = xs.length := by omega
   refine Cfg.setO (congrArg (fun (xq : List UInt8) => (([(rs,.cells #[.string ByteArray.empty] 84 (0,0)),(o,.cells #[.string s] 84 (0,0))] ++ (bl 145 5 b xq B ++ [])) : List (Nat × Obj))) (show _ = (flat eight xs) from by rw [List.take_length])) ?_
   rw [List.take_length] at hB
   refine Conv.cfg (Γ' := [(9,[],.int .i64 (xs.length : Int)),(8,[],.slice la xs.length cap),(5,[],.pointer (some ⟨b,0,none⟩)),(4,[],.pointer (some ⟨rs,0,none⟩)),(2,[],.pointer (some ⟨o,0,none⟩))]) (Conv.mk kr) ?_
   refine Cfg.begA rfl kr [(o,.cells #[.string s] 84 (0,0))] ?_
   refine Ap [0] [(0,false,some (.agg #[.string s]))] (some [4,5,18]) #[true,false,false,false,false] (.cons _ (.cons_cons _ (List.nil_sublist _))) 4 (fun S => [(∀ w1,S w1 → (loadVar 84 ⟨o,0,none⟩).run Tryz.prog w1 = .ok (.agg #[.string s]) w1)]) ⟨(fun w1 h => h.oload 0 rfl Tryz.underlying84 rfl (n := 1) kr rfl),trivial⟩ ?_
   refine Ae 1 rfl 3  (Eff.callH (vs := [.pointer (some ⟨b,0,none⟩)]) (fun _ : Unit => (.string (tx (flat eight xs)) : Value)) (bl 145 5 b (flat eight xs) B) (fun _ => []) (fun _ => True) [(rs,.cells #[.string ByteArray.empty] 84 (0,0)),(o,.cells #[.string s] 84 (0,0))] [] (by rfl) rfl Tryz.func78 rfl rfl kr (fun w1 h hh hd => bString b (flat eight xs) B w1 hB hh hd om)) (fun _ _ => (.cons _ (.cons_cons _ .slnil))) ?_
   rintro ⟨⟩ -
   refine Ae 2 rfl 2  (Eff.buildSlice (e := 9) (cells := #[.string (tx (flat eight xs))]) (parts := #[(0,.string (tx (flat eight xs)))]) rfl kr (fun _ => kr)) (fun _ _ => (.cons _ (.cons _ (.cons_cons _ .slnil)))) ?_
   rintro x3 ⟨hx3,nx3⟩
   refine Ae 3 rfl 1  (Eff.callA (vs := [.agg #[.string s],.slice (some ⟨x3,0,none⟩) 1 1]) (.agg #[.string (tx (s.data.toList ++ cat [(tx (flat eight xs))]))]) rfl Tryz.func75 rfl rfl kr (fun w1 h => wWith s (some ⟨x3,0,none⟩) 1 [(tx (flat eight xs))] [(x3,.cells (List.map Value.string [(tx (flat eight xs))]).toArray 9 (0,0))] w1 (inS_lit x3 9 (0,0) [(tx (flat eight xs))]) (h.has (fun e he => List.mem_of_getElem? (i := 0) (by rw [List.mem_singleton.1 he]; rfl))) (one_len _) (by rw [cat_tx]; omega))) (fun _ _ => (.cons _ (.cons _ (.cons_cons _ .slnil)))) ?_
   rintro ⟨⟩ -
   refine Ae 4 rfl 0  (Eff.storeN (b := rs) (off := 0) (vs := #[.string (tx (s.data.toList ++ cat [(tx (flat eight xs))]))]) (n := 1) rfl kr kr kr rfl (by simp [K.one]) 1 (cs := #[.string ByteArray.empty]) (e := 84) kr (by simp)) (fun _ _ => (.cons _ (.cons _ (.cons_cons _ .slnil)))) ?_
   rintro ⟨⟩ -
   refine CfgA.setO (congrArg (fun (xq : Array Value) => ([(x3,.cells #[.string (tx (flat eight xs))] 9 (0,0)),(rs,.cells xq 84 (0,0)),(o,.cells #[.string s] 84 (0,0))] : List (Nat × Obj))) (show _ = #[.string (tx (s.data.toList ++ cat [(tx (flat eight xs))]))] from rfl)) ?_
   refine CfgA.done kr ?_
   refine Cg (Γ' := [(4,[],.pointer (some ⟨rs,0,none⟩))]) ?_
   refine Cfg.ret rfl (rs := [.cell 4 84]) rfl [.agg #[.string (tx (s.data.toList ++ cat [(tx (flat eight xs))]))]] ⟨⟨_,by kernel_rfl,(fun w1 h => h.oload 1 rfl Tryz.underlying84 rfl (n := 1) kr rfl)⟩,trivial⟩ (fun w1 hp => ?_)
   exact ⟨by rw [cat_tx]; rfl,hp.ext⟩
set_option maxRecDepth 100000 in
theorem wDigest (s : ByteArray) (la : Option Addr) (cap : Nat) (xs : List (List UInt8)) (Rl : List (Nat × Obj)) (w : World) (hI : InS Rl la (xs.length * 32) (fun j => .int .u8 (((xs.getD (j / 32) []).getD (j % 32) 0).toNat : Int))) (hR : Has w Rl) (hn : xs.length ≤ maxLen) (hr : s.size + (flat id xs).length ≤ 140737488355328) (hx : ∀ i,i < xs.length → (xs.getD i []).length = 32) :
  Calls Tryz.prog 35 #[.agg #[.string s],.slice la xs.length cap] w fun e w' => e = .returned (.agg #[.string (tx (s.data.toList ++ flat id xs))]) ∧ Ext [] w w' := by
 unfold maxLen at hn
 refine enter (vs := [.agg #[.string s],.slice la xs.length cap]) [] Rl [] Tryz.func35 rfl kr (HP.ofHas hR) ?_
 refine Cfg.begL rfl ?_
 refine Le (Eff.box (v := .agg #[.string s]) rfl kr) ?_
 rintro o ⟨ho,no⟩
 refine Le (Eff.alloc (z := (.agg #[.string ByteArray.empty])) rfl kr) ?_
 rintro rs ⟨hrs,nrs⟩
 refine CfgL.done rfl ?_
 refine Cg (Γ' := [(4,[],.pointer (some ⟨rs,0,none⟩)),(2,[],.pointer (some ⟨o,0,none⟩)),(1,[],.slice la xs.length cap)]) ?_
 refine Cfg.begL rfl ?_
 refine Le (Eff.allocB 5 [(rs,.cells #[.string ByteArray.empty] 84 (0,0)),(o,.cells #[.string s] 84 (0,0))] [] rfl rfl kr) ?_
 rintro b ⟨hb,nb⟩
 refine CfgL.done rfl ?_
 refine Rg [2,4,5,8,9,10] [] n0 trivial ?_
 refine Cfg.setO (congrArg (fun (xq : List UInt8) => (([(rs,.cells #[.string ByteArray.empty] 84 (0,0)),(o,.cells #[.string s] 84 (0,0))] ++ (bl 145 5 b xq bd0 ++ [])) : List (Nat × Obj))) (show _ = (flat id (xs.take 0)) from by rw [List.take_zero]; rfl)) ?_
 refine Cfg.loop rfl (ι := Nat × Bd) (fun (xz : Nat × Bd) => match xz with | (i,B) => [(10,[],.int .i64 (i : Int)),(9,[],.int .i64 (xs.length : Int)),(8,[],.slice la xs.length cap),(5,[],.pointer (some ⟨b,0,none⟩)),(4,[],.pointer (some ⟨rs,0,none⟩)),(2,[],.pointer (some ⟨o,0,none⟩))]) (fun (xz : Nat × Bd) => match xz with | (i,B) => ([(rs,.cells #[.string ByteArray.empty] 84 (0,0)),(o,.cells #[.string s] 84 (0,0))] ++ (bl 145 5 b (flat id (xs.take i)) B ++ []))) (fun (xz : Nat × Bd) => match xz with | (i,B) => (i ≤ xs.length) ∧ (BdOk b (flat id (xs.take i)) B)) (fun (xz : Nat × Bd) => match xz with | (i,B) => xs.length - i) (0,bd0) ?_ (Conv.mk kr) (List.Sublist.refl _) ?_
 ·exact ⟨Nat.zero_le _,by rw [List.take_zero]; exact (bd0_ok b)⟩
 ·rintro ⟨i,B⟩ ⟨hi,hB⟩
  have hpart := fun (hlt : i < xs.length) => flat_part (f := id) [] hlt
  refine Rg [2,4,5,8,9,10,11] [] n0 trivial ?_
  refine Cfg.cond rfl (b := (decide ((i : Int) < (xs.length : Int)))) kr (fun c1r => ?_) (fun c1r => ?_)
  ·have c1 := (of_decide_eq_true c1r)
   have hpt := hpart om
   obtain ⟨sb,off,cs,te,fre,rfl,hmem,hcs⟩ := hI om
   refine Conv.cfg (Γ' := [(11,[],.bool (decide ((i : Int) < (xs.length : Int)))),(10,[],.int .i64 (i : Int)),(9,[],.int .i64 (xs.length : Int)),(8,[],.slice (some ⟨sb,off,none⟩) xs.length cap),(5,[],.pointer (some ⟨b,0,none⟩)),(4,[],.pointer (some ⟨rs,0,none⟩)),(2,[],.pointer (some ⟨o,0,none⟩))]) (Conv.mk kr) ?_
   refine Cfg.begL rfl ?_
   refine Lp 2 [dZ,(0,false,some (.agg (bv (xs.getD i []))))] (some [2,4,5,8,9,10,13]) (fun S => [(0 ≤ (i : Int) ∧ (i : Int) < (xs.length : Int)),(∀ w1,S w1 → (loadVar 95 ⟨sb,(addO off (i * 32)),none⟩).run Tryz.prog w1 = .ok (.agg (bv (xs.getD i []))) w1)]) ⟨om,(fun w1 h => load_bytes Tryz.underlying95 rfl kr (hx i om) (fun j hj => by rw [addO_eq]; exact (cell_cells (h.ro _ hmem)).trans ((congrArg (fun z => cs[z]?) (show off + i * 32 + j = off + (i * 32 + j) by omega)).trans ((hcs (i * 32 + j) om).trans (by simp only [show (i * 32 + j) / 32 = i by omega,show (i * 32 + j) % 32 = j by omega]))))),trivial⟩ ?_
   refine Le (Eff.alloc (z := (.agg (bv (List.replicate 32 0)))) rfl kr) ?_
   rintro d ⟨hd,nd⟩
   refine Le (Eff.storeN (b := d) (off := 0) (vs := (bv (xs.getD i []))) (n := 32) rfl kr kr kr ((bv_size _).trans (hx i om)) (all_bv _) 0 (cs := (bv (List.replicate 32 0))) (e := 95) kr (by rw [zsz32]; omega)) ?_
   rintro ⟨⟩ -
   refine CfgL.setO (congrArg (fun (xq : Array Value) => (([(d,.cells xq 95 (0,0)),(rs,.cells #[.string ByteArray.empty] 84 (0,0)),(o,.cells #[.string s] 84 (0,0))] ++ (bl 145 5 b (flat id (xs.take i)) B ++ [])) : List (Nat × Obj))) (show _ = (bv (xs.getD i [])) from spl_all (((bv_size _).trans (hx i om)).trans zsz32.symm))) ?_
   refine CfgL.done rfl ?_
   refine Cg (Γ' := [(7,[],.pointer (some ⟨d,0,none⟩)),(10,[],.int .i64 (i : Int)),(9,[],.int .i64 (xs.length : Int)),(8,[],.slice (some ⟨sb,off,none⟩) xs.length cap),(5,[],.pointer (some ⟨b,0,none⟩)),(4,[],.pointer (some ⟨rs,0,none⟩)),(2,[],.pointer (some ⟨o,0,none⟩))]) ?_
   refine Cfg.begL rfl ?_
   refine Lp 1 [] (some [2,4,5,8,9,10,14]) (fun _ => [(32 ≤ 32)]) ⟨om,trivial⟩ ?_
   refine Le (Eff.callH (vs := [.pointer (some ⟨b,0,none⟩),.slice (some ⟨d,0,none⟩) 32 32]) (fun _ => (.tuple #[.int .i64 32,.nilIface] : Value)) (bl 145 5 b (flat id (xs.take i)) B) (fun B1 => bl 145 5 b ((flat id (xs.take i)) ++ (xs.getD i [])) B1) (fun B1 => BdOk b ((flat id (xs.take i)) ++ (xs.getD i [])) B1) [(d,.cells (bv (xs.getD i [])) 95 (0,0)),(rs,.cells #[.string ByteArray.empty] 84 (0,0)),(o,.cells #[.string s] 84 (0,0))] [] (by rfl) rfl Tryz.func79 rfl rfl kr (fun w1 h hh hd => bWrite b (flat id (xs.take i)) B d 32 32 (xs.getD i []) 95 w1 hB hh hd (by have h32 := hx i om; have hid : (id (xs.getD i []) : List UInt8).length = 32 := h32; omega) (by decide) (hx i om) (h.own (d,_) (List.mem_of_getElem? (i := 0) rfl)) (HP.notin h (List.mem_of_getElem? (i := 0) rfl)))) ?_
   rintro B1 kB1
   refine CfgL.done rfl ?_
   refine Cg (Γ' := [(10,[],.int .i64 (i : Int)),(9,[],.int .i64 (xs.length : Int)),(8,[],.slice (some ⟨sb,off,none⟩) xs.length cap),(5,[],.pointer (some ⟨b,0,none⟩)),(4,[],.pointer (some ⟨rs,0,none⟩)),(2,[],.pointer (some ⟨o,0,none⟩))]) ?_
   refine Rg [2,4,5,8,9,10] [] (fun _ => [((-9223372036854775808 : Int) ≤ ((i : Int) + 1) ∧ ((i : Int) + 1) ≤ 9223372036854775807)]) ⟨om,trivial⟩ ?_
   have hcs2 : ((flat id (xs.take i)) ++ (xs.getD i [])) = (flat id (xs.take (i + 1))) := by rw [flat_succ [] om]; rfl
   refine Cfg.setO (congrArg (fun (xq : List UInt8) => (([(d,.cells (bv (xs.getD i [])) 95 (0,0)),(rs,.cells #[.string ByteArray.empty] 84 (0,0)),(o,.cells #[.string s] 84 (0,0))] ++ (bl 145 5 b xq B1 ++ [])) : List (Nat × Obj))) (show _ = (flat id (xs.take (i + 1))) from hcs2)) ?_
   refine Cfg.again rfl (i + 1,B1) ⟨by omega,hcs2 ▸ kB1⟩ (by show xs.length - (i + 1) < xs.length - i; omega) (Conv.mk kr) (.cons _ (.cons_cons _ (.cons_cons _ (List.Sublist.refl _))))
  ·have c1 := (of_decide_eq_false c1r)
   obtain rfl : i = xs.length := by omega
   refine Cfg.setO (congrArg (fun (xq : List UInt8) => (([(rs,.cells #[.string ByteArray.empty] 84 (0,0)),(o,.cells #[.string s] 84 (0,0))] ++ (bl 145 5 b xq B ++ [])) : List (Nat × Obj))) (show _ = (flat id xs) from by rw [List.take_length])) ?_
   rw [List.take_length] at hB
   refine Conv.cfg (Γ' := [(9,[],.int .i64 (xs.length : Int)),(8,[],.slice la xs.length cap),(5,[],.pointer (some ⟨b,0,none⟩)),(4,[],.pointer (some ⟨rs,0,none⟩)),(2,[],.pointer (some ⟨o,0,none⟩))]) (Conv.mk kr) ?_
   refine Cfg.begA rfl kr [(o,.cells #[.string s] 84 (0,0))] ?_
   refine Ap [0] [(0,false,some (.agg #[.string s]))] (some [4,5,17]) #[true,false,false,false,false] (.cons _ (.cons_cons _ (List.nil_sublist _))) 4 (fun S => [(∀ w1,S w1 → (loadVar 84 ⟨o,0,none⟩).run Tryz.prog w1 = .ok (.agg #[.string s]) w1)]) ⟨(fun w1 h => h.oload 0 rfl Tryz.underlying84 rfl (n := 1) kr rfl),trivial⟩ ?_
   refine Ae 1 rfl 3  (Eff.callH (vs := [.pointer (some ⟨b,0,none⟩)]) (fun _ : Unit => (.string (tx (flat id xs)) : Value)) (bl 145 5 b (flat id xs) B) (fun _ => []) (fun _ => True) [(rs,.cells #[.string ByteArray.empty] 84 (0,0)),(o,.cells #[.string s] 84 (0,0))] [] (by rfl) rfl Tryz.func78 rfl rfl kr (fun w1 h hh hd => bString b (flat id xs) B w1 hB hh hd om)) (fun _ _ => (.cons _ (.cons_cons _ .slnil))) ?_
   rintro ⟨⟩ -
   refine Ae 2 rfl 2  (Eff.buildSlice (e := 9) (cells := #[.string (tx (flat id xs))]) (parts := #[(0,.string (tx (flat id xs)))]) rfl kr (fun _ => kr)) (fun _ _ => (.cons _ (.cons _ (.cons_cons _ .slnil)))) ?_
   rintro x4 ⟨hx4,nx4⟩
   refine Ae 3 rfl 1  (Eff.callA (vs := [.agg #[.string s],.slice (some ⟨x4,0,none⟩) 1 1]) (.agg #[.string (tx (s.data.toList ++ cat [(tx (flat id xs))]))]) rfl Tryz.func75 rfl rfl kr (fun w1 h => wWith s (some ⟨x4,0,none⟩) 1 [(tx (flat id xs))] [(x4,.cells (List.map Value.string [(tx (flat id xs))]).toArray 9 (0,0))] w1 (inS_lit x4 9 (0,0) [(tx (flat id xs))]) (h.has (fun e he => List.mem_of_getElem? (i := 0) (by rw [List.mem_singleton.1 he]; rfl))) (one_len _) (by rw [cat_tx]; omega))) (fun _ _ => (.cons _ (.cons _ (.cons_cons _ .slnil)))) ?_
   rintro ⟨⟩ -
   refine Ae 4 rfl 0  (Eff.storeN (b := rs) (off := 0) (vs := #[.string (tx (s.data.toList ++ cat [(tx (flat id xs))]))]) (n := 1) rfl kr kr kr rfl (by simp [K.one]) 1 (cs := #[.string ByteArray.empty]) (e := 84) kr (by simp)) (fun _ _ => (.cons _ (.cons _ (.cons_cons _ .slnil)))) ?_
   rintro ⟨⟩ -
   refine CfgA.setO (congrArg (fun (xq : Array Value) => ([(x4,.cells #[.string (tx (flat id xs))] 9 (0,0)),(rs,.cells xq 84 (0,0)),(o,.cells #[.string s] 84 (0,0))] : List (Nat × Obj))) (show _ = #[.string (tx (s.data.toList ++ cat [(tx (flat id xs))]))] from rfl)) ?_
   refine CfgA.done kr ?_
   refine Cg (Γ' := [(4,[],.pointer (some ⟨rs,0,none⟩))]) ?_
   refine Cfg.ret rfl (rs := [.cell 4 84]) rfl [.agg #[.string (tx (s.data.toList ++ cat [(tx (flat id xs))]))]] ⟨⟨_,by kernel_rfl,(fun w1 h => h.oload 1 rfl Tryz.underlying84 rfl (n := 1) kr rfl)⟩,trivial⟩ (fun w1 hp => ?_)
   exact ⟨by rw [cat_tx]; rfl,hp.ext⟩
set_option maxRecDepth 100000 in
theorem wRaw (s : ByteArray) (la : Option Addr) (cap : Nat) (ss : List ByteArray) (Rl : List (Nat × Obj)) (w : World) (hI : InS Rl la ss.length (fun j => .string (sat ss j))) (hR : Has w Rl) (hn : ss.length ≤ maxLen) (hr : s.size + (cat ss).length ≤ 140737488355328) :
  Calls Tryz.prog 30 #[.agg #[.string s],.slice la ss.length cap] w fun e w' => e = .returned (.agg #[.string (tx (s.data.toList ++ cat ss))]) ∧ Ext [] w w' := by
 refine enter (vs := [.agg #[.string s],.slice la ss.length cap]) [] Rl [] Tryz.func30 rfl kr (HP.ofHas hR) ?_
 refine Cfg.begL rfl ?_
 refine Le (Eff.box (v := .agg #[.string s]) rfl kr) ?_
 rintro o ⟨ho,no⟩
 refine Le (Eff.alloc (z := (.agg #[.string ByteArray.empty])) rfl kr) ?_
 rintro rs ⟨hrs,nrs⟩
 refine CfgL.done rfl ?_
 refine Cg (Γ' := [(4,[],.pointer (some ⟨rs,0,none⟩)),(2,[],.pointer (some ⟨o,0,none⟩)),(1,[],.slice la ss.length cap)]) ?_
 refine Cfg.begL rfl ?_
 refine Lp 2 [(0,false,some (.agg #[.string s]))] (some [4,5,6]) (fun S => [(∀ w1,S w1 → (loadVar 84 ⟨o,0,none⟩).run Tryz.prog w1 = .ok (.agg #[.string s]) w1)]) ⟨(fun w1 h => h.oload 1 rfl Tryz.underlying84 rfl (n := 1) kr rfl),trivial⟩ ?_
 refine Le (Eff.callA (vs := [.agg #[.string s],.slice la ss.length cap]) (.agg #[.string (tx (s.data.toList ++ cat ss))]) rfl Tryz.func75 rfl rfl kr (fun w1 h => wWith s la cap ss Rl w1 hI (h.hasR (fun _ he => he)) hn hr)) ?_
 rintro ⟨⟩ -
 refine Le (Eff.storeN (b := rs) (off := 0) (vs := #[.string (tx (s.data.toList ++ cat ss))]) (n := 1) rfl kr kr kr rfl (by simp [K.one]) 0 (cs := #[.string ByteArray.empty]) (e := 84) kr (by simp)) ?_
 rintro ⟨⟩ -
 refine CfgL.setO (congrArg (fun (xq : Array Value) => ([(rs,.cells xq 84 (0,0)),(o,.cells #[.string s] 84 (0,0))] : List (Nat × Obj))) (show _ = #[.string (tx (s.data.toList ++ cat ss))] from rfl)) ?_
 refine CfgL.done rfl ?_
 refine Cg (Γ' := [(4,[],.pointer (some ⟨rs,0,none⟩))]) ?_
 refine Cfg.ret rfl (rs := [.cell 4 84]) rfl [.agg #[.string (tx (s.data.toList ++ cat ss))]] ⟨⟨_,by kernel_rfl,(fun w1 h => h.oload 0 rfl Tryz.underlying84 rfl (n := 1) kr rfl)⟩,trivial⟩ (fun w1 hp => ?_)
 exact ⟨rfl,hp.ext⟩
set_option maxRecDepth 100000 in
theorem wString (s : ByteArray) (w : World) :
  Calls Tryz.prog 34 #[.agg #[.string s]] w fun e w' => e = .returned (.string s) ∧ Ext [] w w' := by
 refine enter (vs := [.agg #[.string s]]) [] [] [] Tryz.func34 rfl kr (HP.start w) ?_
 refine Cfg.begL rfl ?_
 refine Le (Eff.box (v := .agg #[.string s]) rfl kr) ?_
 rintro o ⟨ho,no⟩
 refine Lp 1 [] (some [1]) n0 trivial ?_
 refine CfgL.done rfl ?_
 refine Rg [2] [dZ,(0,false,some (.string s))] (fun S => [(∀ w1,S w1 → w1.cell? ⟨o,0,none⟩ = some (.string s))]) ⟨(fun w1 h => h.ocell 0 rfl rfl),trivial⟩ ?_
 refine Cfg.ret rfl (rs := [.tmp 2]) rfl [.string s] ⟨kr,trivial⟩ (fun w1 hp => ?_)
 exact ⟨rfl,hp.ext⟩
end Go.Proofs.YtohjpggjgomgoaaGreatDoor
namespace Go.Proofs.YtohjpggjgomgoaaGreatDoor
open K
set_option linter.unusedVariables false
theorem byteLt (b : UInt8) : b.toNat < 256 := UInt8.toNat_lt b
structure IN where
 er : Int
 rest : List UInt8
def inC (z : IN) : Array Value := #[.int .i64 z.er,.string (tx z.rest)]
def failF (z : IN) (e : Int) : IN := if z.er = 0 then ⟨e,z.rest⟩ else z
def nextF (z : IN) (n : Int) : List UInt8 × IN := if z.er ≠ 0 then ([],z) else if n < 0 ∨ n > (z.rest.length : Int) then ([],⟨3,z.rest⟩) else (z.rest.take n.toNat,⟨z.er,z.rest.drop n.toNat⟩)
theorem tx_take (l : List UInt8) (n : Nat) : (tx l).extract 0 n = tx (l.take n) := by
 apply ByteArray.ext
 apply Array.ext'
 rw [ByteArray.data_extract,Array.toList_extract,List.extract_eq_take_drop]
 simp [tx]
theorem tx_drop (l : List UInt8) (n : Nat) : (tx l).extract n (tx l).size = tx (l.drop n) := by
 apply ByteArray.ext
 apply Array.ext'
 rw [ByteArray.data_extract,Array.toList_extract,List.extract_eq_take_drop,tx_size]
 simp only [tx,List.take_of_length_le (show (l.drop n).length ≤ l.length - n by simp)]
theorem nextF_len (z : IN) (n : Nat) : (nextF z n).1.length ≤ n := by
 unfold nextF
 split
 ·simp
 ·split
  ·simp
  ·simp; omega
def vf (n : Nat) (b : UInt8) : Nat := n * 256 % 18446744073709551616 + b.toNat
def valF (l : List UInt8) : Nat := l.foldl vf 0
theorem vf_lt (n : Nat) (b : UInt8) : vf n b < 18446744073709551616 := by have := byteLt b; unfold vf; omega
theorem foldl_lt : ∀ (l : List UInt8) (n : Nat),n < 18446744073709551616 → l.foldl vf n < 18446744073709551616
 | [],n,h => h
 | b :: l,n,_ => foldl_lt l (vf n b) (vf_lt n b)
theorem valF_lt (l : List UInt8) : valF l < 18446744073709551616 := foldl_lt l 0 (by decide)
theorem or256 (a b : Nat) (hb : b < 256) : 256 * a ||| b = 256 * a + b := by
 have := Nat.two_pow_add_eq_or_of_lt (i := 8) (b := b) (by simpa using hb) a
 simpa using this.symm
theorem vf_or (n : Nat) (b : UInt8) : ((((n : Int) * 256) % 18446744073709551616).toNat ||| b.toNat) = vf n b := by
 have := byteLt b
 rw [show (((n : Int) * 256) % 18446744073709551616).toNat = 256 * (n % 72057594037927936) by omega,or256 _ _ this]
 unfold vf; omega
def gb (l : List UInt8) (i : Nat) : UInt8 := l.getD i 0
theorem val_succ {l : List UInt8} {i : Nat} (h : i < l.length) : valF (l.take (i + 1)) = vf (valF (l.take i)) (gb l i) := by
 unfold valF
 rw [List.take_succ_eq_append_getElem h,List.foldl_append]
 simp [gb,List.getElem?_eq_getElem h]
def byteF (z : IN) : Nat × IN := (valF (nextF z 1).1 % 256,(nextF z 1).2)
def fourF (z : IN) : Nat × IN := (valF (nextF z 4).1 % 4294967296,(nextF z 4).2)
def eightF (z : IN) : Nat × IN := (valF (nextF z 8).1,(nextF z 8).2)
def boundF (z : IN) (most e : Int) : Nat × IN := if (fourF z).1 > (if 0 > most then 0 else most).toNat then (0,failF (fourF z).2 e) else fourF z
theorem fourF_lt (z : IN) : (fourF z).1 < 4294967296 := Nat.mod_lt _ (by decide)
theorem sbyte_gb (l : List UInt8) (i : Nat) : sbyte (tx l) (i : Int) = ((gb l i).toNat : Int) := rfl
set_option maxRecDepth 100000 in
theorem wOf (l : List UInt8) (w : World) :
  Calls Tryz.prog 41 #[.string (tx l)] w fun e w' => ∃ b : Nat,True ∧ e = .returned (.pointer (some ⟨b,0,none⟩)) ∧ w.heap.size ≤ b ∧ w'.heap[b]? = some (.cells (inC ⟨0,l⟩) 162 (0,0)) ∧ Ext [] w w' := by
 refine enter (vs := [.string (tx l)]) [] [] [] Tryz.func41 rfl kr (HP.start w) ?_
 refine Rg [0] [] n0 trivial ?_
 refine Cfg.begL rfl ?_
 refine Lp 2 [dZ,(0,false,some (.agg (inC ⟨0,l⟩)))] (some [4]) (fun S => [(∀ w1,S w1 → (Instr.build 162 #[(1,.string (tx l))]).run Tryz.prog w1 = .ok (.agg (inC ⟨0,l⟩)) w1)]) ⟨(fun _ _ => kr),trivial⟩ ?_
 refine Le (Eff.box (v := .agg (inC ⟨0,l⟩)) rfl kr) ?_
 rintro b1 ⟨hb1,nb1⟩
 refine Lp 1 [] (some [2]) n0 trivial ?_
 refine CfgL.done rfl ?_
 refine Cfg.ret rfl (rs := [.tmp 2]) rfl [.pointer (some ⟨b1,0,none⟩)] ⟨kr,trivial⟩ (fun w1 hp => ?_)
 exact ⟨b1,trivial,rfl,hb1,hp.own (b1,_) (List.mem_cons_self ..),hp.ext⟩
set_option maxRecDepth 100000 in
theorem wFailed (b : Nat) (z : IN) (w : World) (hB : w.heap[b]? = some (.cells (inC z) 162 (0,0))) :
  Calls Tryz.prog 103 #[.pointer (some ⟨b,0,none⟩)] w fun e w' => e = .returned (.bool (z.er != (0 : Int))) ∧ Ext [] w w' := by
 refine enter (vs := [.pointer (some ⟨b,0,none⟩)]) [] [(b,.cells (inC z) 162 (0,0))] [] Tryz.func103 rfl kr (HP.ofHas (fun e he => by rw [List.mem_singleton.1 he]; exact hB)) ?_
 refine Rg [0] [] n0 trivial ?_
 refine Rg [2] [dZ,dZ,dZ,(0,false,some (.int .i64 z.er))] (fun S => [(∀ w1,S w1 → w1.cell? ⟨b,0,none⟩ = some (.int .i64 z.er))]) ⟨(fun w1 h => h.rcell 0 rfl rfl),trivial⟩ ?_
 refine Cfg.ret rfl (rs := [.tmp 2]) rfl [.bool (z.er != (0 : Int))] ⟨kr,trivial⟩ (fun w1 hp => ?_)
 exact ⟨rfl,hp.ext⟩
set_option maxRecDepth 100000 in
theorem wNote (b : Nat) (z : IN) (x : Int) (w : World) (hB : w.heap[b]? = some (.cells (inC z) 162 (0,0))) :
  Calls Tryz.prog 104 #[.pointer (some ⟨b,0,none⟩),.int .i64 x] w fun e w' => e = .returned (.tuple #[]) ∧ Ext [b] w w' ∧ w'.heap[b]? = some (.cells (inC (failF z x)) 162 (0,0)) := by
 refine enter (vs := [.pointer (some ⟨b,0,none⟩),.int .i64 x]) [b] [] [(b,.cells (inC z) 162 (0,0))] Tryz.func104 rfl kr (HP.startM (R := []) (fun _ h => by cases h) hB (by simp)) ?_
 refine Rg [0,1,8] [dZ,dZ,dZ,(0,false,some (.int .i64 z.er))] (fun S => [(∀ w1,S w1 → w1.cell? ⟨b,0,none⟩ = some (.int .i64 z.er))]) ⟨(fun w1 h => h.ocell 0 rfl rfl),trivial⟩ ?_
 refine Cfg.cond rfl (b := (z.er == (0 : Int))) kr (fun c1r => ?_) (fun c1r => ?_)
 ·have c1 := (beq_iff_eq.1 c1r)
  refine Cfg.begL rfl ?_
  refine Lp 4 [] (some [10,12]) n0 trivial ?_
  refine Le (Eff.store1 (b := b) (off := 0) (v := .int .i64 x) rfl kr kr rfl kr 0 (cs := (inC z)) (e := 162) kr (by simp [inC])) ?_
  rintro ⟨⟩ -
  refine CfgL.done rfl ?_
  refine Cg (Γ' := []) ?_
  refine Cfg.fin rfl (rs := []) rfl [] trivial (fun w1 hp => ?_)
  exact ⟨rfl,hp.ext,(show failF z x = ⟨x,z.rest⟩ from if_pos c1).symm ▸ hp.own (b,_) (List.mem_cons_self ..)⟩
 ·have c1 := (beq_eq_false_iff_ne.1 c1r)
  refine Cfg.fin rfl (rs := []) rfl [] trivial (fun w1 hp => ?_)
  exact ⟨rfl,hp.ext,(show failF z x = z from if_neg c1).symm ▸ hp.own (b,_) (List.mem_cons_self ..)⟩
set_option maxRecDepth 100000 in
theorem wNext (b : Nat) (z : IN) (n : Int) (w : World) (hB : w.heap[b]? = some (.cells (inC z) 162 (0,0))) :
  Calls Tryz.prog 85 #[.pointer (some ⟨b,0,none⟩),.int .i64 n] w fun e w' => e = .returned (.string (tx (nextF z n).1)) ∧ Ext [b] w w' ∧ w'.heap[b]? = some (.cells (inC (nextF z n).2) 162 (0,0)) := by
 have hts := tx_size z.rest
 refine enter (vs := [.pointer (some ⟨b,0,none⟩),.int .i64 n]) [b] [] [(b,.cells (inC z) 162 (0,0))] Tryz.func85 rfl kr (HP.startM (R := []) (fun _ h => by cases h) hB (by simp)) ?_
 refine Rg [0,1] [] n0 trivial ?_
 refine Cfg.begL rfl ?_
 refine Lp 6 [dZ,dZ,dZ,(1,false,none),(1,false,none),(1,false,none)] (some [0,1,8,11]) (fun _ => [((.bool false : Value) = .bool false),((.bool false : Value) = .bool false),((.bool false : Value) = .bool false)]) ⟨rfl,rfl,rfl,trivial⟩ ?_
 refine Le (Eff.callA (vs := [.pointer (some ⟨b,0,none⟩)]) (.bool (z.er != (0 : Int))) rfl Tryz.func103 rfl rfl kr (fun w1 h => wFailed b z w1 (h.own (b,_) (List.mem_of_getElem? (i := 0) rfl)))) ?_
 rintro ⟨⟩ -
 refine Lp 1 [] (some [0,1,13]) n0 trivial ?_
 refine CfgL.done rfl ?_
 refine Cfg.cond rfl (b := (z.er != (0 : Int))) kr (fun c1r => ?_) (fun c1r => ?_)
 ·have c1 := (bne_iff_ne.1 c1r)
  refine Rg [4] [] n0 trivial ?_
  refine Cfg.ret rfl (rs := [.tmp 4]) rfl [.string ⟨#[]⟩] ⟨kr,trivial⟩ (fun w1 hp => ?_)
  have hx : nextF z n = ([],z) := if_pos c1
  rw [hx]
  exact ⟨rfl,hp.ext,hp.own (b,_) (List.mem_cons_self ..)⟩
 ·have c1 := (bne_eq_false_iff_eq.1 c1r)
  refine Rg [0,1,24] [dZ,dZ,dZ,dZ,dZ,dZ,dZ,(0,false,some (.string (tx z.rest)))] (fun S => [((.bool (decide (n < (0 : Int))) : Value) = .bool false → (∀ w1,S w1 → w1.cell? ⟨b,1,none⟩ = some (.string (tx z.rest))))]) ⟨(fun g0 => have q0 : (¬ (n < (0 : Int))) := (of_decide_eq_false (boolV g0)); (fun w1 h => h.ocell 0 rfl rfl)),trivial⟩ ?_
  refine Cfg.cond rfl (b := ((decide (n < (0 : Int))) || (decide (n > ((tx z.rest).size : Int))))) kr (fun c2r => ?_) (fun c2r => ?_)
  ·have c2 : ((n < (0 : Int)) ∨ (n > ((tx z.rest).size : Int))) := ((orT c2r).elim (fun h => Or.inl (of_decide_eq_true h)) (fun h => Or.inr (of_decide_eq_true h)))
   refine Cfg.begL rfl ?_
   refine Lp 3 [] (some [27]) n0 trivial ?_
   refine Le (Eff.callM (vs := [.pointer (some ⟨b,0,none⟩),.int .i64 3]) (.tuple #[]) 0 (b := b) (ob := .cells (inC z) 162 (0,0)) (.cells (inC (failF z (3 : Int))) 162 (0,0)) rfl Tryz.func104 rfl rfl kr kr (fun w1 h => wNote b z (3 : Int) w1 (h.own (b,_) (List.mem_of_getElem? (i := 0) rfl)))) ?_
   rintro ⟨⟩ -
   refine CfgL.done rfl ?_
   refine Cg (Γ' := []) ?_
   refine Rg [4] [] n0 trivial ?_
   refine Cfg.ret rfl (rs := [.tmp 4]) rfl [.string ⟨#[]⟩] ⟨kr,trivial⟩ (fun w1 hp => ?_)
   have hx : nextF z n = ([],⟨3,z.rest⟩) := (if_neg om).trans (if_pos om)
   have hf : failF z (3 : Int) = ⟨3,z.rest⟩ := if_pos om
   rw [hx]
   exact ⟨rfl,hp.ext,hf ▸ hp.own (b,_) (List.mem_cons_self ..)⟩
  ·have c2 : ((¬ (n < (0 : Int))) ∧ (¬ (n > ((tx z.rest).size : Int)))) := ⟨(of_decide_eq_false (orF1 c2r)),(of_decide_eq_false (orF2 c2r))⟩
   refine Rg [0,1,5] [dZ,dZ,dZ,(0,false,some (.string (tx z.rest)))] (fun S => [(∀ w1,S w1 → w1.cell? ⟨b,1,none⟩ = some (.string (tx z.rest))),(0 ≤ n),(0 ≤ (n).toNat ∧ (n).toNat ≤ (tx z.rest).size)]) ⟨(fun w1 h => h.ocell 0 rfl rfl),om,om,trivial⟩ ?_
   refine Cfg.begL rfl ?_
   refine Lp 9 [dZ,dZ,dZ,dZ,(0,false,some (.string (tx z.rest)))] (some [5,41,43]) (fun S => [(∀ w1,S w1 → w1.cell? ⟨b,1,none⟩ = some (.string (tx z.rest))),(0 ≤ n),((n).toNat ≤ (tx z.rest).size ∧ (tx z.rest).size ≤ (tx z.rest).size)]) ⟨(fun w1 h => h.ocell 0 rfl rfl),om,om,trivial⟩ ?_
   refine Le (Eff.store1 (b := b) (off := 1) (v := .string ((tx z.rest).extract ((n).toNat) ((tx z.rest).size))) rfl kr kr rfl kr 0 (cs := (inC z)) (e := 162) kr (by simp [inC])) ?_
   rintro ⟨⟩ -
   refine CfgL.done rfl ?_
   refine Cg (Γ' := [(5,[],.string ((tx z.rest).extract 0 ((n).toNat)))]) ?_
   refine Rg [4] [] n0 trivial ?_
   refine Cfg.ret rfl (rs := [.tmp 4]) rfl [.string ((tx z.rest).extract 0 ((n).toNat))] ⟨kr,trivial⟩ (fun w1 hp => ?_)
   have hx : nextF z n = (z.rest.take n.toNat,⟨z.er,z.rest.drop n.toNat⟩) := (if_neg om).trans (if_neg om)
   rw [hx]
   exact ⟨by rw [tx_take]; rfl,hp.ext,by show w1.heap[b]? = some (.cells #[.int .i64 z.er,.string (tx (z.rest.drop n.toNat))] 162 (0,0)); rw [← tx_drop]; exact hp.own (b,_) (List.mem_cons_self ..)⟩
set_option maxRecDepth 100000 in
theorem wValue (l : List UInt8) (w : World) (hl : l.length ≤ 9223372036854775807) :
  Calls Tryz.prog 86 #[.string (tx l)] w fun e w' => e = .returned (.int .u64 (valF l : Int)) ∧ Ext [] w w' := by
 have hts := tx_size l
 refine enter (vs := [.string (tx l)]) [] [] [] Tryz.func86 rfl kr (HP.start w) ?_
 refine Rg [0] [] n0 trivial ?_
 refine Rg [0,3] [] n0 trivial ?_
 refine Rg [0,3,6,7] [] n0 trivial ?_
 refine Cfg.loop rfl (ι := Nat) (fun (i : Nat) => [(7,[],.int .i64 (i : Int)),(6,[],.int .i64 ((tx l).size : Int)),(3,[],.int .u64 ((valF (l.take i)) : Int)),(0,[],.string (tx l))]) (fun (i : Nat) => []) (fun (i : Nat) => (i ≤ l.length)) (fun (i : Nat) => l.length - i) 0 ?_ (Conv.mk kr) .slnil ?_
 ·exact Nat.zero_le _
 ·rintro i hi
  refine Rg [0,3,6,7,8] [] n0 trivial ?_
  refine Cfg.cond rfl (b := (decide ((i : Int) < ((tx l).size : Int)))) kr (fun c1r => ?_) (fun c1r => ?_)
  ·have c1 := (of_decide_eq_true c1r)
   refine Rg [0,3,4,6,7] [] n0 trivial ?_
   refine Rg [0,3,6,7] [] (fun _ => [(0 ≤ (8 : Int) ∧ 8 ≤ 64),(0 ≤ (i : Int) ∧ (i : Int) < ((tx l).size : Int)),((0 : Int) ≤ (sbyte (tx l) (i : Int)) ∧ (sbyte (tx l) (i : Int)) ≤ 18446744073709551615),((0 ≤ ((((valF (l.take i)) : Int) * 256) % 18446744073709551616) ∧ ((((valF (l.take i)) : Int) * 256) % 18446744073709551616) ≤ 18446744073709551615) ∧ 0 ≤ (sbyte (tx l) (i : Int)) ∧ (sbyte (tx l) (i : Int)) ≤ 18446744073709551615)]) ⟨om,om,(by have := byteLt (gb l i); have := valF_lt (l.take i); have := sbyte_gb l i; omega),(by have := byteLt (gb l i); have := valF_lt (l.take i); have := sbyte_gb l i; omega),trivial⟩ ?_
   refine Rg [0,3,6,7] [] (fun _ => [((-9223372036854775808 : Int) ≤ ((i : Int) + 1) ∧ ((i : Int) + 1) ≤ 9223372036854775807)]) ⟨om,trivial⟩ ?_
   refine Cg (Γ' := [(7,[],.int .i64 ((i : Int) + 1)),(3,[],.int .u64 (((((((valF (l.take i)) : Int) * 256) % 18446744073709551616)).toNat ||| ((sbyte (tx l) (i : Int))).toNat : Nat) : Int)),(6,[],.int .i64 ((tx l).size : Int)),(0,[],.string (tx l))]) ?_
   refine Cfg.setG (congrArg (fun (xq : Int) => ([(7,[],.int .i64 ((i : Int) + 1)),(3,[],.int .u64 xq),(6,[],.int .i64 ((tx l).size : Int)),(0,[],.string (tx l))] : Env)) (show _ = ((valF (l.take (i + 1))) : Int) from by rw [val_succ om,← vf_or,sbyte_gb]; rfl)) ?_
   refine Cfg.again rfl (i + 1) (show i + 1 ≤ l.length by omega) om (Conv.mk kr) .slnil
  ·have c1 := (of_decide_eq_false c1r)
   refine Rg [2] [] n0 trivial ?_
   refine Cfg.ret rfl (rs := [.tmp 2]) rfl [.int .u64 ((valF (l.take i)) : Int)] ⟨kr,trivial⟩ (fun w1 hp => ?_)
   exact ⟨by rw [show l.take i = l from List.take_of_length_le om]; rfl,hp.ext⟩
set_option maxRecDepth 100000 in
theorem wTByte (b : Nat) (z : IN) (w : World) (hB : w.heap[b]? = some (.cells (inC z) 162 (0,0))) :
  Calls Tryz.prog 46 #[.pointer (some ⟨b,0,none⟩)] w fun e w' => e = .returned (.int .u8 ((byteF z).1 : Int)) ∧ Ext [b] w w' ∧ w'.heap[b]? = some (.cells (inC (byteF z).2) 162 (0,0)) := by
 refine enter (vs := [.pointer (some ⟨b,0,none⟩)]) [b] [] [(b,.cells (inC z) 162 (0,0))] Tryz.func46 rfl kr (HP.startM (R := []) (fun _ h => by cases h) hB (by simp)) ?_
 refine Rg [0] [] n0 trivial ?_
 refine Cfg.begL rfl ?_
 refine Lp 1 [] (some [3]) n0 trivial ?_
 refine Le (Eff.callM (vs := [.pointer (some ⟨b,0,none⟩),.int .i64 1]) (.string (tx (nextF z (1 : Int)).1)) 0 (b := b) (ob := .cells (inC z) 162 (0,0)) (.cells (inC ((nextF z (1 : Int)).2)) 162 (0,0)) rfl Tryz.func85 rfl rfl kr kr (fun w1 h => wNext b z (1 : Int) w1 (h.own (b,_) (List.mem_of_getElem? (i := 0) rfl)))) ?_
 rintro ⟨⟩ -
 refine Le (Eff.callA (vs := [.string (tx (nextF z (1 : Int)).1)]) (.int .u64 ((valF ((nextF z (1 : Int)).1)) : Int)) rfl Tryz.func86 rfl rfl kr (fun w1 _ => wValue ((nextF z (1 : Int)).1) w1 (Nat.le_trans (nextF_len _ _) (by decide)))) ?_
 rintro ⟨⟩ -
 refine Lp 2 [] (some [2]) n0 trivial ?_
 refine CfgL.done rfl ?_
 refine Cfg.ret rfl (rs := [.tmp 2]) rfl [.int .u8 (((valF ((nextF z (1 : Int)).1)) : Int) % 256)] ⟨kr,trivial⟩ (fun w1 hp => ?_)
 exact ⟨rfl,hp.ext,hp.own (b,_) (List.mem_cons_self ..)⟩
set_option maxRecDepth 100000 in
theorem wTFour (b : Nat) (z : IN) (w : World) (hB : w.heap[b]? = some (.cells (inC z) 162 (0,0))) :
  Calls Tryz.prog 105 #[.pointer (some ⟨b,0,none⟩)] w fun e w' => e = .returned (.int .u32 ((fourF z).1 : Int)) ∧ Ext [b] w w' ∧ w'.heap[b]? = some (.cells (inC (fourF z).2) 162 (0,0)) := by
 refine enter (vs := [.pointer (some ⟨b,0,none⟩)]) [b] [] [(b,.cells (inC z) 162 (0,0))] Tryz.func105 rfl kr (HP.startM (R := []) (fun _ h => by cases h) hB (by simp)) ?_
 refine Rg [0] [] n0 trivial ?_
 refine Cfg.begL rfl ?_
 refine Lp 1 [] (some [3]) n0 trivial ?_
 refine Le (Eff.callM (vs := [.pointer (some ⟨b,0,none⟩),.int .i64 4]) (.string (tx (nextF z (4 : Int)).1)) 0 (b := b) (ob := .cells (inC z) 162 (0,0)) (.cells (inC ((nextF z (4 : Int)).2)) 162 (0,0)) rfl Tryz.func85 rfl rfl kr kr (fun w1 h => wNext b z (4 : Int) w1 (h.own (b,_) (List.mem_of_getElem? (i := 0) rfl)))) ?_
 rintro ⟨⟩ -
 refine Le (Eff.callA (vs := [.string (tx (nextF z (4 : Int)).1)]) (.int .u64 ((valF ((nextF z (4 : Int)).1)) : Int)) rfl Tryz.func86 rfl rfl kr (fun w1 _ => wValue ((nextF z (4 : Int)).1) w1 (Nat.le_trans (nextF_len _ _) (by decide)))) ?_
 rintro ⟨⟩ -
 refine Lp 2 [] (some [2]) n0 trivial ?_
 refine CfgL.done rfl ?_
 refine Cfg.ret rfl (rs := [.tmp 2]) rfl [.int .u32 (((valF ((nextF z (4 : Int)).1)) : Int) % 4294967296)] ⟨kr,trivial⟩ (fun w1 hp => ?_)
 exact ⟨rfl,hp.ext,hp.own (b,_) (List.mem_cons_self ..)⟩
set_option maxRecDepth 100000 in
theorem wTEight (b : Nat) (z : IN) (w : World) (hB : w.heap[b]? = some (.cells (inC z) 162 (0,0))) :
  Calls Tryz.prog 43 #[.pointer (some ⟨b,0,none⟩)] w fun e w' => e = .returned (.int .u64 ((eightF z).1 : Int)) ∧ Ext [b] w w' ∧ w'.heap[b]? = some (.cells (inC (eightF z).2) 162 (0,0)) := by
 refine enter (vs := [.pointer (some ⟨b,0,none⟩)]) [b] [] [(b,.cells (inC z) 162 (0,0))] Tryz.func43 rfl kr (HP.startM (R := []) (fun _ h => by cases h) hB (by simp)) ?_
 refine Rg [0] [] n0 trivial ?_
 refine Cfg.begL rfl ?_
 refine Lp 1 [] (some [3]) n0 trivial ?_
 refine Le (Eff.callM (vs := [.pointer (some ⟨b,0,none⟩),.int .i64 8]) (.string (tx (nextF z (8 : Int)).1)) 0 (b := b) (ob := .cells (inC z) 162 (0,0)) (.cells (inC ((nextF z (8 : Int)).2)) 162 (0,0)) rfl Tryz.func85 rfl rfl kr kr (fun w1 h => wNext b z (8 : Int) w1 (h.own (b,_) (List.mem_of_getElem? (i := 0) rfl)))) ?_
 rintro ⟨⟩ -
 refine Le (Eff.callA (vs := [.string (tx (nextF z (8 : Int)).1)]) (.int .u64 ((valF ((nextF z (8 : Int)).1)) : Int)) rfl Tryz.func86 rfl rfl kr (fun w1 _ => wValue ((nextF z (8 : Int)).1) w1 (Nat.le_trans (nextF_len _ _) (by decide)))) ?_
 rintro ⟨⟩ -
 refine Lp 1 [] (some [2]) n0 trivial ?_
 refine CfgL.done rfl ?_
 refine Cfg.ret rfl (rs := [.tmp 2]) rfl [.int .u64 ((valF ((nextF z (8 : Int)).1)) : Int)] ⟨kr,trivial⟩ (fun w1 hp => ?_)
 exact ⟨rfl,hp.ext,hp.own (b,_) (List.mem_cons_self ..)⟩
set_option maxRecDepth 100000 in
theorem wFail (b : Nat) (z : IN) (x : Int) (w : World) (hB : w.heap[b]? = some (.cells (inC z) 162 (0,0))) :
  Calls Tryz.prog 106 #[.pointer (some ⟨b,0,none⟩),.int .i64 x] w fun e w' => e = .returned (.tuple #[]) ∧ Ext [b] w w' ∧ w'.heap[b]? = some (.cells (inC (failF z x)) 162 (0,0)) := by
 refine enter (vs := [.pointer (some ⟨b,0,none⟩),.int .i64 x]) [b] [] [(b,.cells (inC z) 162 (0,0))] Tryz.func106 rfl kr (HP.startM (R := []) (fun _ h => by cases h) hB (by simp)) ?_
 refine Rg [0,1,5] [] n0 trivial ?_
 refine Cfg.condT rfl (b := true) kr rfl ?_
 refine Cfg.begL rfl ?_
 refine Lp 4 [] (some [8,9]) n0 trivial ?_
 refine Le (Eff.callM (vs := [.pointer (some ⟨b,0,none⟩),.int .i64 x]) (.tuple #[]) 0 (b := b) (ob := .cells (inC z) 162 (0,0)) (.cells (inC (failF z x)) 162 (0,0)) rfl Tryz.func104 rfl rfl kr kr (fun w1 h => wNote b z x w1 (h.own (b,_) (List.mem_of_getElem? (i := 0) rfl)))) ?_
 rintro ⟨⟩ -
 refine CfgL.done rfl ?_
 refine Cg (Γ' := []) ?_
 refine Cfg.fin rfl (rs := []) rfl [] trivial (fun w1 hp => ?_)
 exact ⟨rfl,hp.ext,hp.own (b,_) (List.mem_cons_self ..)⟩
set_option maxRecDepth 100000 in
theorem wBounded (b : Nat) (z : IN) (most x : Int) (w : World) (hB : w.heap[b]? = some (.cells (inC z) 162 (0,0))) (hm : most ≤ 9223372036854775807) :
  Calls Tryz.prog 87 #[.pointer (some ⟨b,0,none⟩),.int .i64 most,.int .i64 x] w fun e w' => e = .returned (.int .i64 ((boundF z most x).1 : Int)) ∧ Ext [b] w w' ∧ w'.heap[b]? = some (.cells (inC (boundF z most x).2) 162 (0,0)) := by
 have hfl := fourF_lt z
 have hmx : (if (0 : Int) > most then (0 : Int) else most) ≤ 9223372036854775807 ∧ 0 ≤ (if (0 : Int) > most then (0 : Int) else most) := by split <;> omega
 refine enter (vs := [.pointer (some ⟨b,0,none⟩),.int .i64 most,.int .i64 x]) [b] [] [(b,.cells (inC z) 162 (0,0))] Tryz.func87 rfl kr (HP.startM (R := []) (fun _ h => by cases h) hB (by simp)) ?_
 refine Rg [0,1,2] [] n0 trivial ?_
 refine Cfg.begL rfl ?_
 refine Lp 1 [] none n0 trivial ?_
 refine Le (Eff.callM (vs := [.pointer (some ⟨b,0,none⟩)]) (.int .u32 ((fourF z).1 : Int)) 0 (b := b) (ob := .cells (inC z) 162 (0,0)) (.cells (inC ((fourF z).2)) 162 (0,0)) rfl Tryz.func105 rfl rfl kr kr (fun w1 h => wTFour b z w1 (h.own (b,_) (List.mem_of_getElem? (i := 0) rfl)))) ?_
 rintro ⟨⟩ -
 refine Lp 1 [] (some [0,1,2,7]) n0 trivial ?_
 refine CfgL.done rfl ?_
 refine Cfg.begL rfl ?_
 refine Lp 3 [] (some [0,2,7,11,12]) (fun _ => [((0 : Int) ≤ ((fourF z).1 : Int) ∧ ((fourF z).1 : Int) ≤ 18446744073709551615)]) ⟨om,trivial⟩ ?_
 refine Le (Eff.maxI (k := .i64) (a := most) (b := 0) rfl kr kr) ?_
 rintro ⟨⟩ -
 refine Lp 2 [] (some [0,2,7,15]) n0 trivial ?_
 refine CfgL.done rfl ?_
 refine Cfg.cond rfl (b := (decide (((fourF z).1 : Int) > ((if (0 : Int) > most then (0 : Int) else most) % 18446744073709551616)))) kr (fun c1r => ?_) (fun c1r => ?_)
 ·have c1 := (of_decide_eq_true c1r)
  refine Cfg.begL rfl ?_
  refine Lp 2 [] (some [16,17]) n0 trivial ?_
  refine Le (Eff.callM (vs := [.pointer (some ⟨b,0,none⟩),.int .i64 x]) (.tuple #[]) 0 (b := b) (ob := .cells (inC ((fourF z).2)) 162 (0,0)) (.cells (inC (failF ((fourF z).2) x)) 162 (0,0)) rfl Tryz.func106 rfl rfl kr kr (fun w1 h => wFail b ((fourF z).2) x w1 (h.own (b,_) (List.mem_of_getElem? (i := 0) rfl)))) ?_
  rintro ⟨⟩ -
  refine CfgL.done rfl ?_
  refine Cg (Γ' := []) ?_
  refine Rg [6] [] n0 trivial ?_
  refine Cfg.ret rfl (rs := [.tmp 6]) rfl [.int .i64 0] ⟨kr,trivial⟩ (fun w1 hp => ?_)
  have hx : boundF z most x = (0,failF (fourF z).2 x) := if_pos om
  rw [hx]
  exact ⟨rfl,hp.ext,hp.own (b,_) (List.mem_cons_self ..)⟩
 ·have c1 := (of_decide_eq_false c1r)
  refine Rg [6] [] (fun _ => [((-9223372036854775808 : Int) ≤ ((fourF z).1 : Int) ∧ ((fourF z).1 : Int) ≤ 9223372036854775807)]) ⟨om,trivial⟩ ?_
  refine Cfg.ret rfl (rs := [.tmp 6]) rfl [.int .i64 ((fourF z).1 : Int)] ⟨kr,trivial⟩ (fun w1 hp => ?_)
  have hx : boundF z most x = fourF z := if_neg om
  rw [hx]
  exact ⟨rfl,hp.ext,hp.own (b,_) (List.mem_cons_self ..)⟩
set_option maxRecDepth 100000 in
theorem wCount (b : Nat) (z : IN) (most : Int) (w : World) (hB : w.heap[b]? = some (.cells (inC z) 162 (0,0))) (hm : most ≤ 9223372036854775807) :
  Calls Tryz.prog 44 #[.pointer (some ⟨b,0,none⟩),.int .i64 most] w fun e w' => e = .returned (.int .i64 ((boundF z most 6).1 : Int)) ∧ Ext [b] w w' ∧ w'.heap[b]? = some (.cells (inC (boundF z most 6).2) 162 (0,0)) := by
 refine enter (vs := [.pointer (some ⟨b,0,none⟩),.int .i64 most]) [b] [] [(b,.cells (inC z) 162 (0,0))] Tryz.func44 rfl kr (HP.startM (R := []) (fun _ h => by cases h) hB (by simp)) ?_
 refine Rg [0,1] [] n0 trivial ?_
 refine Cfg.begL rfl ?_
 refine Lp 2 [] (some [5,6]) n0 trivial ?_
 refine Le (Eff.callM (vs := [.pointer (some ⟨b,0,none⟩),.int .i64 most,.int .i64 6]) (.int .i64 ((boundF z most (6 : Int)).1 : Int)) 0 (b := b) (ob := .cells (inC z) 162 (0,0)) (.cells (inC ((boundF z most (6 : Int)).2)) 162 (0,0)) rfl Tryz.func87 rfl rfl kr kr (fun w1 h => wBounded b z most (6 : Int) w1 (h.own (b,_) (List.mem_of_getElem? (i := 0) rfl)) om)) ?_
 rintro ⟨⟩ -
 refine Lp 1 [] (some [4]) n0 trivial ?_
 refine CfgL.done rfl ?_
 refine Cfg.ret rfl (rs := [.tmp 4]) rfl [.int .i64 ((boundF z most (6 : Int)).1 : Int)] ⟨kr,trivial⟩ (fun w1 hp => ?_)
 exact ⟨rfl,hp.ext,hp.own (b,_) (List.mem_cons_self ..)⟩
set_option maxRecDepth 100000 in
theorem wTRaw (b : Nat) (z : IN) (n : Int) (w : World) (hB : w.heap[b]? = some (.cells (inC z) 162 (0,0))) :
  Calls Tryz.prog 42 #[.pointer (some ⟨b,0,none⟩),.int .i64 n] w fun e w' => e = .returned (.string (tx (nextF z n).1)) ∧ Ext [b] w w' ∧ w'.heap[b]? = some (.cells (inC (nextF z n).2) 162 (0,0)) := by
 refine enter (vs := [.pointer (some ⟨b,0,none⟩),.int .i64 n]) [b] [] [(b,.cells (inC z) 162 (0,0))] Tryz.func42 rfl kr (HP.startM (R := []) (fun _ h => by cases h) hB (by simp)) ?_
 refine Rg [0,1] [] n0 trivial ?_
 refine Cfg.begL rfl ?_
 refine Lp 2 [] (some [5,6]) n0 trivial ?_
 refine Le (Eff.callM (vs := [.pointer (some ⟨b,0,none⟩),.int .i64 n]) (.string (tx (nextF z n).1)) 0 (b := b) (ob := .cells (inC z) 162 (0,0)) (.cells (inC ((nextF z n).2)) 162 (0,0)) rfl Tryz.func85 rfl rfl kr kr (fun w1 h => wNext b z n w1 (h.own (b,_) (List.mem_of_getElem? (i := 0) rfl)))) ?_
 rintro ⟨⟩ -
 refine Lp 1 [] (some [4]) n0 trivial ?_
 refine CfgL.done rfl ?_
 refine Cfg.ret rfl (rs := [.tmp 4]) rfl [.string (tx (nextF z n).1)] ⟨kr,trivial⟩ (fun w1 hp => ?_)
 exact ⟨rfl,hp.ext,hp.own (b,_) (List.mem_cons_self ..)⟩
set_option maxRecDepth 100000 in
theorem wErr (b : Nat) (z : IN) (w : World) (hB : w.heap[b]? = some (.cells (inC z) 162 (0,0))) :
  Calls Tryz.prog 45 #[.pointer (some ⟨b,0,none⟩)] w fun e w' => e = .returned (.int .i64 z.er) ∧ Ext [] w w' := by
 refine enter (vs := [.pointer (some ⟨b,0,none⟩)]) [] [(b,.cells (inC z) 162 (0,0))] [] Tryz.func45 rfl kr (HP.ofHas (fun e he => by rw [List.mem_singleton.1 he]; exact hB)) ?_
 refine Rg [0] [] n0 trivial ?_
 refine Rg [0,4] [] n0 trivial ?_
 refine Cfg.condF rfl (b := false) kr rfl ?_
 refine Rg [2] [dZ,dZ,dZ,dZ,(0,false,some (.int .i64 z.er))] (fun S => [(∀ w1,S w1 → w1.cell? ⟨b,0,none⟩ = some (.int .i64 z.er))]) ⟨(fun w1 h => h.rcell 0 rfl rfl),trivial⟩ ?_
 refine Cfg.ret rfl (rs := [.tmp 2]) rfl [.int .i64 z.er] ⟨kr,trivial⟩ (fun w1 hp => ?_)
 exact ⟨rfl,hp.ext⟩
end Go.Proofs.YtohjpggjgomgoaaGreatDoor
namespace Go.Proofs.YtohjpggjgomgoaaGreatDoor
open K
set_option linter.unusedVariables false
def nd (n i : Nat) : Nat := n / 256 ^ i
theorem nd_zero (n : Nat) : nd n 0 = n := by simp [nd]
theorem nd_succ (n i : Nat) : nd n i / 256 = nd n (i + 1) := by unfold nd; rw [Nat.pow_succ,Nat.div_div_eq_div_mul]
theorem str1 {P : Program} {w0 w : World} {M : List Nat} {R O : List (Nat × Obj)} (h : HP w0 M R O w) (i : Nat) {b : Nat} {t : TypeId} {x : Int} (ho : O[i]? = some (b,.cells #[.int .u8 x] t (0,0))) (h0 : 0 ≤ x ∧ x ≤ 255) :
  (Conv.bytesToString (.slice (some ⟨b,0,none⟩) 1 1)).run P w = .ok (.string (tx [UInt8.ofNat x.toNat])) w := by
 have e1 : (#[.int .u8 x] : Array Value) = bv [UInt8.ofNat x.toNat] := by
  simp only [bv,List.map_cons,List.map_nil]
  rw [show ((UInt8.ofNat x.toNat).toNat : Int) = x by simp; omega]
 rw [e1] at ho
 exact h.ostr i ho rfl
theorem be_step (n i : Nat) : tx [UInt8.ofNat (((nd n i : Int) % 256) % 256).toNat] ++ beS n i = beS n (i + 1) := by
 apply ByteArray.ext
 rw [ByteArray.data_append]
 apply Array.ext'
 rw [show (((nd n i : Int) % 256) % 256).toNat = nd n i % 256 by omega,u8_mod]
 simp [tx,beS,be,nd]
theorem tx_app (a b : List UInt8) : tx a ++ tx b = tx (a ++ b) := by
 apply ByteArray.ext
 rw [ByteArray.data_append]
 apply Array.ext'
 simp [tx]
theorem take_one {l : List UInt8} {i : Nat} (h : i < l.length) : l.take i ++ [l.getD i 0] = l.take (i + 1) := by
 rw [List.take_succ_eq_append_getElem h]; simp [List.getElem?_eq_getElem h]
theorem u8_same (b : UInt8) : UInt8.ofNat ((b.toNat : Int)).toNat = b := by simp
theorem inS_num (bk : Nat) (t : TypeId) (fr : Nat × Nat) (k : IntKind) (n : Nat) : InS [(bk,.cells #[.int k (n : Int)] t fr)] (some ⟨bk,0,none⟩) [n].length (fun j => .int k (([n].getD j 0 : Nat) : Int)) := by
 intro _
 refine ⟨bk,0,_,t,fr,rfl,List.mem_singleton.2 rfl,fun j hj => ?_⟩
 obtain rfl : j = 0 := by simpa using hj
 rfl
theorem one_get {n m : Nat} (h : n < m) (hm : 0 < m) (i : Nat) : [n].getD i 0 < m := by
 cases i with
 | zero => exact h
 | succ i => exact hm
theorem flat_one {α : Type} (f : α → List UInt8) (x : α) : flat f [x] = f x := by simp [flat]
set_option maxRecDepth 100000 in
theorem rNum (n k : Nat) (w : World) (hn : n < 18446744073709551616) (hk : k ≤ 8) :
  Calls Tryz.prog 37 #[.int .u64 (n : Int),.int .i64 (k : Int)] w fun e w' => e = .returned (.string (beS n k)) ∧ Ext [] w w' := by
 refine enter (vs := [.int .u64 (n : Int),.int .i64 (k : Int)]) [] [] [] Tryz.func37 rfl kr (HP.start w) ?_
 refine Rg [0,1] [] n0 trivial ?_
 refine Rg [0,1,5] [] n0 trivial ?_
 refine Rg [0,1,5,6] [] n0 trivial ?_
 refine Cg (Γ' := [(6,[],.int .i64 0),(5,[],.string ⟨#[]⟩),(0,[],.int .u64 (n : Int)),(1,[],.int .i64 (k : Int))]) ?_
 refine Cfg.setG (congrArg (fun (xq : Int) => ([(6,[],.int .i64 0),(5,[],.string ⟨#[]⟩),(0,[],.int .u64 xq),(1,[],.int .i64 (k : Int))] : Env)) (show _ = ((nd n 0) : Int) from by rw [nd_zero])) ?_
 refine Cfg.loop rfl (ι := Nat) (fun (i : Nat) => [(6,[],.int .i64 (i : Int)),(5,[],.string (beS n i)),(0,[],.int .u64 ((nd n i) : Int)),(1,[],.int .i64 (k : Int))]) (fun (i : Nat) => []) (fun (i : Nat) => (i ≤ k)) (fun (i : Nat) => k - i) 0 ?_ (Conv.mk kr) .slnil ?_
 ·exact Nat.zero_le _
 ·rintro i hi
  refine Rg [0,1,5,6,9] [] n0 trivial ?_
  refine Cfg.cond rfl (b := (decide ((i : Int) < (k : Int)))) kr (fun c1r => ?_) (fun c1r => ?_)
  ·have c1 := (of_decide_eq_true c1r)
   refine Cfg.begL rfl ?_
   refine Lp 3 [] (some [0,1,5,6,14]) (fun _ => [(0 ≤ ((nd n i) : Int) ∧ 0 < (256 : Int))]) ⟨(by have : nd n i ≤ n := Nat.div_le_self _ _; omega),trivial⟩ ?_
   refine Le (Eff.buildSlice (e := 5) (cells := #[.int .u8 ((((nd n i) : Int) % 256) % 256)]) (parts := #[(0,.int .u8 ((((nd n i) : Int) % 256) % 256))]) rfl kr (fun _ => kr)) ?_
   rintro x1 ⟨hx1,nx1⟩
   refine Lp 4 [(0,false,some (.string (tx [UInt8.ofNat (((((nd n i) : Int) % 256) % 256)).toNat])))] (some [0,1,5,6]) (fun S => [(∀ w1,S w1 → (Conv.bytesToString (.slice (some ⟨x1,0,none⟩) 1 1)).run Tryz.prog w1 = .ok (.string (tx [UInt8.ofNat (((((nd n i) : Int) % 256) % 256)).toNat])) w1),((tx [UInt8.ofNat (((((nd n i) : Int) % 256) % 256)).toNat]).size + (beS n i).size ≤ 9223372036854775807)]) ⟨(fun w1 h => str1 h 0 rfl om),(by rw [beS_size,tx_size]; simp only [List.length_cons,List.length_nil]; omega),trivial⟩ ?_
   refine CfgL.done rfl ?_
   refine Rg [0,1,5,6] [] (fun _ => [(0 ≤ ((nd n i) : Int) ∧ ((nd n i) : Int) ≤ 18446744073709551615 ∧ 0 < (256 : Int))]) ⟨(by have : nd n i ≤ n := Nat.div_le_self _ _; omega),trivial⟩ ?_
   refine Rg [0,1,5,6] [] (fun _ => [((-9223372036854775808 : Int) ≤ ((i : Int) + 1) ∧ ((i : Int) + 1) ≤ 9223372036854775807)]) ⟨om,trivial⟩ ?_
   refine Cg (Γ' := [(6,[],.int .i64 ((i : Int) + 1)),(0,[],.int .u64 (((nd n i) : Int) / 256)),(5,[],.string ((tx [UInt8.ofNat (((((nd n i) : Int) % 256) % 256)).toNat]) ++ (beS n i))),(1,[],.int .i64 (k : Int))]) ?_
   refine Cfg.setG (congrArg (fun (xq : ByteArray) => ([(6,[],.int .i64 ((i : Int) + 1)),(0,[],.int .u64 (((nd n i) : Int) / 256)),(5,[],.string xq),(1,[],.int .i64 (k : Int))] : Env)) (show _ = (beS n (i + 1)) from be_step n i)) ?_
   refine Cg (Γ' := [(6,[],.int .i64 ((i : Int) + 1)),(0,[],.int .u64 (((nd n i) : Int) / 256)),(5,[],.string (beS n (i + 1))),(1,[],.int .i64 (k : Int))]) ?_
   refine Cfg.setG (congrArg (fun (xq : Int) => ([(6,[],.int .i64 ((i : Int) + 1)),(0,[],.int .u64 xq),(5,[],.string (beS n (i + 1))),(1,[],.int .i64 (k : Int))] : Env)) (show _ = ((nd n (i + 1)) : Int) from by rw [← nd_succ]; rfl)) ?_
   refine Cfg.again rfl (i + 1) (show i + 1 ≤ k by omega) om (Conv.mk kr) (.cons _ .slnil)
  ·have c1 := (of_decide_eq_false c1r)
   refine Rg [4] [] n0 trivial ?_
   refine Cfg.ret rfl (rs := [.tmp 4]) rfl [.string (beS n i)] ⟨kr,trivial⟩ (fun w1 hp => ?_)
   obtain rfl : i = k := by omega
   exact ⟨rfl,hp.ext⟩
set_option maxRecDepth 100000 in
theorem rDigest (l : List UInt8) (w : World) (hl : l.length = 32) :
  Calls Tryz.prog 39 #[.agg (bv l)] w fun e w' => e = .returned (.string (tx l)) ∧ Ext [] w w' := by
 refine enter (vs := [.agg (bv l)]) [] [] [] Tryz.func39 rfl kr (HP.start w) ?_
 refine Cfg.begL rfl ?_
 refine Le (Eff.box (v := .agg (bv l)) rfl kr) ?_
 rintro d ⟨hd,nd⟩
 refine Lp 1 [] (some [1]) n0 trivial ?_
 refine CfgL.done rfl ?_
 refine Rg [1,3] [] n0 trivial ?_
 refine Rg [1,3,4] [] n0 trivial ?_
 refine Cfg.loop rfl (ι := Nat) (fun (i : Nat) => [(4,[],.int .i64 (i : Int)),(3,[],.string (tx (l.take i))),(1,[],.pointer (some ⟨d,0,none⟩))]) (fun (i : Nat) => [(d,.cells (bv l) 95 (0,0))]) (fun (i : Nat) => (i ≤ 32)) (fun (i : Nat) => 32 - i) 0 ?_ (Conv.mk kr) (.cons_cons _ .slnil) ?_
 ·exact Nat.zero_le _
 ·rintro i hi
  refine Rg [1,3,4,6] [] n0 trivial ?_
  refine Cfg.cond rfl (b := (decide ((i : Int) < (32 : Int)))) kr (fun c1r => ?_) (fun c1r => ?_)
  ·have c1 := (of_decide_eq_true c1r)
   refine Cfg.begL rfl ?_
   refine Lp 4 [dZ,dZ,dZ,(0,false,some (.int .u8 ((l.getD i 0).toNat : Int)))] (some [1,3,4,9,12]) (fun S => [(0 ≤ (i : Int) ∧ (i : Int) < (32 : Int)),(∀ w1,S w1 → w1.cell? ⟨d,i,none⟩ = some (.int .u8 ((l.getD i 0).toNat : Int)))]) ⟨(by have := byteLt (l.getD i 0); omega),(fun w1 h => h.ocell 0 rfl (bv_get hl om)),trivial⟩ ?_
   refine Le (Eff.buildSlice (e := 5) (cells := #[.int .u8 ((l.getD i 0).toNat : Int)]) (parts := #[(0,.int .u8 ((l.getD i 0).toNat : Int))]) rfl kr (fun _ => kr)) ?_
   rintro x ⟨hx,nx⟩
   refine Lp 3 [(0,false,some (.string (tx [UInt8.ofNat (((l.getD i 0).toNat : Int)).toNat])))] (some [1,3,4]) (fun S => [(∀ w1,S w1 → (Conv.bytesToString (.slice (some ⟨x,0,none⟩) 1 1)).run Tryz.prog w1 = .ok (.string (tx [UInt8.ofNat (((l.getD i 0).toNat : Int)).toNat])) w1),((tx (l.take i)).size + (tx [UInt8.ofNat (((l.getD i 0).toNat : Int)).toNat]).size ≤ 9223372036854775807)]) ⟨(fun w1 h => str1 h 0 rfl (by have := byteLt (l.getD i 0); omega)),(by rw [tx_size,tx_size]; simp only [List.length_cons,List.length_nil,List.length_take]; omega),trivial⟩ ?_
   refine CfgL.done rfl ?_
   refine Rg [1,3,4] [] (fun _ => [((-9223372036854775808 : Int) ≤ ((i : Int) + 1) ∧ ((i : Int) + 1) ≤ 9223372036854775807)]) ⟨(by have := byteLt (l.getD i 0); omega),trivial⟩ ?_
   refine Cg (Γ' := [(4,[],.int .i64 ((i : Int) + 1)),(3,[],.string ((tx (l.take i)) ++ (tx [UInt8.ofNat (((l.getD i 0).toNat : Int)).toNat]))),(1,[],.pointer (some ⟨d,0,none⟩))]) ?_
   refine Cfg.setG (congrArg (fun (xq : ByteArray) => ([(4,[],.int .i64 ((i : Int) + 1)),(3,[],.string xq),(1,[],.pointer (some ⟨d,0,none⟩))] : Env)) (show _ = (tx (l.take (i + 1))) from by rw [u8_same,tx_app,take_one om])) ?_
   refine Cfg.again rfl (i + 1) (show i + 1 ≤ 32 by omega) om (Conv.mk kr) (.cons _ (.cons_cons _ .slnil))
  ·have c1 := (of_decide_eq_false c1r)
   refine Rg [2] [] n0 trivial ?_
   refine Cfg.ret rfl (rs := [.tmp 2]) rfl [.string (tx (l.take i))] ⟨kr,trivial⟩ (fun w1 hp => ?_)
   exact ⟨by rw [show l.take i = l from List.take_of_length_le om]; rfl,hp.ext⟩
end Go.Proofs.YtohjpggjgomgoaaGreatDoor
namespace Go.Proofs.YtohjpggjgomgoaaGreatDoor
open K
set_option linter.unusedVariables false
def inR (z : IN) : Array Value := #[.string (tx z.rest),.int .i64 z.er]
theorem valF_lt4 {l : List UInt8} (h : l.length ≤ 4) : valF l < 4294967296 := by
 have key : ∀ (l : List UInt8) (m : Nat),(m + 1) * 256 ^ l.length ≤ 18446744073709551616 → l.foldl vf m < (m + 1) * 256 ^ l.length := by
  intro l
  induction l with
  | nil => intro m _; simp
  | cons b l ih =>
   intro m hm
   have hb := byteLt b
   rw [List.length_cons,Nat.pow_succ,Nat.mul_comm (256 ^ l.length) 256,← Nat.mul_assoc] at hm ⊢
   have hk : 0 < 256 ^ l.length := Nat.pow_pos (by decide)
   have h1 : (m + 1) * 256 ≤ 18446744073709551616 := Nat.le_trans (Nat.le_mul_of_pos_right _ hk) hm
   have e : vf m b = m * 256 + b.toNat := by unfold vf; omega
   rw [List.foldl_cons,e]
   have h2 : (m * 256 + b.toNat + 1) * 256 ^ l.length ≤ (m + 1) * 256 * 256 ^ l.length := Nat.mul_le_mul_right _ om
   exact Nat.lt_of_lt_of_le (ih _ (Nat.le_trans h2 hm)) h2
 have h1 := key l 0 (by
  have : 256 ^ l.length ≤ 256 ^ 4 := Nat.pow_le_pow_right (by decide) h
  omega)
 have h2 : 256 ^ l.length ≤ 256 ^ 4 := Nat.pow_le_pow_right (by decide) h
 unfold valF
 omega
theorem vf_sum (n : Nat) (b : UInt8) : ((((n : Int) * 256) % 18446744073709551616) + (b.toNat : Int)) % 18446744073709551616 = (vf n b : Int) := by
 have h1 := vf_lt n b
 unfold vf at h1 ⊢
 omega
theorem failF_ne (z : IN) {e : Int} (he : e ≠ 0) : (failF z e).er ≠ 0 := by
 unfold failF; split
 ·exact he
 ·assumption
set_option maxRecDepth 100000 in
theorem rRaw (b : Nat) (z : IN) (n : Int) (w : World) (hB : w.heap[b]? = some (.cells (inR z) 108 (0,0))) :
  Calls Tryz.prog 47 #[.pointer (some ⟨b,0,none⟩),.int .i64 n] w fun e w' => e = .returned (.string (tx (nextF z n).1)) ∧ Ext [b] w w' ∧ w'.heap[b]? = some (.cells (inR (nextF z n).2) 108 (0,0)) := by
 have hts := tx_size z.rest
 refine enter (vs := [.pointer (some ⟨b,0,none⟩),.int .i64 n]) [b] [] [(b,.cells (inR z) 108 (0,0))] Tryz.func47 rfl kr (HP.startM (R := []) (fun _ h => by cases h) hB (by simp)) ?_
 refine Rg [0,1] [] n0 trivial ?_
 refine Rg [0,1,10] [dZ,dZ,dZ,(0,false,some (.int .i64 z.er))] (fun S => [(∀ w1,S w1 → w1.cell? ⟨b,1,none⟩ = some (.int .i64 z.er))]) ⟨(fun w1 h => h.ocell 0 rfl rfl),trivial⟩ ?_
 refine Cfg.cond rfl (b := (z.er != (0 : Int))) kr (fun c1r => ?_) (fun c1r => ?_)
 ·have c1 := (bne_iff_ne.1 c1r)
  refine Rg [4] [] n0 trivial ?_
  refine Cfg.ret rfl (rs := [.tmp 4]) rfl [.string ⟨#[]⟩] ⟨kr,trivial⟩ (fun w1 hp => ?_)
  have hx : nextF z n = ([],z) := if_pos c1
  rw [hx]
  exact ⟨rfl,hp.ext,hp.own (b,_) (List.mem_cons_self ..)⟩
 ·have c1 := (bne_eq_false_iff_eq.1 c1r)
  refine Rg [0,1,21] [dZ,dZ,dZ,dZ,dZ,dZ,dZ,(0,false,some (.string (tx z.rest)))] (fun S => [((.bool (decide (n < (0 : Int))) : Value) = .bool false → (∀ w1,S w1 → w1.cell? ⟨b,0,none⟩ = some (.string (tx z.rest))))]) ⟨(fun g0 => have q0 : (¬ (n < (0 : Int))) := (of_decide_eq_false (boolV g0)); (fun w1 h => h.ocell 0 rfl rfl)),trivial⟩ ?_
  refine Cfg.cond rfl (b := ((decide (n < (0 : Int))) || (decide (n > ((tx z.rest).size : Int))))) kr (fun c2r => ?_) (fun c2r => ?_)
  ·have c2 : ((n < (0 : Int)) ∨ (n > ((tx z.rest).size : Int))) := ((orT c2r).elim (fun h => Or.inl (of_decide_eq_true h)) (fun h => Or.inr (of_decide_eq_true h)))
   refine Cfg.begL rfl ?_
   refine Lp 3 [] (some [24]) n0 trivial ?_
   refine Le (Eff.store1 (b := b) (off := 1) (v := .int .i64 3) rfl kr kr rfl kr 0 (cs := (inR z)) (e := 108) kr (by simp [inR])) ?_
   rintro ⟨⟩ -
   refine CfgL.done rfl ?_
   refine Cg (Γ' := []) ?_
   refine Rg [4] [] n0 trivial ?_
   refine Cfg.ret rfl (rs := [.tmp 4]) rfl [.string ⟨#[]⟩] ⟨kr,trivial⟩ (fun w1 hp => ?_)
   have hx : nextF z n = ([],⟨3,z.rest⟩) := (if_neg om).trans (if_pos om)
   rw [hx]
   exact ⟨rfl,hp.ext,hp.own (b,_) (List.mem_cons_self ..)⟩
  ·have c2 : ((¬ (n < (0 : Int))) ∧ (¬ (n > ((tx z.rest).size : Int)))) := ⟨(of_decide_eq_false (orF1 c2r)),(of_decide_eq_false (orF2 c2r))⟩
   refine Rg [0,1,5] [dZ,dZ,dZ,(0,false,some (.string (tx z.rest)))] (fun S => [(∀ w1,S w1 → w1.cell? ⟨b,0,none⟩ = some (.string (tx z.rest))),(0 ≤ n),(0 ≤ (n).toNat ∧ (n).toNat ≤ (tx z.rest).size)]) ⟨(fun w1 h => h.ocell 0 rfl rfl),om,om,trivial⟩ ?_
   refine Cfg.begL rfl ?_
   refine Lp 9 [dZ,dZ,dZ,dZ,(0,false,some (.string (tx z.rest)))] (some [5,37,39]) (fun S => [(∀ w1,S w1 → w1.cell? ⟨b,0,none⟩ = some (.string (tx z.rest))),(0 ≤ n),((n).toNat ≤ (tx z.rest).size ∧ (tx z.rest).size ≤ (tx z.rest).size)]) ⟨(fun w1 h => h.ocell 0 rfl rfl),om,om,trivial⟩ ?_
   refine Le (Eff.store1 (b := b) (off := 0) (v := .string ((tx z.rest).extract ((n).toNat) ((tx z.rest).size))) rfl kr kr rfl kr 0 (cs := (inR z)) (e := 108) kr (by simp [inR])) ?_
   rintro ⟨⟩ -
   refine CfgL.done rfl ?_
   refine Cg (Γ' := [(5,[],.string ((tx z.rest).extract 0 ((n).toNat)))]) ?_
   refine Rg [4] [] n0 trivial ?_
   refine Cfg.ret rfl (rs := [.tmp 4]) rfl [.string ((tx z.rest).extract 0 ((n).toNat))] ⟨kr,trivial⟩ (fun w1 hp => ?_)
   have hx : nextF z n = (z.rest.take n.toNat,⟨z.er,z.rest.drop n.toNat⟩) := (if_neg om).trans (if_neg om)
   rw [hx]
   exact ⟨by rw [tx_take]; rfl,hp.ext,by show w1.heap[b]? = some (.cells #[.string (tx (z.rest.drop n.toNat)),.int .i64 z.er] 108 (0,0)); rw [← tx_drop]; exact hp.own (b,_) (List.mem_cons_self ..)⟩
set_option maxRecDepth 100000 in
theorem rNumI (b : Nat) (z : IN) (k : Nat) (w : World) (hB : w.heap[b]? = some (.cells (inR z) 108 (0,0))) (hk : k ≤ 8) :
  Calls Tryz.prog 48 #[.pointer (some ⟨b,0,none⟩),.int .i64 (k : Int)] w fun e w' => e = .returned (.int .u64 (valF (nextF z (k : Int)).1 : Int)) ∧ Ext [b] w w' ∧ w'.heap[b]? = some (.cells (inR (nextF z (k : Int)).2) 108 (0,0)) := by
 have hts := tx_size (nextF z (k : Int)).1
 have hnl := nextF_len z k
 refine enter (vs := [.pointer (some ⟨b,0,none⟩),.int .i64 (k : Int)]) [b] [] [(b,.cells (inR z) 108 (0,0))] Tryz.func48 rfl kr (HP.startM (R := []) (fun _ h => by cases h) hB (by simp)) ?_
 refine Rg [0,1] [] n0 trivial ?_
 refine Cfg.begL rfl ?_
 refine Lp 2 [] (some [8,9]) n0 trivial ?_
 refine Le (Eff.callM (vs := [.pointer (some ⟨b,0,none⟩),.int .i64 (k : Int)]) (.string (tx (nextF z (k : Int)).1)) 0 (b := b) (ob := .cells (inR z) 108 (0,0)) (.cells (inR ((nextF z (k : Int)).2)) 108 (0,0)) rfl Tryz.func47 rfl rfl kr kr (fun w1 h => rRaw b z (k : Int) w1 (h.own (b,_) (List.mem_of_getElem? (i := 0) rfl)))) ?_
 rintro ⟨⟩ -
 refine Lp 1 [] (some [5]) n0 trivial ?_
 refine CfgL.done rfl ?_
 refine Rg [5,6] [] n0 trivial ?_
 refine Rg [5,6,7] [] n0 trivial ?_
 refine Cfg.loop rfl (ι := Nat) (fun (i : Nat) => [(7,[],.int .i64 (i : Int)),(6,[],.int .u64 ((valF ((nextF z (k : Int)).1.take i)) : Int)),(5,[],.string (tx (nextF z (k : Int)).1))]) (fun (i : Nat) => [(b,.cells (inR ((nextF z (k : Int)).2)) 108 (0,0))]) (fun (i : Nat) => (i ≤ (nextF z (k : Int)).1.length)) (fun (i : Nat) => (nextF z (k : Int)).1.length - i) 0 ?_ (Conv.mk kr) (.cons_cons _ .slnil) ?_
 ·exact Nat.zero_le _
 ·rintro i hi
  refine Rg [5,6,7,14] [] n0 trivial ?_
  refine Cfg.cond rfl (b := (decide ((i : Int) < ((tx (nextF z (k : Int)).1).size : Int)))) kr (fun c1r => ?_) (fun c1r => ?_)
  ·have c1 := (of_decide_eq_true c1r)
   refine Rg [5,6,7] [] (fun _ => [(0 ≤ (i : Int) ∧ (i : Int) < ((tx (nextF z (k : Int)).1).size : Int)),((0 : Int) ≤ (sbyte (tx (nextF z (k : Int)).1) (i : Int)) ∧ (sbyte (tx (nextF z (k : Int)).1) (i : Int)) ≤ 18446744073709551615)]) ⟨om,(by have := byteLt (gb (nextF z (k : Int)).1 i); have := valF_lt ((nextF z (k : Int)).1.take i); have := sbyte_gb (nextF z (k : Int)).1 i; omega),trivial⟩ ?_
   refine Cfg.reg rfl [5,6,7] [] (Γ' := [(7,[],.int .i64 ((i : Int) + 1)),(6,[],.int .u64 ((((((valF ((nextF z (k : Int)).1.take i)) : Int) * 256) % 18446744073709551616) + (sbyte (tx (nextF z (k : Int)).1) (i : Int))) % 18446744073709551616)),(5,[],.string (tx (nextF z (k : Int)).1))]) (nd := (fun _ => [((-9223372036854775808 : Int) ≤ ((i : Int) + 1) ∧ ((i : Int) + 1) ≤ 9223372036854775807)])) (fun _ => kr) ⟨om,trivial⟩ ?_
   refine Cg (Γ' := [(7,[],.int .i64 ((i : Int) + 1)),(6,[],.int .u64 ((((((valF ((nextF z (k : Int)).1.take i)) : Int) * 256) % 18446744073709551616) + (sbyte (tx (nextF z (k : Int)).1) (i : Int))) % 18446744073709551616)),(5,[],.string (tx (nextF z (k : Int)).1))]) ?_
   refine Cfg.setG (congrArg (fun (xq : Int) => ([(7,[],.int .i64 ((i : Int) + 1)),(6,[],.int .u64 xq),(5,[],.string (tx (nextF z (k : Int)).1))] : Env)) (show _ = ((valF ((nextF z (k : Int)).1.take (i + 1))) : Int) from by rw [val_succ om,sbyte_gb,vf_sum])) ?_
   refine Cfg.again rfl (i + 1) (show i + 1 ≤ (nextF z (k : Int)).1.length by omega) om (Conv.mk kr) (.cons_cons _ .slnil)
  ·have c1 := (of_decide_eq_false c1r)
   refine Rg [4] [] n0 trivial ?_
   refine Cfg.ret rfl (rs := [.tmp 4]) rfl [.int .u64 ((valF ((nextF z (k : Int)).1.take i)) : Int)] ⟨kr,trivial⟩ (fun w1 hp => ?_)
   exact ⟨by rw [show (nextF z (k : Int)).1.take i = (nextF z (k : Int)).1 from List.take_of_length_le om]; rfl,hp.ext,hp.own (b,_) (List.mem_cons_self ..)⟩
end Go.Proofs.YtohjpggjgomgoaaGreatDoor
namespace Go.Proofs.YtohjpggjgomgoaaGreatDoor
namespace K
section
variable {C : Cx} {R O : List (Nat × Obj)} {Γ : Env} {op : Oper}
theorem Eff.sliceTo {t e : TypeId} {x h : Operand} (ho : op.op = .slice t x none (some h) none) (ht : C.P.underlying t = some (.slice e)) (hsz : ((C.P.info? e).map (·.size)).isSome = true)
  {a : Option Addr} {n c m : Nat} (hx : opd Γ [] x = some (.slice a n c)) (hh : opd Γ [] h = some (.int .i64 (m : Int))) (hm : m ≤ c) : Eff C R O Γ op Unit (fun _ => .slice a m c) (fun _ => O) (fun _ => True) := by
 obtain ⟨sz,hsz⟩ := Option.isSome_iff_exists.1 hsz
 obtain ⟨inf,hi,hs1⟩ := Option.map_eq_some_iff.1 hsz
 refine Eff.of_run fun ac w hs hp => ⟨(),w,trivial,?_,hp⟩
 have hb : ∀ (x y : Nat) (code : BoundsCode),x ≤ y → (Instr.sliceBound (.int .i64 (x : Int)) y code).run C.P w = .ok x w := by
  intro x y code hxy
  have hai : (asIntOf (.int .i64 (x : Int))).run C.P w = .ok (.i64,(x : Int)) w := rfl
  have h2 : (0 : Int) ≤ (x : Int) ∧ (x : Int) ≤ (y : Int) := ⟨by omega,by omega⟩
  simp [Instr.sliceBound,hai,hxy]
 have hbs : (Instr.sliceBounds true n c none (some (.int .i64 (m : Int))) none).run C.P w = .ok (0,m,c) w := by
  simp [Instr.sliceBounds,hb m c _ hm,Result.andThen_ok]
 have hr : (Instr.slice t (.slice a n c) none (some (.int .i64 (m : Int))) none).run C.P w = .ok (.slice a m c) w := by
  simp only [Instr.slice,Sem.run_bind,run_underlying' ht,Result.andThen_ok,hbs,run_sizeOf' hi,Sem.run_pure]
  cases a <;> simp [Addr.add]
 have e1 := opd_ok hs (holds_nil _) hx
 have e2 := opd_ok hs (holds_nil _) hh
 simp only [execOp,ho]
 refine run_v ?_
 simp only [Option.map_some,Option.map_none,e1,e2,Instr.sliceAt,Sem.run_bind,run_underlying' ht,Result.andThen_ok]
 exact hr
end
end K
end Go.Proofs.YtohjpggjgomgoaaGreatDoor
namespace Go.Proofs.YtohjpggjgomgoaaGreatDoor
open K
set_option linter.unusedVariables false
abbrev Wr := Int × List UInt8
def wz : Wr := (0,zb)
def jc (r : Wr) : List Value := .int .i64 r.1 :: (bv r.2).toList
def jv (l : List Wr) : List Value := l.flatMap jc
def WW (l : List Wr) : Prop := ∀ r ∈ l,r.2.length = 512
theorem jc_len {r : Wr} (h : r.2.length = 512) : (jc r).length = 513 := by unfold jc; rw [List.length_cons,Array.length_toList,bv_size,h]
theorem WW.tail {r : Wr} {l : List Wr} (h : WW (r :: l)) : WW l := fun x hx => h x (List.mem_cons_of_mem _ hx)
theorem WW.nil : WW [] := fun _ h => by cases h
theorem WW.take {l : List Wr} (h : WW l) (i : Nat) : WW (l.take i) := fun x hx => h x (List.mem_of_mem_take hx)
theorem WW.drop {l : List Wr} (h : WW l) (i : Nat) : WW (l.drop i) := fun x hx => h x (List.mem_of_mem_drop hx)
theorem WW.one {r : Wr} (h : r.2.length = 512) : WW [r] := fun x hx => by rw [List.mem_singleton.1 hx]; exact h
theorem WW.at {l : List Wr} (h : WW l) (i : Nat) : (l.getD i wz).2.length = 512 := by
 rw [List.getD_eq_getElem?_getD]
 by_cases hi : i < l.length
 ·rw [List.getElem?_eq_getElem hi]; exact h _ (List.getElem_mem hi)
 ·rw [List.getElem?_eq_none om]; exact zb_len
theorem jv_cons (r : Wr) (l : List Wr) : jv (r :: l) = jc r ++ jv l := rfl
theorem jv_app (a b : List Wr) : jv (a ++ b) = jv a ++ jv b := by simp [jv]
theorem jv_one (r : Wr) : jv [r] = jc r := by simp [jv]
theorem jv_len {l : List Wr} (h : WW l) : (jv l).length = l.length * 513 := by
 induction l with
 | nil => rfl
 | cons r l ih => rw [jv_cons,List.length_append,jc_len (h r (List.mem_cons_self ..)),ih h.tail,List.length_cons]; omega
theorem jc_all (r : Wr) : ∀ v ∈ jc r,K.one v = true := by
 intro v hv
 rcases List.mem_cons.1 hv with rfl | hv
 ·rfl
 ·exact all_bv _ v hv
theorem jv_get {l : List Wr} (h : WW l) : ∀ {i j : Nat},i < l.length → j < 513 → (jv l)[i * 513 + j]? = (jc (l.getD i wz))[j]? := by
 induction l with
 | nil => intro i j hi; simp at hi
 | cons r l ih =>
  intro i j hi hj
  have hr := jc_len (h r (List.mem_cons_self ..))
  rw [jv_cons]
  cases i with
  | zero => rw [Nat.zero_mul,Nat.zero_add,List.getElem?_append_left om]; rfl
  | succ i =>
   rw [List.getElem?_append_right om,hr,show (i + 1) * 513 + j - 513 = i * 513 + j by omega]
   exact ih h.tail (by simpa using hi) hj
theorem jc_some {r : Wr} {j : Nat} {v : Value} (h : r.2.length = 512) (hv : (jc r)[j]? = some v) : j < 513 := by
 have := (List.getElem?_eq_some_iff.1 hv).1
 rw [jc_len h] at this; exact this
theorem wr_cell {l : List Wr} {cs : Array Value} {off i : Nat} (hW : WW l) (hcs : ∀ j,j < l.length * 513 → cs[off + j]? = some ((jv l).getD j undef)) (hi : i < l.length) {j : Nat} {v : Value} (hv : (jc (l.getD i wz))[j]? = some v) : cs[off + i * 513 + j]? = some v := by
 have hj := jc_some (hW.at i) hv
 rw [Nat.add_assoc,hcs (i * 513 + j) om,List.getD_eq_getElem?_getD,jv_get hW hi hj,hv]; rfl
def InW (Rl : List (Nat × Obj)) (la : Option Addr) (l : List Wr) : Prop := InS Rl la (l.length * 513) (fun j => (jv l).getD j undef)
theorem InW.mono {Rl Rl' : List (Nat × Obj)} {la : Option Addr} {l : List Wr} (h : InW Rl la l) (hR : ∀ e ∈ Rl,e ∈ Rl') : InW Rl' la l := InS.mono h hR
theorem inW_own {o : K.Own} {e : TypeId} {l : List Wr} (hok : OwnOk o 513 l.length (jv l)) : InW (o.o e (jv l)) o.a l := by
 intro hn
 obtain ⟨p,rfl⟩ := own_some hok om
 refine ⟨p.1,0,_,e,(0,0),rfl,List.mem_cons_self ..,fun j hj => ?_⟩
 have hl := hok.len
 rw [Nat.zero_add]
 simp only [List.getElem?_toArray]
 rw [List.getElem?_append_left om,List.getD_eq_getElem?_getD,List.getElem?_eq_getElem om]; rfl
def two (a : Int) : List UInt8 := [UInt8.ofNat ((a / 256) % 256).toNat,UInt8.ofNat (a % 256).toNat]
def twoW (r : Wr) : List UInt8 := two r.1
def blkW (r : Wr) : List UInt8 := r.2
theorem two_len (a : Int) : (two a).length = 2 := rfl
theorem twoW_len (r : Wr) : (twoW r).length = 2 := rfl
def mkL : List UInt8 := [80,82,84,82]
def hdS (n : Nat) (l : List Wr) : List UInt8 := mkL ++ eight n ++ four l.length ++ flat twoW l
def hdL (n : Nat) (l : List Wr) : List UInt8 := hdS n l ++ shaD (hdS n l ++ flat blkW l)
def headF (n : Nat) (l : List Wr) : List UInt8 := hdL n (l.take 96) ++ List.replicate (512 - (hdL n (l.take 96)).length) 0
theorem flat2_len (l : List Wr) : (flat twoW l).length = 2 * l.length := by
 induction l with
 | nil => rfl
 | cons a l ih => rw [show a :: l = [a] ++ l from rfl,flat_app,List.length_append,ih]; simp only [flat,List.flatMap_cons,List.flatMap_nil,List.append_nil,twoW_len,List.length_append,List.length_cons,List.length_nil]; omega
theorem flatB_len {l : List Wr} (h : WW l) : (flat blkW l).length = 512 * l.length := by
 induction l with
 | nil => rfl
 | cons a l ih =>
  rw [show a :: l = [a] ++ l from rfl,flat_app,List.length_append,ih h.tail]
  have h1 : (flat blkW [a]).length = 512 := by simp only [flat,List.flatMap_cons,List.flatMap_nil,List.append_nil]; exact h a (List.mem_cons_self ..)
  rw [h1,List.length_append,List.length_cons,List.length_nil]; omega
theorem hdS_len (n : Nat) (l : List Wr) : (hdS n l).length = 16 + 2 * l.length := by
 unfold hdS; rw [List.length_append,List.length_append,List.length_append,flat2_len]; unfold eight four; rw [be_len,be_len]; simp only [mkL,List.length_cons,List.length_nil]
theorem hdL_len (n : Nat) (l : List Wr) : (hdL n l).length = 48 + 2 * l.length := by
 unfold hdL; rw [List.length_append,hdS_len,shaD_len]; omega
theorem t96_len (l : List Wr) : (l.take 96).length ≤ 96 := by rw [List.length_take]; omega
theorem headF_len (n : Nat) (l : List Wr) : (headF n l).length = 512 := by
 have h1 := hdL_len n (l.take 96)
 have h2 := t96_len l
 unfold headF; rw [List.length_append,List.length_replicate]; omega
end Go.Proofs.YtohjpggjgomgoaaGreatDoor
namespace Go.Proofs.YtohjpggjgomgoaaGreatDoor
open K
set_option linter.unusedVariables false
theorem inS_dig (bk : Nat) (t : TypeId) (fr : Nat × Nat) (d : List UInt8) (h : d.length = 32) : InS [(bk,.cells (bv d) t fr)] (some ⟨bk,0,none⟩) ([d].length * 32) (fun j => .int .u8 ((([d].getD (j / 32) []).getD (j % 32) 0).toNat : Int)) := by
 intro _
 refine ⟨bk,0,_,t,fr,rfl,List.mem_singleton.2 rfl,fun j hj => ?_⟩
 simp only [List.length_cons,List.length_nil] at hj
 rw [Nat.zero_add,bv_get h om]
 simp only [show j / 32 = 0 by omega,show j % 32 = j by omega]
 rfl
theorem wDigest1 (l d : List UInt8) (bk : Nat) (t : TypeId) (w : World) (h : d.length = 32) (hr : l.length + 32 ≤ 140737488355328) (hh : Has w [(bk,.cells (bv d) t (0,0))]) :
  Calls Tryz.prog 35 #[.agg #[.string (tx l)],.slice (some ⟨bk,0,none⟩) 1 1] w fun e w' => e = .returned (.agg #[.string (tx (l ++ d))]) ∧ Ext [] w w' := by
 have := wDigest (tx l) (some ⟨bk,0,none⟩) 1 [d] [(bk,.cells (bv d) t (0,0))] w (inS_dig bk t (0,0) d h) hh (by simp [maxLen]) (by rw [flat_one,tx_size]; show _ + d.length ≤ _; omega) (fun i hi => by
  obtain rfl : i = 0 := by simpa using hi
  exact h)
 rw [flat_one] at this
 exact this
set_option maxRecDepth 100000 in
theorem InW.take {Rl : List (Nat × Obj)} {la : Option Addr} {l : List Wr} (h : InW Rl la l) (k : Nat) (hW : WW l) : InW Rl la (l.take k) := by
 have hk : (l.take k).length ≤ l.length := by rw [List.length_take]; omega
 have e : jv l = jv (l.take k) ++ jv (l.drop k) := by rw [← jv_app,List.take_append_drop]
 have hl := jv_len (hW.take k)
 have h' : InS Rl la (l.length * 513) (fun j => (jv l).getD j undef) := h
 show InS Rl la ((l.take k).length * 513) (fun j => (jv (l.take k)).getD j undef)
 generalize (l.take k).length = m at *
 generalize l.length = n at *
 intro hn
 have h0 : 0 < n * 513 := by omega
 obtain ⟨b,off,cs,te,fre,h1,h2,h3⟩ := h' h0
 refine ⟨b,off,cs,te,fre,h1,h2,fun j hj => ?_⟩
 have hj' : j < n * 513 := by omega
 refine (h3 j hj').trans (congrArg some ?_)
 show (jv l).getD j undef = (jv (l.take k)).getD j undef
 rw [e,List.getD_eq_getElem?_getD,List.getElem?_append_left om,List.getD_eq_getElem?_getD]
theorem K.Eff.minI2 {C : Cx} {R O : List (Nat × Obj)} {Γ : Env} {op : Oper} {x y : Operand} {tys : Array TypeId} {k : IntKind} {a b : Int} (c : Int) (hc : (if b < a then b else a) = c) (ho : op.op = .call ⟨.builtin .min,#[x,y],tys⟩) (hx : opd Γ [] x = some (.int k a)) (hy : opd Γ [] y = some (.int k b)) : Eff C R O Γ op Unit (fun _ => .int k c) (fun _ => O) (fun _ => True) := by
 subst hc; exact Eff.minI ho hx hy
theorem be_one (n : Nat) : be n 1 = [UInt8.ofNat n] := by simp [be]
theorem two_eq (a : Int) : two a = be ((a / 256) % 256).toNat 1 ++ be (a % 256).toNat 1 := by rw [be_one,be_one]; rfl
theorem wByteI (L : List UInt8) (x : Int) (w : World) (hx : 0 ≤ x ∧ x < 256) (hr : L.length + 1 ≤ 140737488355328) : Calls Tryz.prog 33 #[.agg #[.string (tx L)],.int .u8 x] w fun e w' => e = .returned (.agg #[.string (tx (L ++ be x.toNat 1))]) ∧ Ext [] w w' := by
 have h9 := wByte (tx L) x.toNat w om (by rw [tx_size]; exact hr)
 rw [Int.toNat_of_nonneg hx.1] at h9
 exact h9
theorem wr_str {P : Program} {w0 w : World} {M : List Nat} {R O : List (Nat × Obj)} (h : HP w0 M R O w) (i : Nat) {b : Nat} {r : Wr} {t : TypeId} (ho : O[i]? = some (b,.cells (jc r).toArray t (0,0))) (hr : r.2.length = 512) (c : Nat) : (Conv.bytesToString (.slice (some ⟨b,1,none⟩) 512 c)).run P w = .ok (.string (tx r.2)) w := by
 refine bytes_str hr fun j hj => ?_
 rw [cell_cells (h.own _ (List.mem_of_getElem? ho)),List.getElem?_toArray,show 1 + j = j + 1 by omega]
 show (bv r.2).toList[j]? = _
 rw [Array.getElem?_toList]; exact bv_get hr hj
def pts (n : Nat) (q : List Wr) (i : Nat) : List ByteArray := tx (hdS n q) :: (q.take i).map fun r => tx r.2
theorem pts_len {n : Nat} {q : List Wr} {i : Nat} (h : i ≤ q.length) : (pts n q i).length = i + 1 := by
 unfold pts; rw [List.length_cons,List.length_map,List.length_take]; omega
theorem pts_succ {n : Nat} {q : List Wr} {i : Nat} (h : i < q.length) : pts n q (i + 1) = pts n q i ++ [tx (q.getD i wz).2] := by
 unfold pts; rw [List.take_succ_eq_append_getElem h,List.map_append,List.cons_append]
 simp [List.getElem?_eq_getElem h]
theorem pts_vals {n : Nat} {q : List Wr} {i : Nat} (h : i < q.length) : (pts n q i).map Value.string ++ [Value.string (tx (q.getD i wz).2)] = (pts n q (i + 1)).map Value.string := by
 rw [pts_succ h,List.map_append]; rfl
theorem pts_cat (n : Nat) (q : List Wr) : scat (pts n q q.length) = hdS n q ++ flat blkW q := by
 unfold pts; rw [List.take_length]
 show (tx (hdS n q)).data.toList ++ List.flatMap (fun s : ByteArray => s.data.toList) (q.map fun r => tx r.2) = _
 rw [List.flatMap_map]; rfl
theorem str_one (s : ByteArray) : ∀ v ∈ [Value.string s],K.one v = true := fun v hv => by rw [List.mem_singleton.1 hv]; rfl
theorem hd_spl {L : List UInt8} {n : Nat} (hL : L.length ≤ 512) (hn : n = L.length) : spl (bv (List.replicate 512 0)) 0 (bv ((tx L).data.toList.take n)).toList = bv (L ++ List.replicate (512 - L.length) 0) := by
 subst hn
 have e0 : (tx L).data.toList.take L.length = L := by rw [tx_list]; exact List.take_length ..
 rw [e0]
 have e1 : List.replicate 512 (0 : UInt8) = List.replicate L.length 0 ++ List.replicate (512 - L.length) 0 := by rw [List.replicate_append_replicate]; congr 1; omega
 have e2 : ∀ a b : List UInt8,bv (a ++ b) = ([] ++ (bv a).toList ++ (bv b).toList).toArray := fun a b => by simp [bv]
 rw [e1,e2,e2]
 exact spl_list [] _ _ _ (by rw [Array.length_toList,Array.length_toList,bv_size,bv_size,List.length_replicate])
theorem hdS_flat (n : Nat) (q : List Wr) : mkL ++ eight n ++ four q.length ++ flat twoW (q.take q.length) = hdS n q := by rw [List.take_length]; rfl
set_option maxRecDepth 100000 in
set_option maxHeartbeats 4000000 in
theorem jHead (number : Nat) (la : Option Addr) (cap : Nat) (l : List Wr) (Rl : List (Nat × Obj)) {kt : Array Value} {t0 : TypeId} {fr0 : Nat × Nat} (w : World) (hnu : number < 18446744073709551616) (hI : InW Rl la l) (hW : WW l) (hn : l.length ≤ maxLen) (hcap : l.length ≤ cap) (hR : Has w ((0,.cells kt t0 fr0) :: Rl)) (hK : KT kt := by assumption) :
  Calls Tryz.prog 7 #[.int .u64 (number : Int),.slice la l.length cap] w fun e w' => e = .returned (.agg (bv (headF number l))) ∧ Ext [] w w' := by
 unfold maxLen at hn
 obtain ⟨q,hq⟩ : ∃ q,q = l.take 96 := ⟨_,rfl⟩
 have hIq : InW ((0,.cells kt t0 fr0) :: Rl) la q := hq ▸ (hI.take 96 hW).mono (fun e he => List.mem_cons_of_mem _ he)
 have hWq : WW q := hq ▸ hW.take 96
 have hql : q.length = min 96 l.length := by rw [hq,List.length_take]
 have hqm : (if (96 : Int) < (l.length : Int) then (96 : Int) else (l.length : Int)) = (q.length : Int) := by split <;> omega
 have hhf : headF number l = hdL number q ++ List.replicate (512 - (hdL number q).length) 0 := by rw [hq]; rfl
 rw [hhf]
 have hdl := hdL_len number q
 have hsl := hdS_len number q
 clear hhf hq
 have hf8 : ∀ x,(eight x).length = 8 := fun x => be_len _ _
 have hf4 : ∀ x,(four x).length = 4 := fun x => be_len _ _
 have hmod : ((q.length : Int) % 4294967296) = (q.length : Int) := by omega
 refine enter (vs := [.int .u64 (number : Int),.slice la l.length cap]) [] ((0,.cells kt t0 fr0) :: Rl) [] Tryz.func7 rfl kr (HP.ofHas hR) ?_
 refine Cfg.begL rfl ?_
 refine Le (Eff.alloc (z := (.agg (bv (List.replicate 512 0)))) rfl kr) ?_
 rintro rs ⟨hrs,nrs⟩
 refine CfgL.done rfl ?_
 refine Cfg.begL rfl ?_
 refine Lp 3 [] (some [0,1,4,12,14]) n0 trivial ?_
 refine Le (Eff.minI2 (k := .i64) (a := (l.length : Int)) (b := (96 : Int)) (q.length : Int) hqm rfl kr kr) ?_
 rintro ⟨⟩ -
 refine Le (Eff.sliceTo (a := la) (n := l.length) (c := cap) (m := q.length) rfl Tryz.underlying28 kr kr kr om) ?_
 rintro ⟨⟩ -
 refine Lp 1 [] (some [0,1,4]) n0 trivial ?_
 refine CfgL.done rfl ?_
 refine Cfg.begL rfl ?_
 refine Lp 1 [(0,false,some (.agg #[.string ByteArray.empty]))] none (fun S => [(∀ w1,S w1 → (Instr.build 84 #[]).run Tryz.prog w1 = .ok (.agg #[.string ByteArray.empty]) w1)]) ⟨(fun _ _ => kr),trivial⟩ ?_
 refine Le (Eff.buildSlice (e := 9) (cells := #[.string ⟨#[80,82,84,82]⟩]) (parts := #[(0,.string ⟨#[80,82,84,82]⟩)]) rfl kr (fun _ => kr)) ?_
 rintro x2 ⟨hx2,nx2⟩
 refine Le (Eff.callA (vs := [.agg #[.string ByteArray.empty],.slice (some ⟨x2,0,none⟩) 1 1]) (.agg #[.string (tx (ByteArray.empty.data.toList ++ cat [⟨#[80,82,84,82]⟩]))]) rfl Tryz.func30 rfl rfl kr (fun w1 h => wRaw ByteArray.empty (some ⟨x2,0,none⟩) 1 [⟨#[80,82,84,82]⟩] [(x2,.cells (List.map Value.string [⟨#[80,82,84,82]⟩]).toArray 9 (0,0))] w1 (inS_lit x2 9 (0,0) [⟨#[80,82,84,82]⟩]) (h.has (fun e he => List.mem_of_getElem? (i := 0) (by rw [List.mem_singleton.1 he]; rfl))) (one_len _) (by rw [cat_one,ba_len]; decide))) ?_
 rintro ⟨⟩ -
 refine Lp 1 [] (some [1,4,19,20]) n0 trivial ?_
 refine Le (Eff.buildSlice (e := 22) (cells := #[.int .u64 (number : Int)]) (parts := #[(0,.int .u64 (number : Int))]) rfl kr (fun _ => kr)) ?_
 rintro x3 ⟨hx3,nx3⟩
 refine Le (Eff.callA (vs := [.agg #[.string (tx (ByteArray.empty.data.toList ++ cat [⟨#[80,82,84,82]⟩]))],.slice (some ⟨x3,0,none⟩) 1 1]) (.agg #[.string (tx ((tx (ByteArray.empty.data.toList ++ cat [⟨#[80,82,84,82]⟩])).data.toList ++ flat eight [number]))]) rfl Tryz.func31 rfl rfl kr (fun w1 h => wEight (tx (ByteArray.empty.data.toList ++ cat [⟨#[80,82,84,82]⟩])) (some ⟨x3,0,none⟩) 1 [number] [(x3,.cells #[.int .u64 (number : Int)] 22 (0,0))] w1 (inS_num x3 22 (0,0) .u64 number) (h.has (fun e he => List.mem_of_getElem? (i := 0) (by rw [List.mem_singleton.1 he]; rfl))) (by simp [maxLen]) (by simp only [List.length_cons,List.length_nil,tx_size,flat_one,List.length_append,cat_one,ba_len,hf8,show ByteArray.empty.size = 0 from rfl]; omega) (one_get om (by decide)))) ?_
 rintro ⟨⟩ -
 refine Lp 3 [] (some [1,4,22,25]) n0 trivial ?_
 refine Le (Eff.buildSlice (e := 88) (cells := #[.int .u32 ((q.length : Int) % 4294967296)]) (parts := #[(0,.int .u32 ((q.length : Int) % 4294967296))]) rfl kr (fun _ => kr)) ?_
 rintro x4 ⟨hx4,nx4⟩
 refine Le (Eff.callA (vs := [.agg #[.string (tx ((tx (ByteArray.empty.data.toList ++ cat [⟨#[80,82,84,82]⟩])).data.toList ++ flat eight [number]))],.slice (some ⟨x4,0,none⟩) 1 1]) (.agg #[.string (tx ((tx ((tx (ByteArray.empty.data.toList ++ cat [⟨#[80,82,84,82]⟩])).data.toList ++ flat eight [number])).data.toList ++ flat four [q.length]))]) rfl Tryz.func32 rfl rfl kr (fun w1 h => wFour (tx ((tx (ByteArray.empty.data.toList ++ cat [⟨#[80,82,84,82]⟩])).data.toList ++ flat eight [number])) (some ⟨x4,0,none⟩) 1 [q.length] [(x4,.cells #[.int .u32 (q.length : Int)] 88 (0,0))] w1 (inS_num x4 88 (0,0) .u32 q.length) (by have hq := h.own (x4,.cells #[.int .u32 ((q.length : Int) % 4294967296)] 88 (0,0)) (List.mem_of_getElem? (i := 0) rfl); rw [hmod] at hq; intro e he; rw [List.mem_singleton.1 he]; exact hq) (by simp [maxLen]) (by simp only [List.length_cons,List.length_nil,tx_size,tx_list,flat_one,List.length_append,cat_one,ba_len,hf8,hf4,show ByteArray.empty.size = 0 from rfl]; omega) (one_get om (by decide)))) ?_
 rintro ⟨⟩ -
 refine Le (Eff.alloc (z := (.agg #[.string ByteArray.empty])) rfl kr) ?_
 rintro o ⟨ho,no⟩
 refine Le (Eff.storeN (b := o) (off := 0) (vs := #[.string (tx ((tx ((tx (ByteArray.empty.data.toList ++ cat [⟨#[80,82,84,82]⟩])).data.toList ++ flat eight [number])).data.toList ++ flat four [q.length]))]) (n := 1) rfl kr kr kr rfl (by simp [K.one]) 0 (cs := #[.string ByteArray.empty]) (e := 84) kr (by simp)) ?_
 rintro ⟨⟩ -
 refine CfgL.setO (congrArg (fun (xq : Array Value) => ([(o,.cells xq 84 (0,0)),(x4,.cells #[.int .u32 ((q.length : Int) % 4294967296)] 88 (0,0)),(x3,.cells #[.int .u64 (number : Int)] 22 (0,0)),(x2,.cells #[.string ⟨#[80,82,84,82]⟩] 9 (0,0)),(rs,.cells (bv (List.replicate 512 0)) 25 (0,0))] : List (Nat × Obj))) (show _ = #[.string (tx ((tx ((tx (ByteArray.empty.data.toList ++ cat [⟨#[80,82,84,82]⟩])).data.toList ++ flat eight [number])).data.toList ++ flat four [q.length]))] from rfl)) ?_
 refine CfgL.done rfl ?_
 refine Cg (Γ' := [(5,[],.pointer (some ⟨o,0,none⟩)),(1,[],.slice la q.length cap),(4,[],.pointer (some ⟨rs,0,none⟩))]) ?_
 refine Rg [1,4,5,28,29,30] [] n0 trivial ?_
 refine Cfg.setO (congrArg (fun (xq : Array Value) => ([(o,.cells xq 84 (0,0)),(x4,.cells #[.int .u32 ((q.length : Int) % 4294967296)] 88 (0,0)),(x3,.cells #[.int .u64 (number : Int)] 22 (0,0)),(x2,.cells #[.string ⟨#[80,82,84,82]⟩] 9 (0,0)),(rs,.cells (bv (List.replicate 512 0)) 25 (0,0))] : List (Nat × Obj))) (show _ = #[.string (tx (mkL ++ eight number ++ four q.length ++ flat twoW (q.take 0)))] from by rfl)) ?_
 refine Cfg.loop rfl (ι := Nat) (fun (i : Nat) => [(30,[],.int .i64 (i : Int)),(29,[],.int .i64 (q.length : Int)),(28,[],.slice la q.length cap),(5,[],.pointer (some ⟨o,0,none⟩)),(1,[],.slice la q.length cap),(4,[],.pointer (some ⟨rs,0,none⟩))]) (fun (i : Nat) => [(o,.cells #[.string (tx (mkL ++ eight number ++ four q.length ++ flat twoW (q.take i)))] 84 (0,0)),(rs,.cells (bv (List.replicate 512 0)) 25 (0,0))]) (fun (i : Nat) => (i ≤ q.length)) (fun (i : Nat) => q.length - i) 0 ?_ (Conv.mk kr) (.cons_cons _ (.cons _ (.cons _ (.cons _ (.cons_cons _ .slnil))))) ?_
 ·exact Nat.zero_le _
 ·rintro i hi
  refine Rg [1,4,5,28,29,30,31] [] n0 trivial ?_
  refine Cfg.cond rfl (b := (decide ((i : Int) < (q.length : Int)))) kr (fun c1r => ?_) (fun c1r => ?_)
  ·have c1 := (of_decide_eq_true c1r)
   obtain ⟨sb,off,cs,te,fre,rfl,hmem,hcs⟩ := hIq om
   refine Conv.cfg (Γ' := [(31,[],.bool (decide ((i : Int) < (q.length : Int)))),(30,[],.int .i64 (i : Int)),(29,[],.int .i64 (q.length : Int)),(28,[],.slice (some ⟨sb,off,none⟩) q.length cap),(5,[],.pointer (some ⟨o,0,none⟩)),(1,[],.slice (some ⟨sb,off,none⟩) q.length cap),(4,[],.pointer (some ⟨rs,0,none⟩))]) (Conv.mk kr) ?_
   refine Cfg.begL rfl ?_
   refine Lp 2 [dZ,(0,false,some (.agg (jc (q.getD i wz)).toArray))] (some [1,4,5,28,29,30,33]) (fun S => [(0 ≤ (i : Int) ∧ (i : Int) < (q.length : Int)),(∀ w1,S w1 → (loadVar 79 ⟨sb,(addO off (i * 513)),none⟩).run Tryz.prog w1 = .ok (.agg (jc (q.getD i wz)).toArray) w1)]) ⟨om,(fun w1 h => load_list Tryz.underlying79 rfl kr (jc_len (hWq.at i)) (fun j v hj => by rw [addO_eq]; exact (cell_cells (h.ro _ hmem)).trans (wr_cell hWq hcs om hj))),trivial⟩ ?_
   refine Le (Eff.alloc (z := (.agg (jc wz).toArray)) rfl kr) ?_
   rintro xb6 ⟨hxb6,nxb6⟩
   refine Le (Eff.storeN (b := xb6) (off := 0) (vs := (jc (q.getD i wz)).toArray) (n := 513) rfl kr kr kr (by rw [List.size_toArray,jc_len (hWq.at i)]) (jc_all _) 0 (cs := (jc wz).toArray) (e := 79) kr (by show 0 + 513 ≤ (jc wz).toArray.size; rw [List.size_toArray,jc_len zb_len]; decide)) ?_
   rintro ⟨⟩ -
   refine CfgL.setO (congrArg (fun (xq : Array Value) => ([(xb6,.cells xq 79 (0,0)),(o,.cells #[.string (tx (mkL ++ eight number ++ four q.length ++ flat twoW (q.take i)))] 84 (0,0)),(rs,.cells (bv (List.replicate 512 0)) 25 (0,0))] : List (Nat × Obj))) (show _ = ((jc (q.getD i wz)).toArray) from spl_all (by rw [List.size_toArray,List.size_toArray,jc_len (hWq.at i)]; exact (jc_len zb_len).symm))) ?_
   refine CfgL.done rfl ?_
   refine Cg (Γ' := [(7,[],.pointer (some ⟨xb6,0,none⟩)),(30,[],.int .i64 (i : Int)),(29,[],.int .i64 (q.length : Int)),(28,[],.slice (some ⟨sb,off,none⟩) q.length cap),(5,[],.pointer (some ⟨o,0,none⟩)),(1,[],.slice (some ⟨sb,off,none⟩) q.length cap),(4,[],.pointer (some ⟨rs,0,none⟩))]) ?_
   refine Cfg.begA rfl kr [(xb6,.cells ((jc (q.getD i wz)).toArray) 79 (0,0)),(rs,.cells (bv (List.replicate 512 0)) 25 (0,0))] ?_
   refine Ap [1,2,3,4,6,7,8] [dZ,(0,false,some (.int .i64 ((q.getD i wz).1))),dZ,dZ,dZ,(0,false,some (.int .i64 ((q.getD i wz).1)))] (some [1,4,5,28,29,30,38,42]) #[false,true,true,true,true,false,true,true,true,false,false] (.cons_cons _ (.cons _ (.cons_cons _ .slnil))) 4 (fun S => [(∀ w1,S w1 → w1.cell? ⟨xb6,0,none⟩ = some (.int .i64 ((q.getD i wz).1))),(0 ≤ (8 : Int) ∧ 8 ≤ 64),(∀ w1,S w1 → w1.cell? ⟨xb6,0,none⟩ = some (.int .i64 ((q.getD i wz).1)))]) ⟨(fun w1 h => h.ocell 0 rfl rfl),om,(fun w1 h => h.ocell 0 rfl rfl),trivial⟩ ?_
   refine Ae 0 rfl 3  (Eff.quiet (raw := false) (orc := some (.agg #[.string (tx (mkL ++ eight number ++ four q.length ++ flat twoW (q.take i)))])) (v := .agg #[.string (tx (mkL ++ eight number ++ four q.length ++ flat twoW (q.take i)))]) (nd := (fun S => [(∀ w1,S w1 → (loadVar 84 ⟨o,0,none⟩).run Tryz.prog w1 = .ok (.agg #[.string (tx (mkL ++ eight number ++ four q.length ++ flat twoW (q.take i)))]) w1)])) (fun _ => kr) ⟨(fun w1 h => h.oload 1 rfl Tryz.underlying84 rfl (n := 1) kr rfl),trivial⟩ kr) (fun _ _ => (.cons_cons _ (.cons _ (.cons_cons _ .slnil)))) ?_
   rintro ⟨⟩ -
   refine Ae 5 rfl 2  (Eff.callA (vs := [.agg #[.string (tx (mkL ++ eight number ++ four q.length ++ flat twoW (q.take i)))],.int .u8 ((((q.getD i wz).1) / 256) % 256)]) (.agg #[.string (tx ((mkL ++ eight number ++ four q.length ++ flat twoW (q.take i)) ++ be ((((q.getD i wz).1) / 256) % 256).toNat 1))]) rfl Tryz.func33 rfl rfl kr (fun w1 _ => wByteI (mkL ++ eight number ++ four q.length ++ flat twoW (q.take i)) ((((q.getD i wz).1) / 256) % 256) w1 om (by simp only [List.length_append,flat2_len,hf8,hf4,show mkL.length = 4 from rfl,List.length_take]; omega))) (fun _ _ => (.cons_cons _ (.cons _ (.cons_cons _ .slnil)))) ?_
   rintro ⟨⟩ -
   refine Ae 9 rfl 1  (Eff.callA (vs := [.agg #[.string (tx ((mkL ++ eight number ++ four q.length ++ flat twoW (q.take i)) ++ be ((((q.getD i wz).1) / 256) % 256).toNat 1))],.int .u8 (((q.getD i wz).1) % 256)]) (.agg #[.string (tx (((mkL ++ eight number ++ four q.length ++ flat twoW (q.take i)) ++ be ((((q.getD i wz).1) / 256) % 256).toNat 1) ++ be (((q.getD i wz).1) % 256).toNat 1))]) rfl Tryz.func33 rfl rfl kr (fun w1 _ => wByteI ((mkL ++ eight number ++ four q.length ++ flat twoW (q.take i)) ++ be ((((q.getD i wz).1) / 256) % 256).toNat 1) (((q.getD i wz).1) % 256) w1 om (by simp only [List.length_append,be_len,flat2_len,hf8,hf4,show mkL.length = 4 from rfl,List.length_take]; omega))) (fun _ _ => (.cons_cons _ (.cons _ (.cons_cons _ .slnil)))) ?_
   rintro ⟨⟩ -
   refine Ae 10 rfl 0  (Eff.storeN (b := o) (off := 0) (vs := #[.string (tx (((mkL ++ eight number ++ four q.length ++ flat twoW (q.take i)) ++ be ((((q.getD i wz).1) / 256) % 256).toNat 1) ++ be (((q.getD i wz).1) % 256).toNat 1))]) (n := 1) rfl kr kr kr rfl (by simp [K.one]) 1 (cs := #[.string (tx (mkL ++ eight number ++ four q.length ++ flat twoW (q.take i)))]) (e := 84) kr (by simp)) (fun _ _ => (.cons_cons _ (.cons _ (.cons_cons _ .slnil)))) ?_
   rintro ⟨⟩ -
   refine CfgA.setO (congrArg (fun (xq : Array Value) => ([(xb6,.cells ((jc (q.getD i wz)).toArray) 79 (0,0)),(o,.cells xq 84 (0,0)),(rs,.cells (bv (List.replicate 512 0)) 25 (0,0))] : List (Nat × Obj))) (show _ = #[.string (tx (((mkL ++ eight number ++ four q.length ++ flat twoW (q.take i)) ++ be ((((q.getD i wz).1) / 256) % 256).toNat 1) ++ be (((q.getD i wz).1) % 256).toNat 1))] from rfl)) ?_
   refine CfgA.done kr ?_
   refine Cg (Γ' := [(30,[],.int .i64 (i : Int)),(29,[],.int .i64 (q.length : Int)),(28,[],.slice (some ⟨sb,off,none⟩) q.length cap),(5,[],.pointer (some ⟨o,0,none⟩)),(1,[],.slice (some ⟨sb,off,none⟩) q.length cap),(4,[],.pointer (some ⟨rs,0,none⟩))]) ?_
   refine Rg [1,4,5,28,29,30] [] (fun _ => [((-9223372036854775808 : Int) ≤ ((i : Int) + 1) ∧ ((i : Int) + 1) ≤ 9223372036854775807)]) ⟨om,trivial⟩ ?_
   refine Cfg.setO (congrArg (fun (xq : Array Value) => ([(xb6,.cells ((jc (q.getD i wz)).toArray) 79 (0,0)),(o,.cells xq 84 (0,0)),(rs,.cells (bv (List.replicate 512 0)) 25 (0,0))] : List (Nat × Obj))) (show _ = #[.string (tx (mkL ++ eight number ++ four q.length ++ flat twoW (q.take (i + 1))))] from by rw [flat_succ wz om,← List.append_assoc,show twoW (q.getD i wz) = two (q.getD i wz).1 from rfl,two_eq,← List.append_assoc])) ?_
   refine Cfg.again rfl (i + 1) (show i + 1 ≤ q.length by omega) om (Conv.mk kr) (.cons _ (.cons_cons _ (.cons_cons _ .slnil)))
  ·have c1 := (of_decide_eq_false c1r)
   obtain rfl : i = q.length := by omega
   refine Cfg.setO (congrArg (fun (xq : Array Value) => ([(o,.cells xq 84 (0,0)),(rs,.cells (bv (List.replicate 512 0)) 25 (0,0))] : List (Nat × Obj))) (show _ = #[.string (tx (hdS number q))] from by rw [hdS_flat])) ?_
   refine Conv.cfg (Γ' := [(28,[],.slice la q.length cap),(5,[],.pointer (some ⟨o,0,none⟩)),(1,[],.slice la q.length cap),(4,[],.pointer (some ⟨rs,0,none⟩))]) (Conv.mk kr) ?_
   refine Cfg.begL rfl ?_
   refine Lp 1 [(0,false,some (.agg #[.string (tx (hdS number q))]))] (some [1,4,5,45]) (fun S => [(∀ w1,S w1 → (loadVar 84 ⟨o,0,none⟩).run Tryz.prog w1 = .ok (.agg #[.string (tx (hdS number q))]) w1)]) ⟨(fun w1 h => h.oload 0 rfl Tryz.underlying84 rfl (n := 1) kr rfl),trivial⟩ ?_
   refine Le (Eff.callA (vs := [.agg #[.string (tx (hdS number q))]]) (.string (tx (hdS number q))) rfl Tryz.func34 rfl rfl kr (fun w1 _ => wString (tx (hdS number q)) w1)) ?_
   rintro ⟨⟩ -
   refine Le (Eff.buildSlice (e := 9) (cells := #[.string (tx (hdS number q))]) (parts := #[(0,.string (tx (hdS number q)))]) rfl kr (fun _ => kr)) ?_
   rintro x7 ⟨hx7,nx7⟩
   refine Lp 1 [] (some [1,4,5,8]) n0 trivial ?_
   refine CfgL.done rfl ?_
   refine Rg [4,5,8,48,49,50] [] n0 trivial ?_
   refine Cfg.permO (O' := ([(o,.cells #[.string (tx (hdS number q))] 84 (0,0)),(rs,.cells (bv (List.replicate 512 0)) 25 (0,0))] ++ (Own.o 9 ((pts number q 0).map Value.string) ((some (x7,1,[]))) ++ []))) (List.perm_append_comm (l₁ := ([(x7,.cells #[.string (tx (hdS number q))] 9 (0,0))] : List (Nat × Obj)))) ?_
   refine Cfg.loop rfl (ι := Nat × K.Own) (fun (xz : Nat × K.Own) => match xz with | (i,own) => [(50,[],.int .i64 (i : Int)),(49,[],.int .i64 (q.length : Int)),(48,[],.slice la q.length cap),(8,[],.slice (Own.a own) ((i + 1)) (Own.c own)),(5,[],.pointer (some ⟨o,0,none⟩)),(4,[],.pointer (some ⟨rs,0,none⟩))]) (fun (xz : Nat × K.Own) => match xz with | (i,own) => ([(o,.cells #[.string (tx (hdS number q))] 84 (0,0)),(rs,.cells (bv (List.replicate 512 0)) 25 (0,0))] ++ (Own.o 9 ((pts number q i).map Value.string) own ++ []))) (fun (xz : Nat × K.Own) => match xz with | (i,own) => (i ≤ q.length) ∧ (OwnOk own 1 (i + 1) ((pts number q i).map Value.string))) (fun (xz : Nat × K.Own) => match xz with | (i,own) => q.length - i) (0,some (x7,1,[])) ?_ (Conv.mk kr) (.cons_cons _ (.cons_cons _ (List.Sublist.trans (List.Sublist.refl _) (List.sublist_append_right _ _)))) ?_
   ·exact ⟨Nat.zero_le _,⟨rfl,(fun h => by cases h),(fun p h => by cases h; exact ⟨rfl,Nat.le_refl _⟩)⟩⟩
   ·rintro ⟨i,own⟩ ⟨hi,hok⟩
    refine Rg [4,5,8,48,49,50,51] [] n0 trivial ?_
    refine Cfg.cond rfl (b := (decide ((i : Int) < (q.length : Int)))) kr (fun c2r => ?_) (fun c2r => ?_)
    ·have c2 := (of_decide_eq_true c2r)
     obtain ⟨sb,off,cs,te,fre,rfl,hmem,hcs⟩ := hIq om
     refine Conv.cfg (Γ' := [(51,[],.bool (decide ((i : Int) < (q.length : Int)))),(50,[],.int .i64 (i : Int)),(49,[],.int .i64 (q.length : Int)),(48,[],.slice (some ⟨sb,off,none⟩) q.length cap),(8,[],.slice (Own.a own) ((i + 1)) (Own.c own)),(5,[],.pointer (some ⟨o,0,none⟩)),(4,[],.pointer (some ⟨rs,0,none⟩))]) (Conv.mk kr) ?_
     refine Cfg.begL rfl ?_
     refine Lp 2 [dZ,(0,false,some (.agg (jc (q.getD i wz)).toArray))] (some [4,5,8,48,49,50,53]) (fun S => [(0 ≤ (i : Int) ∧ (i : Int) < (q.length : Int)),(∀ w1,S w1 → (loadVar 79 ⟨sb,(addO off (i * 513)),none⟩).run Tryz.prog w1 = .ok (.agg (jc (q.getD i wz)).toArray) w1)]) ⟨om,(fun w1 h => load_list Tryz.underlying79 rfl kr (jc_len (hWq.at i)) (fun j v hj => by rw [addO_eq]; exact (cell_cells (h.ro _ hmem)).trans (wr_cell hWq hcs om hj))),trivial⟩ ?_
     refine Le (Eff.alloc (z := (.agg (jc wz).toArray)) rfl kr) ?_
     rintro xb8 ⟨hxb8,nxb8⟩
     refine Le (Eff.storeN (b := xb8) (off := 0) (vs := (jc (q.getD i wz)).toArray) (n := 513) rfl kr kr kr (by rw [List.size_toArray,jc_len (hWq.at i)]) (jc_all _) 0 (cs := (jc wz).toArray) (e := 79) kr (by show 0 + 513 ≤ (jc wz).toArray.size; rw [List.size_toArray,jc_len zb_len]; decide)) ?_
     rintro ⟨⟩ -
     refine CfgL.setO (congrArg (fun (xq : Array Value) => (([(xb8,.cells xq 79 (0,0)),(o,.cells #[.string (tx (hdS number q))] 84 (0,0)),(rs,.cells (bv (List.replicate 512 0)) 25 (0,0))] ++ (Own.o 9 ((pts number q i).map Value.string) own ++ [])) : List (Nat × Obj))) (show _ = ((jc (q.getD i wz)).toArray) from spl_all (by rw [List.size_toArray,List.size_toArray,jc_len (hWq.at i)]; exact (jc_len zb_len).symm))) ?_
     refine CfgL.done rfl ?_
     refine Cg (Γ' := [(10,[],.pointer (some ⟨xb8,0,none⟩)),(50,[],.int .i64 (i : Int)),(49,[],.int .i64 (q.length : Int)),(48,[],.slice (some ⟨sb,off,none⟩) q.length cap),(8,[],.slice (Own.a own) ((i + 1)) (Own.c own)),(5,[],.pointer (some ⟨o,0,none⟩)),(4,[],.pointer (some ⟨rs,0,none⟩))]) ?_
     refine Cfg.begL rfl ?_
     refine Lp 4 [dZ,dZ,dZ,(0,false,some (.string (tx (q.getD i wz).2)))] (some [4,5,8,48,49,50,54,57]) (fun S => [(512 ≤ 512),(∀ w1,S w1 → (Conv.bytesToString (.slice (some ⟨xb8,1,none⟩) 512 512)).run Tryz.prog w1 = .ok (.string (tx (q.getD i wz).2)) w1)]) ⟨om,(fun w1 h => wr_str h 0 rfl (hWq.at i) _),trivial⟩ ?_
     refine Le (Eff.buildSlice (e := 9) (cells := #[.string (tx (q.getD i wz).2)]) (parts := #[(0,.string (tx (q.getD i wz).2))]) rfl kr (fun _ => kr)) ?_
     rintro x9 ⟨hx9,nx9⟩
     refine Le (Eff.appendF rfl 1 16 Tryz.underlying92 kr (z := (.string ByteArray.empty)) kr kr own (xs := ((pts number q i).map Value.string)) hok kr (b2 := x9) (off2 := 0) (m := 1) (c2 := 1) kr ([Value.string (tx (q.getD i wz).2)]) rfl (str_one _) [(x9,.cells #[.string (tx (q.getD i wz).2)] 9 (0,0)),(xb8,.cells ((jc (q.getD i wz)).toArray) 79 (0,0)),(o,.cells #[.string (tx (hdS number q))] 84 (0,0)),(rs,.cells (bv (List.replicate 512 0)) 25 (0,0))] [] (by rfl) (fun w1 h j v hj => by rw [Nat.zero_add]; exact h.ocell 0 rfl (by rw [← Array.getElem?_toList]; exact hj)) om om) ?_
     rintro o8 ko8
     refine Lp 1 [] (some [4,5,8,48,49,50]) n0 trivial ?_
     refine CfgL.done rfl ?_
     refine Rg [4,5,8,48,49,50] [] (fun _ => [((-9223372036854775808 : Int) ≤ ((i : Int) + 1) ∧ ((i : Int) + 1) ≤ 9223372036854775807)]) ⟨om,trivial⟩ ?_
     have hpv := pts_vals (n := number) (q := q) (i := i) om
     refine Cfg.setO (congrArg (fun (xq : List Value) => (([(x9,.cells #[.string (tx (q.getD i wz).2)] 9 (0,0)),(xb8,.cells ((jc (q.getD i wz)).toArray) 79 (0,0)),(o,.cells #[.string (tx (hdS number q))] 84 (0,0)),(rs,.cells (bv (List.replicate 512 0)) 25 (0,0))] ++ (Own.o 9 xq o8 ++ [])) : List (Nat × Obj))) (show _ = ((pts number q (i + 1)).map Value.string) from hpv)) ?_
     refine Cfg.again rfl (i + 1,o8) ⟨by omega,hpv ▸ ko8⟩ (by show q.length - (i + 1) < q.length - i; omega) (Conv.mk kr) (.cons _ (.cons _ (.cons_cons _ (.cons_cons _ (List.Sublist.refl _)))))
    ·have c2 := (of_decide_eq_false c2r)
     obtain rfl : i = q.length := by omega
     have hss : (tx (hdS number q ++ shaD (scat (pts number q q.length)))).size = (hdL number q).length := by rw [tx_size,pts_cat]; rfl
     have hfl : (hdL number q ++ List.replicate (512 - (hdL number q).length) 0).length = 512 := by rw [List.length_append,List.length_replicate]; omega
     refine Conv.cfg (Γ' := [(8,[],.slice (Own.a own) ((q.length + 1)) (Own.c own)),(5,[],.pointer (some ⟨o,0,none⟩)),(4,[],.pointer (some ⟨rs,0,none⟩))]) (Conv.mk kr) ?_
     refine Cfg.begL rfl ?_
     refine Le (Eff.alloc (z := (.agg (bv (List.replicate 512 0)))) rfl kr) ?_
     rintro hb ⟨hhb,nhb⟩
     refine CfgL.done rfl ?_
     refine Cfg.begA rfl kr [(rs,.cells (bv (List.replicate 512 0)) 25 (0,0))] ?_
     refine Ap [0,2] [] (some [4,5,11,61,63]) #[true,false,true,false,false,false,false,false] (.cons _ (.cons _ (.cons_cons _ (List.nil_sublist _)))) 6 (fun _ => [(512 ≤ 512)]) ⟨om,trivial⟩ ?_
     refine CfgA.two 1 3 kr (fuel' := 5) rfl ?_ ?_
     ·
      refine Ie rfl  (Eff.quiet (raw := false) (orc := some (.agg #[.string (tx (hdS number q))])) (v := .agg #[.string (tx (hdS number q))]) (nd := (fun S => [(∀ w1,S w1 → (loadVar 84 ⟨o,0,none⟩).run Tryz.prog w1 = .ok (.agg #[.string (tx (hdS number q))]) w1)])) (fun _ => kr) ⟨(fun w1 h => h.oload 1 rfl Tryz.underlying84 rfl (n := 1) kr rfl),trivial⟩ kr) (fun _ _ => (.cons _ (.cons _ (.cons_cons _ (List.nil_sublist _))))) ?_
      rintro ⟨⟩ -
      refine Ae 3 rfl 4  (Eff.callA (vs := [.slice (Own.a own) ((q.length + 1)) (Own.c own)]) (.agg (bv (shaD (scat (pts number q q.length))))) rfl Tryz.func36 rfl rfl kr (fun w1 h => by have h9 := shaSum (Own.a own) (Own.c own) (pts number q q.length) (Own.o 9 ((pts number q q.length).map Value.string) own) w1 (own_ins (by rw [pts_len (Nat.le_refl _)]; exact hok) (fun j hj => by simp [ssat,List.getElem?_eq_getElem hj])) (by rw [pts_len (Nat.le_refl _)]; unfold maxLen; omega) (fun e he => (List.mem_cons.1 he).elim (fun h1 => h1 ▸ h.ro _ (List.mem_cons_self ..)) (fun h1 => h.own e (show e ∈ ([(hb,.cells (bv (List.replicate 512 0)) 25 (0,0)),(o,.cells #[.string (tx (hdS number q))] 84 (0,0)),(rs,.cells (bv (List.replicate 512 0)) 25 (0,0))] ++ (Own.o 9 ((pts number q q.length).map Value.string) own ++ [])) from (List.mem_append_right _ (List.mem_append_left _ h1))))) hK; rw [pts_len (Nat.le_refl _)] at h9; exact h9)) (fun _ _ => (.cons _ (.cons _ (.cons_cons _ (List.nil_sublist _))))) ?_
      rintro ⟨⟩ -
      refine Ae 4 rfl 3  (Eff.buildAgg (vs := (bv (shaD (scat (pts number q q.length))))) (n := 32) rfl kr Tryz.underlying151 kr (z := (.agg #[.int .u8 0,.int .u8 0,.int .u8 0,.int .u8 0,.int .u8 0,.int .u8 0,.int .u8 0,.int .u8 0,.int .u8 0,.int .u8 0,.int .u8 0,.int .u8 0,.int .u8 0,.int .u8 0,.int .u8 0,.int .u8 0,.int .u8 0,.int .u8 0,.int .u8 0,.int .u8 0,.int .u8 0,.int .u8 0,.int .u8 0,.int .u8 0,.int .u8 0,.int .u8 0,.int .u8 0,.int .u8 0,.int .u8 0,.int .u8 0,.int .u8 0,.int .u8 0])) kr ((bv_size _).trans (shaD_len _)) (by decide) (by decide)) (fun _ _ => (.cons _ (.cons _ (.cons _ (.cons_cons _ (List.nil_sublist _)))))) ?_
      rintro x11 ⟨hx11,nx11⟩
      refine Ae 5 rfl 2  (Eff.callA (vs := [.agg #[.string (tx (hdS number q))],.slice (some ⟨x11,0,none⟩) 1 1]) (.agg #[.string (tx (hdS number q ++ shaD (scat (pts number q q.length))))]) rfl Tryz.func35 rfl rfl kr (fun w1 h => wDigest1 (hdS number q) (shaD (scat (pts number q q.length))) x11 95 w1 (shaD_len _) om (fun e he => by rw [List.mem_singleton.1 he]; exact h.own _ (show (x11,Obj.cells (bv (shaD (scat (pts number q q.length)))) 95 (0,0)) ∈ ([(x11,.cells (bv (shaD (scat (pts number q q.length)))) 95 (0,0)),(hb,.cells (bv (List.replicate 512 0)) 25 (0,0)),(o,.cells #[.string (tx (hdS number q))] 84 (0,0)),(rs,.cells (bv (List.replicate 512 0)) 25 (0,0))] ++ (Own.o 9 ((pts number q q.length).map Value.string) own ++ [])) from (List.mem_append_left _ (List.mem_of_getElem? (i := 0) rfl)))))) (fun _ _ => (.cons _ (.cons _ (.cons _ (.cons_cons _ (List.nil_sublist _)))))) ?_
      rintro ⟨⟩ -
      refine Ae 6 rfl 1  (Eff.callA (vs := [.agg #[.string (tx (hdS number q ++ shaD (scat (pts number q q.length))))]]) (.string (tx (hdS number q ++ shaD (scat (pts number q q.length))))) rfl Tryz.func34 rfl rfl kr (fun w1 _ => wString (tx (hdS number q ++ shaD (scat (pts number q q.length)))) w1)) (fun _ _ => (.cons _ (.cons _ (.cons _ (.cons_cons _ (List.nil_sublist _)))))) ?_
      rintro ⟨⟩ -
      refine Ae 7 rfl 0  (Eff.copyS rfl Tryz.underlying26 kr (b := hb) (off := 0) (dl := 512) (c := 512) kr (s := (tx (hdS number q ++ shaD (scat (pts number q q.length))))) kr 1 (cs := (bv (List.replicate 512 0))) (te := 25) kr ((hdL number q).length) (by rw [hss]; omega) (by rw [zsz512]; omega)) (fun _ _ => (.cons _ (.cons _ (.cons _ (.cons_cons _ (List.nil_sublist _)))))) ?_
      rintro ⟨⟩ -
      refine CfgA.done kr ?_
      refine Cg (Γ' := [(11,[],.pointer (some ⟨hb,0,none⟩)),(4,[],.pointer (some ⟨rs,0,none⟩))]) ?_
      refine Cfg.setO (congrArg (fun (xq : Array Value) => (([(x11,.cells (bv (shaD (scat (pts number q q.length)))) 95 (0,0)),(hb,.cells xq 25 (0,0)),(o,.cells #[.string (tx (hdS number q))] 84 (0,0)),(rs,.cells (bv (List.replicate 512 0)) 25 (0,0))] ++ (Own.o 9 ((pts number q q.length).map Value.string) own ++ [])) : List (Nat × Obj))) (show _ = (bv (hdL number q ++ List.replicate (512 - (hdL number q).length) 0)) from (by rw [pts_cat]; exact hd_spl (L := hdL number q) om rfl))) ?_
      refine Cfg.begL rfl ?_
      refine Lp 1 [(0,false,some (.agg (bv (hdL number q ++ List.replicate (512 - (hdL number q).length) 0))))] (some [4,69]) (fun S => [(∀ w1,S w1 → (loadVar 25 ⟨hb,0,none⟩).run Tryz.prog w1 = .ok (.agg (bv (hdL number q ++ List.replicate (512 - (hdL number q).length) 0))) w1)]) ⟨(fun w1 h => h.oload 1 rfl Tryz.underlying25 rfl (n := 512) kr ((bv_size _).trans hfl)),trivial⟩ ?_
      refine Le (Eff.storeN (b := rs) (off := 0) (vs := (bv (hdL number q ++ List.replicate (512 - (hdL number q).length) 0))) (n := 512) rfl kr kr kr ((bv_size _).trans hfl) (all_bv _) 3 (cs := (bv (List.replicate 512 0))) (e := 25) kr (by rw [zsz512]; omega)) ?_
      rintro ⟨⟩ -
      refine CfgL.setO (congrArg (fun (xq : Array Value) => (([(x11,.cells (bv (shaD (scat (pts number q q.length)))) 95 (0,0)),(hb,.cells (bv (hdL number q ++ List.replicate (512 - (hdL number q).length) 0)) 25 (0,0)),(o,.cells #[.string (tx (hdS number q))] 84 (0,0)),(rs,.cells xq 25 (0,0))] ++ (Own.o 9 ((pts number q q.length).map Value.string) own ++ [])) : List (Nat × Obj))) (show _ = (bv (hdL number q ++ List.replicate (512 - (hdL number q).length) 0)) from spl_all (((bv_size _).trans hfl).trans zsz512.symm))) ?_
      refine CfgL.done rfl ?_
      refine Cg (Γ' := [(4,[],.pointer (some ⟨rs,0,none⟩))]) ?_
      refine Cfg.ret rfl (rs := [.cell 4 25]) rfl [.agg (bv (hdL number q ++ List.replicate (512 - (hdL number q).length) 0))] ⟨⟨_,by kernel_rfl,(fun w1 h => h.oload 3 rfl Tryz.underlying25 rfl (n := 512) kr ((bv_size _).trans hfl))⟩,trivial⟩ (fun w1 hp => ?_)
      exact ⟨rfl,hp.ext⟩
     ·
      refine Ie rfl  (Eff.callA (vs := [.slice (Own.a own) ((q.length + 1)) (Own.c own)]) (.agg (bv (shaD (scat (pts number q q.length))))) rfl Tryz.func36 rfl rfl kr (fun w1 h => by have h9 := shaSum (Own.a own) (Own.c own) (pts number q q.length) (Own.o 9 ((pts number q q.length).map Value.string) own) w1 (own_ins (by rw [pts_len (Nat.le_refl _)]; exact hok) (fun j hj => by simp [ssat,List.getElem?_eq_getElem hj])) (by rw [pts_len (Nat.le_refl _)]; unfold maxLen; omega) (fun e he => (List.mem_cons.1 he).elim (fun h1 => h1 ▸ h.ro _ (List.mem_cons_self ..)) (fun h1 => h.own e (show e ∈ ([(hb,.cells (bv (List.replicate 512 0)) 25 (0,0)),(o,.cells #[.string (tx (hdS number q))] 84 (0,0)),(rs,.cells (bv (List.replicate 512 0)) 25 (0,0))] ++ (Own.o 9 ((pts number q q.length).map Value.string) own ++ [])) from (List.mem_append_right _ (List.mem_append_left _ h1))))) hK; rw [pts_len (Nat.le_refl _)] at h9; exact h9)) (fun _ _ => (.cons _ (.cons _ (.cons_cons _ (List.nil_sublist _))))) ?_
      rintro ⟨⟩ -
      refine CfgA.two 1 4 kr (fuel' := 4) rfl ?_ ?_
      ·
       refine Ie rfl  (Eff.quiet (raw := false) (orc := some (.agg #[.string (tx (hdS number q))])) (v := .agg #[.string (tx (hdS number q))]) (nd := (fun S => [(∀ w1,S w1 → (loadVar 84 ⟨o,0,none⟩).run Tryz.prog w1 = .ok (.agg #[.string (tx (hdS number q))]) w1)])) (fun _ => kr) ⟨(fun w1 h => h.oload 1 rfl Tryz.underlying84 rfl (n := 1) kr rfl),trivial⟩ kr) (fun _ _ => (.cons _ (.cons _ (.cons_cons _ (List.nil_sublist _))))) ?_
       rintro ⟨⟩ -
       refine Ae 4 rfl 3  (Eff.buildAgg (vs := (bv (shaD (scat (pts number q q.length))))) (n := 32) rfl kr Tryz.underlying151 kr (z := (.agg #[.int .u8 0,.int .u8 0,.int .u8 0,.int .u8 0,.int .u8 0,.int .u8 0,.int .u8 0,.int .u8 0,.int .u8 0,.int .u8 0,.int .u8 0,.int .u8 0,.int .u8 0,.int .u8 0,.int .u8 0,.int .u8 0,.int .u8 0,.int .u8 0,.int .u8 0,.int .u8 0,.int .u8 0,.int .u8 0,.int .u8 0,.int .u8 0,.int .u8 0,.int .u8 0,.int .u8 0,.int .u8 0,.int .u8 0,.int .u8 0,.int .u8 0,.int .u8 0])) kr ((bv_size _).trans (shaD_len _)) (by decide) (by decide)) (fun _ _ => (.cons _ (.cons _ (.cons _ (.cons_cons _ (List.nil_sublist _)))))) ?_
       rintro x12 ⟨hx12,nx12⟩
       refine Ae 5 rfl 2  (Eff.callA (vs := [.agg #[.string (tx (hdS number q))],.slice (some ⟨x12,0,none⟩) 1 1]) (.agg #[.string (tx (hdS number q ++ shaD (scat (pts number q q.length))))]) rfl Tryz.func35 rfl rfl kr (fun w1 h => wDigest1 (hdS number q) (shaD (scat (pts number q q.length))) x12 95 w1 (shaD_len _) om (fun e he => by rw [List.mem_singleton.1 he]; exact h.own _ (show (x12,Obj.cells (bv (shaD (scat (pts number q q.length)))) 95 (0,0)) ∈ ([(x12,.cells (bv (shaD (scat (pts number q q.length)))) 95 (0,0)),(hb,.cells (bv (List.replicate 512 0)) 25 (0,0)),(o,.cells #[.string (tx (hdS number q))] 84 (0,0)),(rs,.cells (bv (List.replicate 512 0)) 25 (0,0))] ++ (Own.o 9 ((pts number q q.length).map Value.string) own ++ [])) from (List.mem_append_left _ (List.mem_of_getElem? (i := 0) rfl)))))) (fun _ _ => (.cons _ (.cons _ (.cons _ (.cons_cons _ (List.nil_sublist _)))))) ?_
       rintro ⟨⟩ -
       refine Ae 6 rfl 1  (Eff.callA (vs := [.agg #[.string (tx (hdS number q ++ shaD (scat (pts number q q.length))))]]) (.string (tx (hdS number q ++ shaD (scat (pts number q q.length))))) rfl Tryz.func34 rfl rfl kr (fun w1 _ => wString (tx (hdS number q ++ shaD (scat (pts number q q.length)))) w1)) (fun _ _ => (.cons _ (.cons _ (.cons _ (.cons_cons _ (List.nil_sublist _)))))) ?_
       rintro ⟨⟩ -
       refine Ae 7 rfl 0  (Eff.copyS rfl Tryz.underlying26 kr (b := hb) (off := 0) (dl := 512) (c := 512) kr (s := (tx (hdS number q ++ shaD (scat (pts number q q.length))))) kr 1 (cs := (bv (List.replicate 512 0))) (te := 25) kr ((hdL number q).length) (by rw [hss]; omega) (by rw [zsz512]; omega)) (fun _ _ => (.cons _ (.cons _ (.cons _ (.cons_cons _ (List.nil_sublist _)))))) ?_
       rintro ⟨⟩ -
       refine CfgA.done kr ?_
       refine Cg (Γ' := [(11,[],.pointer (some ⟨hb,0,none⟩)),(4,[],.pointer (some ⟨rs,0,none⟩))]) ?_
       refine Cfg.setO (congrArg (fun (xq : Array Value) => (([(x12,.cells (bv (shaD (scat (pts number q q.length)))) 95 (0,0)),(hb,.cells xq 25 (0,0)),(o,.cells #[.string (tx (hdS number q))] 84 (0,0)),(rs,.cells (bv (List.replicate 512 0)) 25 (0,0))] ++ (Own.o 9 ((pts number q q.length).map Value.string) own ++ [])) : List (Nat × Obj))) (show _ = (bv (hdL number q ++ List.replicate (512 - (hdL number q).length) 0)) from (by rw [pts_cat]; exact hd_spl (L := hdL number q) om rfl))) ?_
       refine Cfg.begL rfl ?_
       refine Lp 1 [(0,false,some (.agg (bv (hdL number q ++ List.replicate (512 - (hdL number q).length) 0))))] (some [4,69]) (fun S => [(∀ w1,S w1 → (loadVar 25 ⟨hb,0,none⟩).run Tryz.prog w1 = .ok (.agg (bv (hdL number q ++ List.replicate (512 - (hdL number q).length) 0))) w1)]) ⟨(fun w1 h => h.oload 1 rfl Tryz.underlying25 rfl (n := 512) kr ((bv_size _).trans hfl)),trivial⟩ ?_
       refine Le (Eff.storeN (b := rs) (off := 0) (vs := (bv (hdL number q ++ List.replicate (512 - (hdL number q).length) 0))) (n := 512) rfl kr kr kr ((bv_size _).trans hfl) (all_bv _) 3 (cs := (bv (List.replicate 512 0))) (e := 25) kr (by rw [zsz512]; omega)) ?_
       rintro ⟨⟩ -
       refine CfgL.setO (congrArg (fun (xq : Array Value) => (([(x12,.cells (bv (shaD (scat (pts number q q.length)))) 95 (0,0)),(hb,.cells (bv (hdL number q ++ List.replicate (512 - (hdL number q).length) 0)) 25 (0,0)),(o,.cells #[.string (tx (hdS number q))] 84 (0,0)),(rs,.cells xq 25 (0,0))] ++ (Own.o 9 ((pts number q q.length).map Value.string) own ++ [])) : List (Nat × Obj))) (show _ = (bv (hdL number q ++ List.replicate (512 - (hdL number q).length) 0)) from spl_all (((bv_size _).trans hfl).trans zsz512.symm))) ?_
       refine CfgL.done rfl ?_
       refine Cg (Γ' := [(4,[],.pointer (some ⟨rs,0,none⟩))]) ?_
       refine Cfg.ret rfl (rs := [.cell 4 25]) rfl [.agg (bv (hdL number q ++ List.replicate (512 - (hdL number q).length) 0))] ⟨⟨_,by kernel_rfl,(fun w1 h => h.oload 3 rfl Tryz.underlying25 rfl (n := 512) kr ((bv_size _).trans hfl))⟩,trivial⟩ (fun w1 hp => ?_)
       exact ⟨rfl,hp.ext⟩
      ·
       refine Ie rfl  (Eff.buildAgg (vs := (bv (shaD (scat (pts number q q.length))))) (n := 32) rfl kr Tryz.underlying151 kr (z := (.agg #[.int .u8 0,.int .u8 0,.int .u8 0,.int .u8 0,.int .u8 0,.int .u8 0,.int .u8 0,.int .u8 0,.int .u8 0,.int .u8 0,.int .u8 0,.int .u8 0,.int .u8 0,.int .u8 0,.int .u8 0,.int .u8 0,.int .u8 0,.int .u8 0,.int .u8 0,.int .u8 0,.int .u8 0,.int .u8 0,.int .u8 0,.int .u8 0,.int .u8 0,.int .u8 0,.int .u8 0,.int .u8 0,.int .u8 0,.int .u8 0,.int .u8 0,.int .u8 0])) kr ((bv_size _).trans (shaD_len _)) (by decide) (by decide)) (fun _ _ => (.cons _ (.cons _ (.cons _ (.cons_cons _ (List.nil_sublist _)))))) ?_
       rintro x13 ⟨hx13,nx13⟩
       refine Ae 1 rfl 3  (Eff.quiet (raw := false) (orc := some (.agg #[.string (tx (hdS number q))])) (v := .agg #[.string (tx (hdS number q))]) (nd := (fun S => [(∀ w1,S w1 → (loadVar 84 ⟨o,0,none⟩).run Tryz.prog w1 = .ok (.agg #[.string (tx (hdS number q))]) w1)])) (fun _ => kr) ⟨(fun w1 h => h.oload 2 rfl Tryz.underlying84 rfl (n := 1) kr rfl),trivial⟩ kr) (fun _ _ => (.cons _ (.cons _ (.cons _ (.cons_cons _ (List.nil_sublist _)))))) ?_
       rintro ⟨⟩ -
       refine Ae 5 rfl 2  (Eff.callA (vs := [.agg #[.string (tx (hdS number q))],.slice (some ⟨x13,0,none⟩) 1 1]) (.agg #[.string (tx (hdS number q ++ shaD (scat (pts number q q.length))))]) rfl Tryz.func35 rfl rfl kr (fun w1 h => wDigest1 (hdS number q) (shaD (scat (pts number q q.length))) x13 95 w1 (shaD_len _) om (fun e he => by rw [List.mem_singleton.1 he]; exact h.own _ (show (x13,Obj.cells (bv (shaD (scat (pts number q q.length)))) 95 (0,0)) ∈ ([(x13,.cells (bv (shaD (scat (pts number q q.length)))) 95 (0,0)),(hb,.cells (bv (List.replicate 512 0)) 25 (0,0)),(o,.cells #[.string (tx (hdS number q))] 84 (0,0)),(rs,.cells (bv (List.replicate 512 0)) 25 (0,0))] ++ (Own.o 9 ((pts number q q.length).map Value.string) own ++ [])) from (List.mem_append_left _ (List.mem_of_getElem? (i := 0) rfl)))))) (fun _ _ => (.cons _ (.cons _ (.cons _ (.cons_cons _ (List.nil_sublist _)))))) ?_
       rintro ⟨⟩ -
       refine Ae 6 rfl 1  (Eff.callA (vs := [.agg #[.string (tx (hdS number q ++ shaD (scat (pts number q q.length))))]]) (.string (tx (hdS number q ++ shaD (scat (pts number q q.length))))) rfl Tryz.func34 rfl rfl kr (fun w1 _ => wString (tx (hdS number q ++ shaD (scat (pts number q q.length)))) w1)) (fun _ _ => (.cons _ (.cons _ (.cons _ (.cons_cons _ (List.nil_sublist _)))))) ?_
       rintro ⟨⟩ -
       refine Ae 7 rfl 0  (Eff.copyS rfl Tryz.underlying26 kr (b := hb) (off := 0) (dl := 512) (c := 512) kr (s := (tx (hdS number q ++ shaD (scat (pts number q q.length))))) kr 1 (cs := (bv (List.replicate 512 0))) (te := 25) kr ((hdL number q).length) (by rw [hss]; omega) (by rw [zsz512]; omega)) (fun _ _ => (.cons _ (.cons _ (.cons _ (.cons_cons _ (List.nil_sublist _)))))) ?_
       rintro ⟨⟩ -
       refine CfgA.done kr ?_
       refine Cg (Γ' := [(11,[],.pointer (some ⟨hb,0,none⟩)),(4,[],.pointer (some ⟨rs,0,none⟩))]) ?_
       refine Cfg.setO (congrArg (fun (xq : Array Value) => (([(x13,.cells (bv (shaD (scat (pts number q q.length)))) 95 (0,0)),(hb,.cells xq 25 (0,0)),(o,.cells #[.string (tx (hdS number q))] 84 (0,0)),(rs,.cells (bv (List.replicate 512 0)) 25 (0,0))] ++ (Own.o 9 ((pts number q q.length).map Value.string) own ++ [])) : List (Nat × Obj))) (show _ = (bv (hdL number q ++ List.replicate (512 - (hdL number q).length) 0)) from (by rw [pts_cat]; exact hd_spl (L := hdL number q) om rfl))) ?_
       refine Cfg.begL rfl ?_
       refine Lp 1 [(0,false,some (.agg (bv (hdL number q ++ List.replicate (512 - (hdL number q).length) 0))))] (some [4,69]) (fun S => [(∀ w1,S w1 → (loadVar 25 ⟨hb,0,none⟩).run Tryz.prog w1 = .ok (.agg (bv (hdL number q ++ List.replicate (512 - (hdL number q).length) 0))) w1)]) ⟨(fun w1 h => h.oload 1 rfl Tryz.underlying25 rfl (n := 512) kr ((bv_size _).trans hfl)),trivial⟩ ?_
       refine Le (Eff.storeN (b := rs) (off := 0) (vs := (bv (hdL number q ++ List.replicate (512 - (hdL number q).length) 0))) (n := 512) rfl kr kr kr ((bv_size _).trans hfl) (all_bv _) 3 (cs := (bv (List.replicate 512 0))) (e := 25) kr (by rw [zsz512]; omega)) ?_
       rintro ⟨⟩ -
       refine CfgL.setO (congrArg (fun (xq : Array Value) => (([(x13,.cells (bv (shaD (scat (pts number q q.length)))) 95 (0,0)),(hb,.cells (bv (hdL number q ++ List.replicate (512 - (hdL number q).length) 0)) 25 (0,0)),(o,.cells #[.string (tx (hdS number q))] 84 (0,0)),(rs,.cells xq 25 (0,0))] ++ (Own.o 9 ((pts number q q.length).map Value.string) own ++ [])) : List (Nat × Obj))) (show _ = (bv (hdL number q ++ List.replicate (512 - (hdL number q).length) 0)) from spl_all (((bv_size _).trans hfl).trans zsz512.symm))) ?_
       refine CfgL.done rfl ?_
       refine Cg (Γ' := [(4,[],.pointer (some ⟨rs,0,none⟩))]) ?_
       refine Cfg.ret rfl (rs := [.cell 4 25]) rfl [.agg (bv (hdL number q ++ List.replicate (512 - (hdL number q).length) 0))] ⟨⟨_,by kernel_rfl,(fun w1 h => h.oload 3 rfl Tryz.underlying25 rfl (n := 512) kr ((bv_size _).trans hfl))⟩,trivial⟩ (fun w1 hp => ?_)
       exact ⟨rfl,hp.ext⟩
end Go.Proofs.YtohjpggjgomgoaaGreatDoor
namespace Go.Proofs.YtohjpggjgomgoaaGreatDoor
open K
set_option linter.unusedVariables false
def un8 (L : List Nat) : List UInt8 := L.map UInt8.ofNat
def mixes : Nat → List UInt8 → List Nat → List Nat
 | 0,_,hs => hs
 | k + 1,l,hs => mixes k (l.drop 64) (mixF hs (l.take 64))
theorem lay_all : ∀ (l A B : List UInt8),B.length = l.length → lay (A ++ B) A.length l = A ++ l
 | [],A,B,h => by rw [List.eq_nil_of_length_eq_zero (l := B) (by simpa using h)]; rfl
 | x :: l,A,B,h => by
  match B,h with
  | y :: B,h =>
   have e : (A ++ y :: B).set A.length x = (A ++ [x]) ++ B := by simp
   have := lay_all l (A ++ [x]) B (by simpa using h)
   rw [lay,e]
   rw [List.length_append] at this
   simpa using this
theorem feed_mixes : ∀ (k : Nat) (l : List UInt8) (hs : List Nat) (bl : List UInt8),l.length = 64 * k → bl.length = 64 → (feed ⟨hs,bl,0⟩ l).hs = mixes k l hs
 | 0,l,hs,bl,h,_ => by rw [List.eq_nil_of_length_eq_zero (l := l) om]; rfl
 | k + 1,l,hs,bl,h,hb => by
  have h1 : (l.take 64).length = 64 := by rw [List.length_take]; omega
  have hf := feed_full (l.take 64) hs bl 0 (by decide) om
  have hla : lay bl 0 (l.take 64) = l.take 64 := by
   have := lay_all (l.take 64) [] bl om
   simpa using this
  rw [hla] at hf
  have := feed_app ⟨hs,bl,0⟩ (l.take 64) (l.drop 64)
  rw [List.take_append_drop] at this
  rw [this,hf,feed_mixes k (l.drop 64) _ _ (by rw [List.length_drop]; omega) h1,mixes]
def tailN (N : Nat) : List Nat := 128 :: (List.replicate ((119 - N % 64) % 64) 0 ++ (List.range 8).map fun i => lb (N % 18446744073709551616) / 2 ^ (56 - 8 * i) % 256)
theorem u8_ofmod (m : Nat) : UInt8.ofNat (m % 256) = UInt8.ofNat m := u8mod m
theorem un8_tail (N : Nat) : un8 (tailN N) = 128 :: (List.replicate ((119 - N % 64) % 64) 0 ++ tlr (lb (N % 18446744073709551616)) 8) := by
 unfold un8 tailN tlr tb
 rw [List.map_cons,List.map_append,List.map_replicate,List.map_map]
 congr 2
 simp only [Nat.sub_self,List.replicate_zero,List.append_nil]
 apply List.map_congr_left
 intro i _
 exact u8_ofmod _
theorem shaD_mixes (l : List UInt8) {k : Nat} (hk : l.length + (tailN l.length).length = 64 * k) : shaD l = dgr (mixes k (l ++ un8 (tailN l.length)) H8) 8 := by
 have hh : (feed sh0 l).held = l.length % 64 := by
  have := feed_held l sh0_ok
  rw [this]
  show (0 + l.length) % 64 = _
  rw [Nat.zero_add]
 unfold shaD shaEnd z3 pz padN
 rw [← feed_app,← feed_app,hh]
 have e : l ++ ((128 :: List.replicate ((119 - l.length % 64) % 64) 0) ++ tlr (lb (l.length % 18446744073709551616)) 8) = l ++ un8 (tailN l.length) := by
  rw [un8_tail,List.cons_append]
 rw [e]
 congr 1
 exact feed_mixes k _ H8 _ (by rw [List.length_append]; unfold un8; rw [List.length_map]; exact hk) (by rw [List.length_replicate])
theorem mixes_succ : ∀ (k : Nat) (l : List UInt8) (hs : List Nat),mixes (k + 1) l hs = mixF (mixes k l hs) ((l.drop (64 * k)).take 64)
 | 0,l,hs => by rw [mixes,mixes,mixes,Nat.mul_zero,List.drop_zero]
 | k + 1,l,hs => by
  have ih := mixes_succ k (l.drop 64) (mixF hs (l.take 64))
  rw [mixes,ih,List.drop_drop,mixes,show 64 + 64 * k = 64 * (k + 1) by omega]
theorem mixes_len : ∀ (k : Nat) (l : List UInt8) {hs : List Nat},hs.length = 8 → (mixes k l hs).length = 8
 | 0,_,_,h => h
 | k + 1,l,hs,h => mixes_len k _ (mixF_len _ h)
theorem mixes_lt : ∀ (k : Nat) (l : List UInt8) {hs : List Nat},(∀ i,rg hs i < 2 ^ 32) → ∀ i,rg (mixes k l hs) i < 2 ^ 32
 | 0,_,_,h => h
 | k + 1,l,hs,h => mixes_lt k _ (mixF_lt _ h)
end Go.Proofs.YtohjpggjgomgoaaGreatDoor
namespace Go.Proofs.YtohjpggjgomgoaaGreatDoor
open K
set_option linter.unusedVariables false
theorem tm_lt (x : Int) : (x % 4294967296).toNat < 2 ^ 32 := by omega
theorem rotr_or (x a b : Nat) : (x / b) ||| (x * a % 4294967296) = rotl x a b := Nat.or_comm _ _
def ck (l : List UInt8) (q : Nat) : List UInt8 := (l.drop (64 * q)).take 64
theorem ck_get {l : List UInt8} {q j i : Nat} (hj : j < 64) (hi : i = 64 * q + j) : bt4 (ck l q) j = (l.getD i 0).toNat := by
 unfold bt4 ck
 rw [List.getD_eq_getElem?_getD,List.getElem?_take,if_pos hj,List.getElem?_drop,List.getD_eq_getElem?_getD,hi]
def LB (s : ByteArray) (j : Nat) : List UInt8 := s.data.toList ++ (128 :: List.replicate j 0)
def LC (s : ByteArray) (k : Nat) : List UInt8 := LB s ((119 - s.size % 64) % 64) ++ (List.range k).map (tb (lb s.size))
theorem bv_snoc (l : List UInt8) (c : UInt8) : (bv l).toList ++ [Value.int .u8 (c.toNat : Int)] = (bv (l ++ [c])).toList := by rw [← bv_app]; rfl
theorem lb_start (s : ByteArray) : (bv s.data.toList).toList ++ [Value.int .u8 128] = (bv (LB s 0)).toList := bv_snoc s.data.toList 128
theorem lb_step (s : ByteArray) (j : Nat) : (bv (LB s j)).toList ++ [Value.int .u8 0] = (bv (LB s (j + 1))).toList := by
 have := bv_snoc (LB s j) 0
 rw [show LB s (j + 1) = LB s j ++ [0] by unfold LB; rw [List.replicate_succ',← List.cons_append,← List.append_assoc]]
 exact this
theorem lc_start (s : ByteArray) : LB s ((119 - s.size % 64) % 64) = LC s 0 := by unfold LC; simp
theorem lc_step (s : ByteArray) {k : Nat} (hk : k < 8) {x : Int} (hx : x = ((lb s.size : Int) / ((2 ^ (8 * ((7 : Int) - (k : Int))).toNat : Nat) : Int)) % 256) : (bv (LC s k)).toList ++ [Value.int .u8 x] = (bv (LC s (k + 1))).toList := by
 have e : x = ((UInt8.ofNat (lb s.size / 2 ^ (56 - 8 * k))).toNat : Int) := by
  rw [hx,show (8 * ((7 : Int) - (k : Int))).toNat = 56 - 8 * k by omega]
  simp
 rw [e,bv_snoc]
 congr 2
 unfold LC tb
 rw [List.range_succ,List.map_append,List.append_assoc]; rfl
theorem lc_end (s : ByteArray) (hs : s.size < 18446744073709551616) : LC s 8 = s.data.toList ++ un8 (tailN s.size) := by
 unfold LC LB
 rw [un8_tail,Nat.mod_eq_of_lt hs]
 simp [tlr]
theorem mm_len (s : ByteArray) : (s.data.toList ++ un8 (tailN s.size)).length = s.size + 1 + (119 - s.size % 64) % 64 + 8 := by
 unfold un8 tailN
 rw [List.length_append,List.length_map,List.length_cons,List.length_append,List.length_replicate,List.length_map,List.length_range]
 have : s.data.toList.length = s.size := ba_len s
 omega
theorem wn_eq2 (y x7 x x16 : Nat) : ((((((x16 : Int) + (wlow x : Int)) % 4294967296) + (x7 : Int)) % 4294967296) + (whigh y : Int)) % 4294967296 = ((wn4 y x7 x x16 : Nat) : Int) := by unfold wn4; omega
theorem compl32 {e : Nat} (he : e < 2 ^ 32) : ((4294967295 - (e : Int)) % 4294967296).toNat = 4294967295 ^^^ e := by
 rw [show ((4294967295 - (e : Int)) % 4294967296).toNat = 2 ^ 32 - (e + 1) by omega,show (4294967295 : Nat) = 2 ^ 32 - 1 from rfl]
 apply Nat.eq_of_testBit_eq
 intro i
 rw [Nat.testBit_two_pow_sub_succ he,Nat.testBit_xor,Nat.testBit_two_pow_sub_one]
 by_cases h : i < 32
 ·simp [h]
 ·have : Nat.testBit e i = false := Nat.testBit_lt_two_pow (Nat.lt_of_lt_of_le he (Nat.pow_le_pow_right (by decide) om))
  simp [h,this]
theorem choi_eq2 {e : Nat} (he : e < 2 ^ 32) (f g : Nat) : (((((((e : Int)).toNat &&& ((f : Int)).toNat : Nat) : Int)).toNat ^^^ ((((((4294967295 - (e : Int)) % 4294967296)).toNat &&& ((g : Int)).toNat : Nat) : Int)).toNat : Nat) : Int) = ((choi e f g : Nat) : Int) := by
 unfold choi
 rw [compl32 he]; rfl
theorem wsum8 (hs vs : List Nat) {k : Nat} (hk : k < 8) (hh : hs.length = 8) : (wv (sm hs vs k)).setIfInBounds k (.int .u32 (((rg (sm hs vs k) k : Int) + (rg vs k : Int)) % 4294967296)) = wv (sm hs vs (k + 1)) := by
 rw [wv_set om,add32,Int.toNat_natCast]; rfl
theorem vrow (hs : List Nat) (bl : List UInt8) (t : Nat) : (#[.int .u32 (((frst (rg Kc t) (rg (row bl 64) t) (rv hs bl t) : Int) + (scnd (rv hs bl t) : Int)) % 4294967296),.int .u32 ((rv hs bl t).a : Int),.int .u32 ((rv hs bl t).b : Int),.int .u32 ((rv hs bl t).c : Int),.int .u32 ((((rv hs bl t).d : Int) + (frst (rg Kc t) (rg (row bl 64) t) (rv hs bl t) : Int)) % 4294967296),.int .u32 ((rv hs bl t).e : Int),.int .u32 ((rv hs bl t).f : Int),.int .u32 ((rv hs bl t).g : Int)] : Array Value) = wv (w8l (rv hs bl (t + 1))) := by
 rw [rv_a,rv_e]; rfl
theorem dsz2 (hs : List Nat) {k : Nat} (h : k ≤ 8) : (bv (dgr hs k)).size = 32 := (bv_size _).trans (dgr_len h)
theorem mo_byte {w0 w : World} {M : List Nat} {R O : List (Nat × Obj)} (h : HP w0 M R O w) {mo : MO} {e : TypeId} {l : List UInt8} (hm : (mo.b,Obj.cells ((bv l).toList ++ mo.junk).toArray e mo.fr) ∈ O) {i j q : Nat} (hl : i < l.length) (hj : j < 64) (hi : i = 64 * q + j) :
  w.cell? ⟨mo.b,i,none⟩ = some (.int .u8 ((bt4 (ck l q) j : Nat) : Int)) := by
 rw [cell_cells (h.own _ hm),ck_get hj hi]
 simp only [List.getElem?_toArray]
 rw [List.getElem?_append_left (by rw [bv_len]; exact hl),Array.getElem?_toList]
 exact bv_get (n := l.length) rfl hl
set_option maxRecDepth 100000 in
theorem rRotr7 (x : Nat) (w : World) (hx : x < 2 ^ 32) :
  Calls Tryz.prog 84 #[.int .u32 (x : Int),.int .i64 7] w fun e w' => e = .returned (.int .u32 (rotl x 33554432 128 : Int)) ∧ Ext [] w w' := by
 refine enter (vs := [.int .u32 (x : Int),.int .i64 7]) [] [] [] Tryz.func84 rfl kr (HP.start w) ?_
 refine Rg [0,1] [] n0 trivial ?_
 refine Cfg.regD rfl kr [4] [] (Γ' := [(4,[],.int .u32 (((((x : Int) / 128)).toNat ||| ((((x : Int) * 33554432) % 4294967296)).toNat : Nat) : Int))]) (nd := (fun _ => [(0 ≤ (7 : Int) ∧ 7 ≤ 32),((-9223372036854775808 : Int) ≤ (25 : Int) ∧ (25 : Int) ≤ 9223372036854775807),(0 ≤ (25 : Int) ∧ 25 ≤ 32),((0 ≤ ((x : Int) / 128) ∧ ((x : Int) / 128) ≤ 4294967295) ∧ 0 ≤ (((x : Int) * 33554432) % 4294967296) ∧ (((x : Int) * 33554432) % 4294967296) ≤ 4294967295)])) kr kr (fun _ => kr) ⟨om,om,om,om,trivial⟩ ?_
 refine Cfg.ret rfl (rs := [.tmp 4]) rfl [.int .u32 (((((x : Int) / 128)).toNat ||| ((((x : Int) * 33554432) % 4294967296)).toNat : Nat) : Int)] ⟨kr,trivial⟩ (fun w1 hp => ?_)
 refine ⟨?_,hp.ext⟩
 rw [← rotr_or,show x * 33554432 % 4294967296 = ((x : Int) * 33554432 % 4294967296).toNat by omega,show x / 128 = ((x : Int) / 128).toNat by omega]
 rfl
set_option maxRecDepth 100000 in
theorem rRotr18 (x : Nat) (w : World) (hx : x < 2 ^ 32) :
  Calls Tryz.prog 84 #[.int .u32 (x : Int),.int .i64 18] w fun e w' => e = .returned (.int .u32 (rotl x 16384 262144 : Int)) ∧ Ext [] w w' := by
 refine enter (vs := [.int .u32 (x : Int),.int .i64 18]) [] [] [] Tryz.func84 rfl kr (HP.start w) ?_
 refine Rg [0,1] [] n0 trivial ?_
 refine Cfg.regD rfl kr [4] [] (Γ' := [(4,[],.int .u32 (((((x : Int) / 262144)).toNat ||| ((((x : Int) * 16384) % 4294967296)).toNat : Nat) : Int))]) (nd := (fun _ => [(0 ≤ (18 : Int) ∧ 18 ≤ 32),((-9223372036854775808 : Int) ≤ (14 : Int) ∧ (14 : Int) ≤ 9223372036854775807),(0 ≤ (14 : Int) ∧ 14 ≤ 32),((0 ≤ ((x : Int) / 262144) ∧ ((x : Int) / 262144) ≤ 4294967295) ∧ 0 ≤ (((x : Int) * 16384) % 4294967296) ∧ (((x : Int) * 16384) % 4294967296) ≤ 4294967295)])) kr kr (fun _ => kr) ⟨om,om,om,om,trivial⟩ ?_
 refine Cfg.ret rfl (rs := [.tmp 4]) rfl [.int .u32 (((((x : Int) / 262144)).toNat ||| ((((x : Int) * 16384) % 4294967296)).toNat : Nat) : Int)] ⟨kr,trivial⟩ (fun w1 hp => ?_)
 refine ⟨?_,hp.ext⟩
 rw [← rotr_or,show x * 16384 % 4294967296 = ((x : Int) * 16384 % 4294967296).toNat by omega,show x / 262144 = ((x : Int) / 262144).toNat by omega]
 rfl
set_option maxRecDepth 100000 in
theorem rRotr17 (x : Nat) (w : World) (hx : x < 2 ^ 32) :
  Calls Tryz.prog 84 #[.int .u32 (x : Int),.int .i64 17] w fun e w' => e = .returned (.int .u32 (rotl x 32768 131072 : Int)) ∧ Ext [] w w' := by
 refine enter (vs := [.int .u32 (x : Int),.int .i64 17]) [] [] [] Tryz.func84 rfl kr (HP.start w) ?_
 refine Rg [0,1] [] n0 trivial ?_
 refine Cfg.regD rfl kr [4] [] (Γ' := [(4,[],.int .u32 (((((x : Int) / 131072)).toNat ||| ((((x : Int) * 32768) % 4294967296)).toNat : Nat) : Int))]) (nd := (fun _ => [(0 ≤ (17 : Int) ∧ 17 ≤ 32),((-9223372036854775808 : Int) ≤ (15 : Int) ∧ (15 : Int) ≤ 9223372036854775807),(0 ≤ (15 : Int) ∧ 15 ≤ 32),((0 ≤ ((x : Int) / 131072) ∧ ((x : Int) / 131072) ≤ 4294967295) ∧ 0 ≤ (((x : Int) * 32768) % 4294967296) ∧ (((x : Int) * 32768) % 4294967296) ≤ 4294967295)])) kr kr (fun _ => kr) ⟨om,om,om,om,trivial⟩ ?_
 refine Cfg.ret rfl (rs := [.tmp 4]) rfl [.int .u32 (((((x : Int) / 131072)).toNat ||| ((((x : Int) * 32768) % 4294967296)).toNat : Nat) : Int)] ⟨kr,trivial⟩ (fun w1 hp => ?_)
 refine ⟨?_,hp.ext⟩
 rw [← rotr_or,show x * 32768 % 4294967296 = ((x : Int) * 32768 % 4294967296).toNat by omega,show x / 131072 = ((x : Int) / 131072).toNat by omega]
 rfl
set_option maxRecDepth 100000 in
theorem rRotr19 (x : Nat) (w : World) (hx : x < 2 ^ 32) :
  Calls Tryz.prog 84 #[.int .u32 (x : Int),.int .i64 19] w fun e w' => e = .returned (.int .u32 (rotl x 8192 524288 : Int)) ∧ Ext [] w w' := by
 refine enter (vs := [.int .u32 (x : Int),.int .i64 19]) [] [] [] Tryz.func84 rfl kr (HP.start w) ?_
 refine Rg [0,1] [] n0 trivial ?_
 refine Cfg.regD rfl kr [4] [] (Γ' := [(4,[],.int .u32 (((((x : Int) / 524288)).toNat ||| ((((x : Int) * 8192) % 4294967296)).toNat : Nat) : Int))]) (nd := (fun _ => [(0 ≤ (19 : Int) ∧ 19 ≤ 32),((-9223372036854775808 : Int) ≤ (13 : Int) ∧ (13 : Int) ≤ 9223372036854775807),(0 ≤ (13 : Int) ∧ 13 ≤ 32),((0 ≤ ((x : Int) / 524288) ∧ ((x : Int) / 524288) ≤ 4294967295) ∧ 0 ≤ (((x : Int) * 8192) % 4294967296) ∧ (((x : Int) * 8192) % 4294967296) ≤ 4294967295)])) kr kr (fun _ => kr) ⟨om,om,om,om,trivial⟩ ?_
 refine Cfg.ret rfl (rs := [.tmp 4]) rfl [.int .u32 (((((x : Int) / 524288)).toNat ||| ((((x : Int) * 8192) % 4294967296)).toNat : Nat) : Int)] ⟨kr,trivial⟩ (fun w1 hp => ?_)
 refine ⟨?_,hp.ext⟩
 rw [← rotr_or,show x * 8192 % 4294967296 = ((x : Int) * 8192 % 4294967296).toNat by omega,show x / 524288 = ((x : Int) / 524288).toNat by omega]
 rfl
set_option maxRecDepth 100000 in
theorem rRotr6 (x : Nat) (w : World) (hx : x < 2 ^ 32) :
  Calls Tryz.prog 84 #[.int .u32 (x : Int),.int .i64 6] w fun e w' => e = .returned (.int .u32 (rotl x 67108864 64 : Int)) ∧ Ext [] w w' := by
 refine enter (vs := [.int .u32 (x : Int),.int .i64 6]) [] [] [] Tryz.func84 rfl kr (HP.start w) ?_
 refine Rg [0,1] [] n0 trivial ?_
 refine Cfg.regD rfl kr [4] [] (Γ' := [(4,[],.int .u32 (((((x : Int) / 64)).toNat ||| ((((x : Int) * 67108864) % 4294967296)).toNat : Nat) : Int))]) (nd := (fun _ => [(0 ≤ (6 : Int) ∧ 6 ≤ 32),((-9223372036854775808 : Int) ≤ (26 : Int) ∧ (26 : Int) ≤ 9223372036854775807),(0 ≤ (26 : Int) ∧ 26 ≤ 32),((0 ≤ ((x : Int) / 64) ∧ ((x : Int) / 64) ≤ 4294967295) ∧ 0 ≤ (((x : Int) * 67108864) % 4294967296) ∧ (((x : Int) * 67108864) % 4294967296) ≤ 4294967295)])) kr kr (fun _ => kr) ⟨om,om,om,om,trivial⟩ ?_
 refine Cfg.ret rfl (rs := [.tmp 4]) rfl [.int .u32 (((((x : Int) / 64)).toNat ||| ((((x : Int) * 67108864) % 4294967296)).toNat : Nat) : Int)] ⟨kr,trivial⟩ (fun w1 hp => ?_)
 refine ⟨?_,hp.ext⟩
 rw [← rotr_or,show x * 67108864 % 4294967296 = ((x : Int) * 67108864 % 4294967296).toNat by omega,show x / 64 = ((x : Int) / 64).toNat by omega]
 rfl
set_option maxRecDepth 100000 in
theorem rRotr11 (x : Nat) (w : World) (hx : x < 2 ^ 32) :
  Calls Tryz.prog 84 #[.int .u32 (x : Int),.int .i64 11] w fun e w' => e = .returned (.int .u32 (rotl x 2097152 2048 : Int)) ∧ Ext [] w w' := by
 refine enter (vs := [.int .u32 (x : Int),.int .i64 11]) [] [] [] Tryz.func84 rfl kr (HP.start w) ?_
 refine Rg [0,1] [] n0 trivial ?_
 refine Cfg.regD rfl kr [4] [] (Γ' := [(4,[],.int .u32 (((((x : Int) / 2048)).toNat ||| ((((x : Int) * 2097152) % 4294967296)).toNat : Nat) : Int))]) (nd := (fun _ => [(0 ≤ (11 : Int) ∧ 11 ≤ 32),((-9223372036854775808 : Int) ≤ (21 : Int) ∧ (21 : Int) ≤ 9223372036854775807),(0 ≤ (21 : Int) ∧ 21 ≤ 32),((0 ≤ ((x : Int) / 2048) ∧ ((x : Int) / 2048) ≤ 4294967295) ∧ 0 ≤ (((x : Int) * 2097152) % 4294967296) ∧ (((x : Int) * 2097152) % 4294967296) ≤ 4294967295)])) kr kr (fun _ => kr) ⟨om,om,om,om,trivial⟩ ?_
 refine Cfg.ret rfl (rs := [.tmp 4]) rfl [.int .u32 (((((x : Int) / 2048)).toNat ||| ((((x : Int) * 2097152) % 4294967296)).toNat : Nat) : Int)] ⟨kr,trivial⟩ (fun w1 hp => ?_)
 refine ⟨?_,hp.ext⟩
 rw [← rotr_or,show x * 2097152 % 4294967296 = ((x : Int) * 2097152 % 4294967296).toNat by omega,show x / 2048 = ((x : Int) / 2048).toNat by omega]
 rfl
set_option maxRecDepth 100000 in
theorem rRotr25 (x : Nat) (w : World) (hx : x < 2 ^ 32) :
  Calls Tryz.prog 84 #[.int .u32 (x : Int),.int .i64 25] w fun e w' => e = .returned (.int .u32 (rotl x 128 33554432 : Int)) ∧ Ext [] w w' := by
 refine enter (vs := [.int .u32 (x : Int),.int .i64 25]) [] [] [] Tryz.func84 rfl kr (HP.start w) ?_
 refine Rg [0,1] [] n0 trivial ?_
 refine Cfg.regD rfl kr [4] [] (Γ' := [(4,[],.int .u32 (((((x : Int) / 33554432)).toNat ||| ((((x : Int) * 128) % 4294967296)).toNat : Nat) : Int))]) (nd := (fun _ => [(0 ≤ (25 : Int) ∧ 25 ≤ 32),((-9223372036854775808 : Int) ≤ (7 : Int) ∧ (7 : Int) ≤ 9223372036854775807),(0 ≤ (7 : Int) ∧ 7 ≤ 32),((0 ≤ ((x : Int) / 33554432) ∧ ((x : Int) / 33554432) ≤ 4294967295) ∧ 0 ≤ (((x : Int) * 128) % 4294967296) ∧ (((x : Int) * 128) % 4294967296) ≤ 4294967295)])) kr kr (fun _ => kr) ⟨om,om,om,om,trivial⟩ ?_
 refine Cfg.ret rfl (rs := [.tmp 4]) rfl [.int .u32 (((((x : Int) / 33554432)).toNat ||| ((((x : Int) * 128) % 4294967296)).toNat : Nat) : Int)] ⟨kr,trivial⟩ (fun w1 hp => ?_)
 refine ⟨?_,hp.ext⟩
 rw [← rotr_or,show x * 128 % 4294967296 = ((x : Int) * 128 % 4294967296).toNat by omega,show x / 33554432 = ((x : Int) / 33554432).toNat by omega]
 rfl
set_option maxRecDepth 100000 in
theorem rRotr2 (x : Nat) (w : World) (hx : x < 2 ^ 32) :
  Calls Tryz.prog 84 #[.int .u32 (x : Int),.int .i64 2] w fun e w' => e = .returned (.int .u32 (rotl x 1073741824 4 : Int)) ∧ Ext [] w w' := by
 refine enter (vs := [.int .u32 (x : Int),.int .i64 2]) [] [] [] Tryz.func84 rfl kr (HP.start w) ?_
 refine Rg [0,1] [] n0 trivial ?_
 refine Cfg.regD rfl kr [4] [] (Γ' := [(4,[],.int .u32 (((((x : Int) / 4)).toNat ||| ((((x : Int) * 1073741824) % 4294967296)).toNat : Nat) : Int))]) (nd := (fun _ => [(0 ≤ (2 : Int) ∧ 2 ≤ 32),((-9223372036854775808 : Int) ≤ (30 : Int) ∧ (30 : Int) ≤ 9223372036854775807),(0 ≤ (30 : Int) ∧ 30 ≤ 32),((0 ≤ ((x : Int) / 4) ∧ ((x : Int) / 4) ≤ 4294967295) ∧ 0 ≤ (((x : Int) * 1073741824) % 4294967296) ∧ (((x : Int) * 1073741824) % 4294967296) ≤ 4294967295)])) kr kr (fun _ => kr) ⟨om,om,om,om,trivial⟩ ?_
 refine Cfg.ret rfl (rs := [.tmp 4]) rfl [.int .u32 (((((x : Int) / 4)).toNat ||| ((((x : Int) * 1073741824) % 4294967296)).toNat : Nat) : Int)] ⟨kr,trivial⟩ (fun w1 hp => ?_)
 refine ⟨?_,hp.ext⟩
 rw [← rotr_or,show x * 1073741824 % 4294967296 = ((x : Int) * 1073741824 % 4294967296).toNat by omega,show x / 4 = ((x : Int) / 4).toNat by omega]
 rfl
set_option maxRecDepth 100000 in
theorem rRotr13 (x : Nat) (w : World) (hx : x < 2 ^ 32) :
  Calls Tryz.prog 84 #[.int .u32 (x : Int),.int .i64 13] w fun e w' => e = .returned (.int .u32 (rotl x 524288 8192 : Int)) ∧ Ext [] w w' := by
 refine enter (vs := [.int .u32 (x : Int),.int .i64 13]) [] [] [] Tryz.func84 rfl kr (HP.start w) ?_
 refine Rg [0,1] [] n0 trivial ?_
 refine Cfg.regD rfl kr [4] [] (Γ' := [(4,[],.int .u32 (((((x : Int) / 8192)).toNat ||| ((((x : Int) * 524288) % 4294967296)).toNat : Nat) : Int))]) (nd := (fun _ => [(0 ≤ (13 : Int) ∧ 13 ≤ 32),((-9223372036854775808 : Int) ≤ (19 : Int) ∧ (19 : Int) ≤ 9223372036854775807),(0 ≤ (19 : Int) ∧ 19 ≤ 32),((0 ≤ ((x : Int) / 8192) ∧ ((x : Int) / 8192) ≤ 4294967295) ∧ 0 ≤ (((x : Int) * 524288) % 4294967296) ∧ (((x : Int) * 524288) % 4294967296) ≤ 4294967295)])) kr kr (fun _ => kr) ⟨om,om,om,om,trivial⟩ ?_
 refine Cfg.ret rfl (rs := [.tmp 4]) rfl [.int .u32 (((((x : Int) / 8192)).toNat ||| ((((x : Int) * 524288) % 4294967296)).toNat : Nat) : Int)] ⟨kr,trivial⟩ (fun w1 hp => ?_)
 refine ⟨?_,hp.ext⟩
 rw [← rotr_or,show x * 524288 % 4294967296 = ((x : Int) * 524288 % 4294967296).toNat by omega,show x / 8192 = ((x : Int) / 8192).toNat by omega]
 rfl
set_option maxRecDepth 100000 in
theorem rRotr22 (x : Nat) (w : World) (hx : x < 2 ^ 32) :
  Calls Tryz.prog 84 #[.int .u32 (x : Int),.int .i64 22] w fun e w' => e = .returned (.int .u32 (rotl x 1024 4194304 : Int)) ∧ Ext [] w w' := by
 refine enter (vs := [.int .u32 (x : Int),.int .i64 22]) [] [] [] Tryz.func84 rfl kr (HP.start w) ?_
 refine Rg [0,1] [] n0 trivial ?_
 refine Cfg.regD rfl kr [4] [] (Γ' := [(4,[],.int .u32 (((((x : Int) / 4194304)).toNat ||| ((((x : Int) * 1024) % 4294967296)).toNat : Nat) : Int))]) (nd := (fun _ => [(0 ≤ (22 : Int) ∧ 22 ≤ 32),((-9223372036854775808 : Int) ≤ (10 : Int) ∧ (10 : Int) ≤ 9223372036854775807),(0 ≤ (10 : Int) ∧ 10 ≤ 32),((0 ≤ ((x : Int) / 4194304) ∧ ((x : Int) / 4194304) ≤ 4294967295) ∧ 0 ≤ (((x : Int) * 1024) % 4294967296) ∧ (((x : Int) * 1024) % 4294967296) ≤ 4294967295)])) kr kr (fun _ => kr) ⟨om,om,om,om,trivial⟩ ?_
 refine Cfg.ret rfl (rs := [.tmp 4]) rfl [.int .u32 (((((x : Int) / 4194304)).toNat ||| ((((x : Int) * 1024) % 4294967296)).toNat : Nat) : Int)] ⟨kr,trivial⟩ (fun w1 hp => ?_)
 refine ⟨?_,hp.ext⟩
 rw [← rotr_or,show x * 1024 % 4294967296 = ((x : Int) * 1024 % 4294967296).toNat by omega,show x / 4194304 = ((x : Int) / 4194304).toNat by omega]
 rfl
set_option maxRecDepth 100000 in
theorem rK (w : World) :
  Calls Tryz.prog 83 #[] w fun e w' => ∃ b : Nat,True ∧ e = .returned (.slice (some ⟨b,0,none⟩) 64 64) ∧ w.heap.size ≤ b ∧ w'.heap[b]? = some (.cells (wv Kc) 88 (0,0)) ∧ Ext [] w w' := by
 refine enter (vs := []) [] [] [] Tryz.func83 rfl kr (HP.start w) ?_
 refine Rg [] [] n0 trivial ?_
 refine Cfg.begL rfl ?_
 refine Le (Eff.buildSlice (e := 88) (cells := (wv Kc)) (parts := #[(0,.int .u32 1116352408),(1,.int .u32 1899447441),(2,.int .u32 3049323471),(3,.int .u32 3921009573),(4,.int .u32 961987163),(5,.int .u32 1508970993),(6,.int .u32 2453635748),(7,.int .u32 2870763221),(8,.int .u32 3624381080),(9,.int .u32 310598401),(10,.int .u32 607225278),(11,.int .u32 1426881987),(12,.int .u32 1925078388),(13,.int .u32 2162078206),(14,.int .u32 2614888103),(15,.int .u32 3248222580),(16,.int .u32 3835390401),(17,.int .u32 4022224774),(18,.int .u32 264347078),(19,.int .u32 604807628),(20,.int .u32 770255983),(21,.int .u32 1249150122),(22,.int .u32 1555081692),(23,.int .u32 1996064986),(24,.int .u32 2554220882),(25,.int .u32 2821834349),(26,.int .u32 2952996808),(27,.int .u32 3210313671),(28,.int .u32 3336571891),(29,.int .u32 3584528711),(30,.int .u32 113926993),(31,.int .u32 338241895),(32,.int .u32 666307205),(33,.int .u32 773529912),(34,.int .u32 1294757372),(35,.int .u32 1396182291),(36,.int .u32 1695183700),(37,.int .u32 1986661051),(38,.int .u32 2177026350),(39,.int .u32 2456956037),(40,.int .u32 2730485921),(41,.int .u32 2820302411),(42,.int .u32 3259730800),(43,.int .u32 3345764771),(44,.int .u32 3516065817),(45,.int .u32 3600352804),(46,.int .u32 4094571909),(47,.int .u32 275423344),(48,.int .u32 430227734),(49,.int .u32 506948616),(50,.int .u32 659060556),(51,.int .u32 883997877),(52,.int .u32 958139571),(53,.int .u32 1322822218),(54,.int .u32 1537002063),(55,.int .u32 1747873779),(56,.int .u32 1955562222),(57,.int .u32 2024104815),(58,.int .u32 2227730452),(59,.int .u32 2361852424),(60,.int .u32 2428436474),(61,.int .u32 2756734187),(62,.int .u32 3204031479),(63,.int .u32 3329325298)]) rfl kr (fun _ => kr)) ?_
 rintro b ⟨hb,nb⟩
 refine Lp 1 [] (some [0]) n0 trivial ?_
 refine CfgL.done rfl ?_
 refine Cfg.ret rfl (rs := [.tmp 0]) rfl [.slice (some ⟨b,0,none⟩) 64 64] ⟨kr,trivial⟩ (fun w1 hp => ?_)
 exact ⟨b,trivial,rfl,hb,hp.own (b,_) (List.mem_cons_self ..),hp.ext⟩
end Go.Proofs.YtohjpggjgomgoaaGreatDoor
