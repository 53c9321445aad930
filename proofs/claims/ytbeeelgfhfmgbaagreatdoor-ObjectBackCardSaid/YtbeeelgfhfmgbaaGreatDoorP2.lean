/- Texts on which the proof of this claim stands: Wire1, Wire2, Wire3, Wire4, WireQ, Open, Open2, Open3, Open4, K27, K20, Ob1, Ob2, ObL, So, RtM. -/
import Derived.Test.YtbeeelgfhfmgbaaGreatDoorP1
import Derived.Deep.Slices
import Derived.ProofKit
import Derived.OpenShut
import Derived.SizedLaws
import Derived.ChangeArms
import Derived.Deep.Strs
import Derived.Lib.Overlaps
import Derived.Test.YtbeeelgfhfmgbaaGreatDoorChecked
namespace Go.Proofs.YtbeeelgfhfmgbaaGreatDoor
open K
set_option linter.unusedVariables false
def be (n : Nat) : Nat → List UInt8
 | 0 => []
 | k + 1 => UInt8.ofNat (n / 256 ^ k) :: be n k
theorem be_len (n : Nat) : ∀ k,(be n k).length = k
 | 0 => rfl
 | k + 1 => by rw [be,List.length_cons,be_len n k]
def nrow (n k : Nat) : List UInt8 := (List.range 8).map fun i => if i < k then UInt8.ofNat (n / 256 ^ (7 - i)) else 0
theorem nrow_len (n k : Nat) : (nrow n k).length = 8 := by simp [nrow]
theorem nrow_end (n : Nat) : nrow n 8 = be n 8 := rfl
theorem nrow_set (n k : Nat) (hk : k < 8) : (nrow n k).set k (UInt8.ofNat (n / 256 ^ (7 - k))) = nrow n (k + 1) := by
 rcases k with _ | _ | _ | _ | _ | _ | _ | _ | k <;> first | rfl | omega
theorem u8_mod (m : Nat) : UInt8.ofNat (m % 256) = UInt8.ofNat m := by
 apply UInt8.toNat_inj.1
 simp
theorem nrow_step (n k : Nat) (hk : k < 8) {x : Int} (hx : x = ((n : Int) / ((2 ^ (56 - 8 * (k : Int)).toNat : Nat) : Int)) % 256) : (bv (nrow n k)).setIfInBounds k (.int .u8 x) = bv (nrow n (k + 1)) := by
 have e1 : ((n : Int) / ((2 ^ (56 - 8 * (k : Int)).toNat : Nat) : Int)) % 256 = ((n / 2 ^ (56 - 8 * (k : Int)).toNat % 256 : Nat) : Int) := by rw [Int.natCast_emod,Int.natCast_ediv]; rfl
 rw [hx,e1]
 have hlt : n / 2 ^ (56 - 8 * (k : Int)).toNat % 256 < 256 := Nat.mod_lt _ (by decide)
 rw [bv_set om om,Int.toNat_natCast,u8_mod,show (56 - 8 * (k : Int)).toNat = 8 * (7 - k) by omega,Nat.pow_mul,show 2 ^ 8 = 256 from rfl,nrow_set n k hk]
def beS (n k : Nat) : ByteArray := ⟨(be n k).toArray⟩
theorem beS_size (n k : Nat) : (beS n k).size = k := by simp [beS,ByteArray.size,be_len]
theorem beS_list (n k : Nat) : (beS n k).data.toList = be n k := rfl
theorem be_drop (n : Nat) : ∀ (j k : Nat),(be n (j + k)).drop j = be n k
 | 0,k => by rw [Nat.zero_add]; rfl
 | j + 1,k => by rw [show j + 1 + k = (j + k) + 1 by omega,be,List.drop_succ_cons,be_drop n j k]
theorem num_str {P : Program} {w0 w : World} {M : List Nat} {R O : List (Nat × Obj)} {n k b j c : Nat} {t : TypeId} (h : HP w0 M R O w) (ho : O[0]? = some (b,.cells (bv (nrow n k)) t (0,0))) (hk : k = 8) (m : Nat) (hj : j + m = 8) :
  (Conv.bytesToString (.slice (some ⟨b,j,none⟩) m c)).run P w = .ok (.string (beS n m)) w := by
 subst hk
 refine bytes_str (be_len n m) fun i hi => ?_
 have e := be_drop n j m
 rw [hj] at e
 rw [← e,h.ocell 0 ho (bv_get (n := 8) (nrow_len n 8) (show j + i < 8 by omega)),nrow_end]
 simp [List.getD_eq_getElem?_getD,List.getElem?_drop]
def sat (ss : List ByteArray) (i : Nat) : ByteArray := ss.getD i ByteArray.empty
def cat (ss : List ByteArray) : List UInt8 := ss.flatMap fun s => s.data.toList
theorem take_sat {ss : List ByteArray} {i : Nat} (h : i < ss.length) : ss.take (i + 1) = ss.take i ++ [sat ss i] := by
 rw [List.take_succ_eq_append_getElem h]; simp [sat,List.getElem?_eq_getElem h]
theorem cat_app (a b : List ByteArray) : cat (a ++ b) = cat a ++ cat b := List.flatMap_append ..
theorem cat_one (s : ByteArray) : cat [s] = s.data.toList := by simp [cat]
theorem cat_succ {ss : List ByteArray} {i : Nat} (h : i < ss.length) : cat (ss.take (i + 1)) = cat (ss.take i) ++ (sat ss i).data.toList := by rw [take_sat h,cat_app,cat_one]
theorem cat_part {ss : List ByteArray} {i : Nat} (h : i < ss.length) : (cat (ss.take i)).length + (sat ss i).size ≤ (cat ss).length := by
 have h1 := cat_succ h
 have h2 : cat ss = cat (ss.take (i + 1)) ++ cat (ss.drop (i + 1)) := by rw [← cat_app,List.take_append_drop]
 rw [h2,h1,List.length_append,List.length_append,ba_len]; omega
def tx (l : List UInt8) : ByteArray := ⟨l.toArray⟩
theorem tx_list (l : List UInt8) : (tx l).data.toList = l := rfl
theorem tx_size (l : List UInt8) : (tx l).size = l.length := by simp [tx,ByteArray.size]
theorem tx_back (s : ByteArray) : tx s.data.toList = s := by cases s; rfl
theorem one_len (x : ByteArray) : [x].length ≤ maxLen := by simp [maxLen]
theorem inS_lit (bk : Nat) (t : TypeId) (fr : Nat × Nat) (ss : List ByteArray) : InS [(bk,.cells (ss.map Value.string).toArray t fr)] (some ⟨bk,0,none⟩) ss.length (fun j => .string (sat ss j)) := by
 intro _
 refine ⟨bk,0,_,t,fr,rfl,List.mem_singleton.2 rfl,fun j hj => ?_⟩
 rw [Nat.zero_add]
 simp [sat,List.getElem?_eq_getElem hj]
set_option maxRecDepth 100000 in
theorem wNumber1 (n : Nat) (w : World) (hn : n < 2 ^ 64) :
  Calls Tryz.prog 42 #[.int .u64 (n : Int),.int .i64 1] w fun e w' => e = .returned (.string (beS n 1)) ∧ Ext [] w w' := by
 refine enter [] [] [] Tryz.func42 rfl kr (HP.start w) ?_
 refine Rq [0,1] ?_
 refine Cfg.begL rfl ?_
 refine Le (Eff.alloc (z := (.agg (bv (List.replicate 8 0)))) rfl kr) ?_
 rintro b ⟨hb,nb⟩
 refine CfgL.done rfl ?_
 refine Rq [0,1,5,7] ?_
 refine Cfg.loop rfl (ι := Nat) (fun (k : Nat) => [(7,[],iN k),(5,[],pT b),(0,[],.int .u64 (n : Int)),(1,[],.int .i64 1)]) (fun (k : Nat) => [(b,.cells (bv (nrow n k)) 118 (0,0))]) (fun (k : Nat) => (k ≤ 8)) (fun (k : Nat) => 8 - k) 0 ?_ (Conv.mk kr) slr ?_
 ·exact Nat.zero_le _
 ·rintro k hk
  refine Rq [0,1,5,7,8] ?_
  refine Cfg.cond rfl (b := (decide ((k : Int) < (8 : Int)))) kr (fun c1r => ?_) (fun c1r => ?_)
  ·have c1 := (dT c1r)
   refine Rq [0,1,5,6,7] ?_
   refine Cfg.begL rfl ?_
   refine Lp 8 [] (some [0,1,5,7,16,17]) (fun _ => [(i6 (8 * (k : Int))),(i6 (56 - (8 * (k : Int)))),(0 ≤ (56 - (8 * (k : Int))) ∧ ((56 - (8 * (k : Int)))).toNat ≤ 64),(iL (k : Int) 8)]) ⟨om,om,om,om,trivial⟩ ?_
   refine Lu (Eff.store1 (b := b) (off := k) (v := .int .u8 (((n : Int) / ((2 ^ ((56 - (8 * (k : Int)))).toNat : Nat) : Int)) % 256)) rfl kr kr rfl kr 0 (cs := (bv (nrow n k))) (e := 118) kr (by rw [bv_size,nrow_len]; omega)) ?_
   refine CfgL.done rfl ?_
   refine Cg (Γ' := [(7,[],iN k),(5,[],pT b),(0,[],.int .u64 (n : Int)),(1,[],.int .i64 1)]) ?_
   refine Rg [0,1,5,7] [] (fun _ => [(i6 ((k : Int) + 1))]) ⟨om,trivial⟩ ?_
   refine oB 0 rfl (show _ = (bv (nrow n (k + 1))) from nrow_step n k om rfl) ?_
   refine Cfg.again rfl (k + 1) (show k + 1 ≤ 8 by omega) om (Conv.mk kr) (.cons_cons _ .slnil)
  ·have c1 := (dF c1r)
   refine Rg [4] [dZ,dZ,dZ,(dS (.string (beS n 1)))] (fun S => [(i6 (7 : Int)),(0 ≤ (7 : Int)),(7 ≤ 8 ∧ 8 ≤ 8),(∀ w1,S w1 → (Conv.bytesToString (.slice (some ⟨b,(if 8 = 7 then 0 else 7),none⟩) (8 - 7) (8 - 7))).run Tryz.prog w1 = .ok (.string (beS n 1)) w1)]) ⟨om,om,om,(fun w1 h => num_str h rfl om 1 rfl),trivial⟩ ?_
   refine Cfg.ret rfl (rs := [.tmp 4]) rfl [.string (beS n 1)] ⟨kr,trivial⟩ (fun w1 hp => ?_)
   exact ⟨rfl,hp.ext⟩
set_option maxRecDepth 100000 in
theorem wNumber4 (n : Nat) (w : World) (hn : n < 2 ^ 64) :
  Calls Tryz.prog 42 #[.int .u64 (n : Int),.int .i64 4] w fun e w' => e = .returned (.string (beS n 4)) ∧ Ext [] w w' := by
 refine enter [] [] [] Tryz.func42 rfl kr (HP.start w) ?_
 refine Rq [0,1] ?_
 refine Cfg.begL rfl ?_
 refine Le (Eff.alloc (z := (.agg (bv (List.replicate 8 0)))) rfl kr) ?_
 rintro b ⟨hb,nb⟩
 refine CfgL.done rfl ?_
 refine Rq [0,1,5,7] ?_
 refine Cfg.loop rfl (ι := Nat) (fun (k : Nat) => [(7,[],iN k),(5,[],pT b),(0,[],.int .u64 (n : Int)),(1,[],.int .i64 4)]) (fun (k : Nat) => [(b,.cells (bv (nrow n k)) 118 (0,0))]) (fun (k : Nat) => (k ≤ 8)) (fun (k : Nat) => 8 - k) 0 ?_ (Conv.mk kr) slr ?_
 ·exact Nat.zero_le _
 ·rintro k hk
  refine Rq [0,1,5,7,8] ?_
  refine Cfg.cond rfl (b := (decide ((k : Int) < (8 : Int)))) kr (fun c1r => ?_) (fun c1r => ?_)
  ·have c1 := (dT c1r)
   refine Rq [0,1,5,6,7] ?_
   refine Cfg.begL rfl ?_
   refine Lp 8 [] (some [0,1,5,7,16,17]) (fun _ => [(i6 (8 * (k : Int))),(i6 (56 - (8 * (k : Int)))),(0 ≤ (56 - (8 * (k : Int))) ∧ ((56 - (8 * (k : Int)))).toNat ≤ 64),(iL (k : Int) 8)]) ⟨om,om,om,om,trivial⟩ ?_
   refine Lu (Eff.store1 (b := b) (off := k) (v := .int .u8 (((n : Int) / ((2 ^ ((56 - (8 * (k : Int)))).toNat : Nat) : Int)) % 256)) rfl kr kr rfl kr 0 (cs := (bv (nrow n k))) (e := 118) kr (by rw [bv_size,nrow_len]; omega)) ?_
   refine CfgL.done rfl ?_
   refine Cg (Γ' := [(7,[],iN k),(5,[],pT b),(0,[],.int .u64 (n : Int)),(1,[],.int .i64 4)]) ?_
   refine Rg [0,1,5,7] [] (fun _ => [(i6 ((k : Int) + 1))]) ⟨om,trivial⟩ ?_
   refine oB 0 rfl (show _ = (bv (nrow n (k + 1))) from nrow_step n k om rfl) ?_
   refine Cfg.again rfl (k + 1) (show k + 1 ≤ 8 by omega) om (Conv.mk kr) (.cons_cons _ .slnil)
  ·have c1 := (dF c1r)
   refine Rg [4] [dZ,dZ,dZ,(dS (.string (beS n 4)))] (fun S => [(i6 (4 : Int)),(0 ≤ (4 : Int)),(4 ≤ 8 ∧ 8 ≤ 8),(∀ w1,S w1 → (Conv.bytesToString (.slice (some ⟨b,(if 8 = 4 then 0 else 4),none⟩) (8 - 4) (8 - 4))).run Tryz.prog w1 = .ok (.string (beS n 4)) w1)]) ⟨om,om,om,(fun w1 h => num_str h rfl om 4 rfl),trivial⟩ ?_
   refine Cfg.ret rfl (rs := [.tmp 4]) rfl [.string (beS n 4)] ⟨kr,trivial⟩ (fun w1 hp => ?_)
   exact ⟨rfl,hp.ext⟩
set_option maxRecDepth 100000 in
theorem wNumber8 (n : Nat) (w : World) (hn : n < 2 ^ 64) :
  Calls Tryz.prog 42 #[.int .u64 (n : Int),.int .i64 8] w fun e w' => e = .returned (.string (beS n 8)) ∧ Ext [] w w' := by
 refine enter [] [] [] Tryz.func42 rfl kr (HP.start w) ?_
 refine Rq [0,1] ?_
 refine Cfg.begL rfl ?_
 refine Le (Eff.alloc (z := (.agg (bv (List.replicate 8 0)))) rfl kr) ?_
 rintro b ⟨hb,nb⟩
 refine CfgL.done rfl ?_
 refine Rq [0,1,5,7] ?_
 refine Cfg.loop rfl (ι := Nat) (fun (k : Nat) => [(7,[],iN k),(5,[],pT b),(0,[],.int .u64 (n : Int)),(1,[],.int .i64 8)]) (fun (k : Nat) => [(b,.cells (bv (nrow n k)) 118 (0,0))]) (fun (k : Nat) => (k ≤ 8)) (fun (k : Nat) => 8 - k) 0 ?_ (Conv.mk kr) slr ?_
 ·exact Nat.zero_le _
 ·rintro k hk
  refine Rq [0,1,5,7,8] ?_
  refine Cfg.cond rfl (b := (decide ((k : Int) < (8 : Int)))) kr (fun c1r => ?_) (fun c1r => ?_)
  ·have c1 := (dT c1r)
   refine Rq [0,1,5,6,7] ?_
   refine Cfg.begL rfl ?_
   refine Lp 8 [] (some [0,1,5,7,16,17]) (fun _ => [(i6 (8 * (k : Int))),(i6 (56 - (8 * (k : Int)))),(0 ≤ (56 - (8 * (k : Int))) ∧ ((56 - (8 * (k : Int)))).toNat ≤ 64),(iL (k : Int) 8)]) ⟨om,om,om,om,trivial⟩ ?_
   refine Lu (Eff.store1 (b := b) (off := k) (v := .int .u8 (((n : Int) / ((2 ^ ((56 - (8 * (k : Int)))).toNat : Nat) : Int)) % 256)) rfl kr kr rfl kr 0 (cs := (bv (nrow n k))) (e := 118) kr (by rw [bv_size,nrow_len]; omega)) ?_
   refine CfgL.done rfl ?_
   refine Cg (Γ' := [(7,[],iN k),(5,[],pT b),(0,[],.int .u64 (n : Int)),(1,[],.int .i64 8)]) ?_
   refine Rg [0,1,5,7] [] (fun _ => [(i6 ((k : Int) + 1))]) ⟨om,trivial⟩ ?_
   refine oB 0 rfl (show _ = (bv (nrow n (k + 1))) from nrow_step n k om rfl) ?_
   refine Cfg.again rfl (k + 1) (show k + 1 ≤ 8 by omega) om (Conv.mk kr) (.cons_cons _ .slnil)
  ·have c1 := (dF c1r)
   refine Rg [4] [dZ,dZ,dZ,(dS (.string (beS n 8)))] (fun S => [(i6 (0 : Int)),(0 ≤ (0 : Int)),(0 ≤ 8 ∧ 8 ≤ 8),(∀ w1,S w1 → (Conv.bytesToString (.slice (some ⟨b,(if 8 = 0 then 0 else 0),none⟩) (8 - 0) (8 - 0))).run Tryz.prog w1 = .ok (.string (beS n 8)) w1)]) ⟨om,om,om,(fun w1 h => num_str h rfl om 8 rfl),trivial⟩ ?_
   refine Cfg.ret rfl (rs := [.tmp 4]) rfl [.string (beS n 8)] ⟨kr,trivial⟩ (fun w1 hp => ?_)
   exact ⟨rfl,hp.ext⟩
set_option maxRecDepth 100000 in
theorem wWith (s : ByteArray) (la : Option Addr) (cap : Nat) (ss : List ByteArray) (Rl : List (Nat × Obj)) (w : World) (hI : InS Rl la ss.length (fun j => .string (sat ss j))) (hR : Has w Rl) (hn : ss.length ≤ maxLen) (hr : s.size + (cat ss).length ≤ 140737488355328) :
  Calls Tryz.prog 41 #[.agg #[.string s],.slice la ss.length cap] w fun e w' => e = .returned (.agg #[.string (tx (s.data.toList ++ cat ss))]) ∧ Ext [] w w' := by
 unfold maxLen at hn
 refine enter [] Rl [] Tryz.func41 rfl kr (HP.ofHas hR) ?_
 refine Cfg.begL rfl ?_
 refine Le (Eff.box (v := .agg #[.string s]) rfl kr) ?_
 rintro o ⟨ho,no⟩
 refine Le (Eff.alloc (z := (.agg #[.string ByteArray.empty])) rfl kr) ?_
 rintro rs ⟨hrs,nrs⟩
 refine CfgL.done rfl ?_
 refine Cg (Γ' := [(4,[],pT rs),(2,[],pT o),(1,[],.slice la ss.length cap)]) ?_
 refine Cfg.begL rfl ?_
 refine Le (Eff.allocB 5 [(rs,.cells #[.string ByteArray.empty] 54 (0,0)),(o,.cells #[.string s] 54 (0,0))] [] rfl rfl kr) ?_
 rintro b ⟨hb,nb⟩
 refine CfgL.done rfl ?_
 refine Cfg.begL rfl ?_
 refine Lp 2 [dZ,(dS (.string s))] (some [1,4,5,9]) (fun S => [(cE S o 0 (.string s))]) ⟨(oC 1 rfl rfl),trivial⟩ ?_
 refine Le (Eff.callH (fun _ => (.tuple #[iN s.size,.nilIface] : Value)) (bl 91 5 b ([]) bd0) (fun B1 => bl 91 5 b (([]) ++ s.data.toList) B1) (fun B1 => BdOk b (([]) ++ s.data.toList) B1) [(rs,.cells #[.string ByteArray.empty] 54 (0,0)),(o,.cells #[.string s] 54 (0,0))] [] (by rfl) rfl Tryz.func50 rfl rfl kr (fun w1 h hh hd => bWriteString b ([]) bd0 s w1 (bd0_ok b) hh hd (by simp only [List.length_nil]; omega))) ?_
 rintro B1 kB1
 refine CfgL.done rfl ?_
 refine Cg (Γ' := [(5,[],pT b),(4,[],pT rs),(1,[],.slice la ss.length cap)]) ?_
 refine Rq [4,5,11,12,13] ?_
 refine Cfg.setO (congrArg (fun (xq : List UInt8) => (([(rs,.cells #[.string ByteArray.empty] 54 (0,0)),(o,.cells #[.string s] 54 (0,0))] ++ (bl 91 5 b xq B1 ++ [])) : LO)) (show _ = (s.data.toList ++ cat (ss.take 0)) from by rw [List.take_zero]; simp [cat])) ?_
 refine Cfg.loop rfl (ι := Nat × Bd) (fun (xz : Nat × Bd) => match xz with | (i,B) => [(13,[],iN i),(12,[],iN ss.length),(11,[],.slice la ss.length cap),(5,[],pT b),(4,[],pT rs)]) (fun (xz : Nat × Bd) => match xz with | (i,B) => ([(rs,.cells #[.string ByteArray.empty] 54 (0,0)),(o,.cells #[.string s] 54 (0,0))] ++ (bl 91 5 b (s.data.toList ++ cat (ss.take i)) B ++ []))) (fun (xz : Nat × Bd) => match xz with | (i,B) => (i ≤ ss.length) ∧ (BdOk b (s.data.toList ++ cat (ss.take i)) B)) (fun (xz : Nat × Bd) => match xz with | (i,B) => ss.length - i) (0,B1) ?_ (Conv.mk kr) slr ?_
 ·exact ⟨Nat.zero_le _,by rw [List.take_zero,show s.data.toList ++ cat [] = [] ++ s.data.toList by simp [cat]]; exact kB1⟩
 ·rintro ⟨i,B⟩ ⟨hi,hB⟩
  refine Rq [4,5,11,12,13,14] ?_
  refine Cfg.cond rfl (b := (decide ((i : Int) < (ss.length : Int)))) kr (fun c1r => ?_) (fun c1r => ?_)
  ·have c1 := (dT c1r)
   obtain ⟨sb,off,cs,te,fre,rfl,hmem,hcs⟩ := hI om
   refine Conv.cfg (Γ' := [(14,[],.bool (decide ((i : Int) < (ss.length : Int)))),(13,[],iN i),(12,[],iN ss.length),(11,[],.slice (some ⟨sb,off,none⟩) ss.length cap),(5,[],pT b),(4,[],pT rs)]) (Conv.mk kr) ?_
   refine Rg [4,5,7,11,12,13] [dZ,(dS (.string (sat ss i)))] (fun S => [(0 ≤ (i : Int) ∧ (i : Int) < (ss.length : Int)),(cE S sb (addO off i) (.string (sat ss i)))]) ⟨om,(fun w1 h => by rw [addO_eq]; exact (cell_cells (h.ro _ hmem)).trans (hcs i om)),trivial⟩ ?_
   refine Cfg.begL rfl ?_
   refine Lq 1 [4,5,11,12,13,17] ?_
   refine Le (Eff.callH (fun _ => (.tuple #[.int .i64 ((sat ss i).size : Int),.nilIface] : Value)) (bl 91 5 b (s.data.toList ++ cat (ss.take i)) B) (fun B1 => bl 91 5 b ((s.data.toList ++ cat (ss.take i)) ++ (sat ss i).data.toList) B1) (fun B1 => BdOk b ((s.data.toList ++ cat (ss.take i)) ++ (sat ss i).data.toList) B1) [(rs,.cells #[.string ByteArray.empty] 54 (0,0)),(o,.cells #[.string s] 54 (0,0))] [] (by rfl) rfl Tryz.func50 rfl rfl kr (fun w1 h hh hd => bWriteString b (s.data.toList ++ cat (ss.take i)) B (sat ss i) w1 hB hh hd (by have := cat_part (ss := ss) (i := i) om; rw [List.length_append,ba_len]; omega))) ?_
   rintro B2 kB2
   refine CfgL.done rfl ?_
   refine Cg (Γ' := [(13,[],iN i),(12,[],iN ss.length),(11,[],.slice (some ⟨sb,off,none⟩) ss.length cap),(5,[],pT b),(4,[],pT rs)]) ?_
   refine Rg [4,5,11,12,13] [] (fun _ => [(i6 ((i : Int) + 1))]) ⟨om,trivial⟩ ?_
   have hcs2 : (s.data.toList ++ cat (ss.take i)) ++ (sat ss i).data.toList = (s.data.toList ++ cat (ss.take (i + 1))) := by rw [cat_succ om,List.append_assoc]
   refine Cfg.setO (congrArg (fun (xq : List UInt8) => (([(rs,.cells #[.string ByteArray.empty] 54 (0,0)),(o,.cells #[.string s] 54 (0,0))] ++ (bl 91 5 b xq B2 ++ [])) : LO)) (show _ = (s.data.toList ++ cat (ss.take (i + 1))) from hcs2)) ?_
   refine Cfg.again rfl (i + 1,B2) ⟨by omega,hcs2 ▸ kB2⟩ (by show ss.length - (i + 1) < ss.length - i; omega) (Conv.mk kr) slr
  ·have c1 := (dF c1r)
   obtain rfl : i = ss.length := by omega
   refine Cfg.setO (congrArg (fun (xq : List UInt8) => (([(rs,.cells #[.string ByteArray.empty] 54 (0,0)),(o,.cells #[.string s] 54 (0,0))] ++ (bl 91 5 b xq B ++ [])) : LO)) (show _ = (s.data.toList ++ cat ss) from by rw [List.take_length])) ?_
   rw [List.take_length] at hB
   refine Conv.cfg (Γ' := [(12,[],iN ss.length),(11,[],.slice la ss.length cap),(5,[],pT b),(4,[],pT rs)]) (Conv.mk kr) ?_
   refine Cfg.begL rfl ?_
   refine Lu (Eff.callH (fun _ : Unit => (.string (tx (s.data.toList ++ cat ss)) : Value)) (bl 91 5 b (s.data.toList ++ cat ss) B) (fun _ => []) (fun _ => True) [(rs,.cells #[.string ByteArray.empty] 54 (0,0)),(o,.cells #[.string s] 54 (0,0))] [] (by rfl) rfl Tryz.func49 rfl rfl kr (fun w1 h hh hd => bString b (s.data.toList ++ cat ss) B w1 hB hh hd (by rw [List.length_append,ba_len]; omega))) ?_
   refine Lp 1 [(dS (.agg #[.string (tx (s.data.toList ++ cat ss))]))] (some [4,21]) (fun S => [(∀ w1,S w1 → (Instr.build 54 #[(0,.string (tx (s.data.toList ++ cat ss)))]).run Tryz.prog w1 = .ok (.agg #[.string (tx (s.data.toList ++ cat ss))]) w1)]) ⟨(fun _ _ => kr),trivial⟩ ?_
   refine Lu (Eff.storeN (b := rs) (off := 0) (vs := #[.string (tx (s.data.toList ++ cat ss))]) (n := 1) rfl kr kr kr rfl (by simp [K.one]) 0 (cs := #[.string ByteArray.empty]) (e := 54) kr (by simp)) ?_
   refine oL 0 rfl (show _ = #[.string (tx (s.data.toList ++ cat ss))] from rfl) ?_
   refine CfgL.done rfl ?_
   refine Cg (Γ' := [(4,[],pT rs)]) ?_
   refine Cfg.ret rfl (rs := [.cell 4 54]) rfl [.agg #[.string (tx (s.data.toList ++ cat ss))]] ⟨⟨_,by kernel_rfl,(fun w1 h => h.oload 0 rfl Tryz.underlying54 rfl (n := 1) kr rfl)⟩,trivial⟩ (fun w1 hp => ?_)
   exact ⟨rfl,hp.ext⟩
end Go.Proofs.YtbeeelgfhfmgbaaGreatDoor
namespace Go.Proofs.YtbeeelgfhfmgbaaGreatDoor
open K
set_option linter.unusedVariables false
def flat {α : Type} (f : α → List UInt8) (l : List α) : List UInt8 := l.flatMap f
theorem flat_app {α : Type} (f : α → List UInt8) (a b : List α) : flat f (a ++ b) = flat f a ++ flat f b := List.flatMap_append ..
theorem flat_succ {α : Type} {f : α → List UInt8} {l : List α} {i : Nat} (d : α) (h : i < l.length) : flat f (l.take (i + 1)) = flat f (l.take i) ++ f (l.getD i d) := by
 rw [List.take_succ_eq_append_getElem h,flat_app]
 simp [flat,List.getElem?_eq_getElem h]
theorem flat_part {α : Type} {f : α → List UInt8} {l : List α} {i : Nat} (d : α) (h : i < l.length) : (flat f (l.take i)).length + (f (l.getD i d)).length ≤ (flat f l).length := by
 have h1 := flat_succ (f := f) d h
 have h2 : flat f l = flat f (l.take (i + 1)) ++ flat f (l.drop (i + 1)) := by rw [← flat_app,List.take_append_drop]
 rw [h2,h1,List.length_append,List.length_append]; omega
theorem flat_nil {α : Type} (f : α → List UInt8) : flat f [] = [] := rfl
theorem cat_tx (l : List UInt8) : cat [tx l] = l := by rw [cat_one,tx_list]
def four (n : Nat) : List UInt8 := be n 4
def eight (n : Nat) : List UInt8 := be n 8
def text4 (s : ByteArray) : List UInt8 := be s.size 4 ++ s.data.toList
theorem wNumMod (x : Nat) (hx : x < 9223372036854775808) (w : World) : Calls Tryz.prog 42 #[.int .u64 ((x : Int) % 18446744073709551616),.int .i64 4] w fun e w' => e = .returned (.string (beS x 4)) ∧ Ext [] w w' := by
 rw [show ((x : Int) % 18446744073709551616) = (x : Int) by omega]; exact wNumber4 x w om
theorem HP.notin {w0 w : World} {M : List Nat} {R Fl A T : List (Nat × Obj)} {d : Nat} {ob : Obj} (h : HP w0 M R (Fl ++ (A ++ T)) w) (hm : (d,ob) ∈ Fl) : d ∉ A.map (·.1) := by
 intro hx
 have hd := h.dist
 rw [List.map_append,List.map_append] at hd
 exact (List.nodup_append.1 hd).2.2 d (List.mem_map.2 ⟨_,hm,rfl⟩) d (mL hx) rfl
theorem zsz32 : (bv (List.replicate 32 0)).size = 32 := rfl
set_option maxRecDepth 100000 in
theorem wByte (s : ByteArray) (n : Nat) (w : World) (hn : n < 256) (hr : s.size + 1 ≤ 140737488355328) :
  Calls Tryz.prog 16 #[.agg #[.string s],.int .u8 (n : Int)] w fun e w' => e = .returned (.agg #[.string (tx (s.data.toList ++ be n 1))]) ∧ Ext [] w w' := by
 refine enter [] [] [] Tryz.func16 rfl kr (HP.start w) ?_
 refine Cfg.begL rfl ?_
 refine Le (Eff.box (v := .agg #[.string s]) rfl kr) ?_
 rintro o ⟨ho,no⟩
 refine Le (Eff.alloc (z := (.agg #[.string ByteArray.empty])) rfl kr) ?_
 rintro rs ⟨hrs,nrs⟩
 refine CfgL.done rfl ?_
 refine Cg (Γ' := [(4,[],pT rs),(2,[],pT o),(1,[],.int .u8 (n : Int))]) ?_
 refine Cfg.begA rfl kr [(o,.cells #[.string s] 54 (0,0))] ?_
 refine Ap [0,1,2] [(dS (.agg #[.string s]))] (some [4,5,7]) (tF 3 4) (.cons _ (.cons_cons _ .slnil)) 4 (fun S => [(∀ w1,S w1 → (loadVar 54 ⟨o,0,none⟩).run Tryz.prog w1 = .ok (.agg #[.string s]) w1),((0 : Int) ≤ (n : Int) ∧ (n : Int) ≤ 18446744073709551615)]) ⟨(fun w1 h => h.oload 0 rfl Tryz.underlying54 rfl (n := 1) kr rfl),om,trivial⟩ ?_
 refine Au 3 rfl 3  (Eff.callA (.string (beS n 1)) rfl Tryz.func42 rfl rfl kr (fun w1 _ => wNumber1 n w1 om)) (fun _ _ => (.cons _ (.cons_cons _ .slnil))) ?_
 refine Ae 4 rfl 2  (Eff.buildSlice (e := 9) (cells := #[.string (beS n 1)]) (parts := #[(0,.string (beS n 1))]) rfl kr (fun _ => kr)) (fun _ _ => (.cons _ (.cons _ (.cons_cons _ .slnil)))) ?_
 rintro x3 ⟨hx3,nx3⟩
 refine Au 5 rfl 1  (Eff.callA (.agg #[.string (tx (s.data.toList ++ cat [(beS n 1)]))]) rfl Tryz.func41 rfl rfl kr (fun w1 h => wWith s (some ⟨x3,0,none⟩) 1 [(beS n 1)] [(x3,.cells (List.map Value.string [(beS n 1)]).toArray 9 (0,0))] w1 (inS_lit x3 9 (0,0) [(beS n 1)]) (h.has (fun e he => mG 0 (by rw [List.mem_singleton.1 he]; rfl))) (one_len _) (by rw [cat_one,beS_list,be_len]; omega))) (fun _ _ => (.cons _ (.cons _ (.cons_cons _ .slnil)))) ?_
 refine Au 6 rfl 0  (Eff.storeN (b := rs) (off := 0) (vs := #[.string (tx (s.data.toList ++ cat [(beS n 1)]))]) (n := 1) rfl kr kr kr rfl (by simp [K.one]) 1 (cs := #[.string ByteArray.empty]) (e := 54) kr (by simp)) (fun _ _ => (.cons _ (.cons _ (.cons_cons _ .slnil)))) ?_
 refine oA 1 rfl (show _ = #[.string (tx (s.data.toList ++ cat [(beS n 1)]))] from rfl) ?_
 refine CfgA.done kr ?_
 refine Cg (Γ' := [(4,[],pT rs)]) ?_
 refine Cfg.ret rfl (rs := [.cell 4 54]) rfl [.agg #[.string (tx (s.data.toList ++ cat [(beS n 1)]))]] ⟨⟨_,by kernel_rfl,(fun w1 h => h.oload 1 rfl Tryz.underlying54 rfl (n := 1) kr rfl)⟩,trivial⟩ (fun w1 hp => ?_)
 exact ⟨by rw [cat_one,beS_list]; rfl,hp.ext⟩
set_option maxRecDepth 100000 in
theorem wFour (s : ByteArray) (la : Option Addr) (cap : Nat) (xs : List Nat) (Rl : List (Nat × Obj)) (w : World) (hI : InS Rl la xs.length (fun j => .int .u32 ((xs.getD j 0 : Nat) : Int))) (hR : Has w Rl) (hn : xs.length ≤ maxLen) (hr : s.size + (flat four xs).length ≤ 140737488355328) (hx : ∀ i,xs.getD i 0 < 4294967296) :
  Calls Tryz.prog 47 #[.agg #[.string s],.slice la xs.length cap] w fun e w' => e = .returned (.agg #[.string (tx (s.data.toList ++ flat four xs))]) ∧ Ext [] w w' := by
 unfold maxLen at hn
 refine enter [] Rl [] Tryz.func47 rfl kr (HP.ofHas hR) ?_
 refine Cfg.begL rfl ?_
 refine Le (Eff.box (v := .agg #[.string s]) rfl kr) ?_
 rintro o ⟨ho,no⟩
 refine Le (Eff.alloc (z := (.agg #[.string ByteArray.empty])) rfl kr) ?_
 rintro rs ⟨hrs,nrs⟩
 refine CfgL.done rfl ?_
 refine Cg (Γ' := [(4,[],pT rs),(2,[],pT o),(1,[],.slice la xs.length cap)]) ?_
 refine Cfg.begL rfl ?_
 refine Le (Eff.allocB 5 [(rs,.cells #[.string ByteArray.empty] 54 (0,0)),(o,.cells #[.string s] 54 (0,0))] [] rfl rfl kr) ?_
 rintro b ⟨hb,nb⟩
 refine CfgL.done rfl ?_
 refine Rq [2,4,5,8,9,10] ?_
 refine Cfg.setO (congrArg (fun (xq : List UInt8) => (([(rs,.cells #[.string ByteArray.empty] 54 (0,0)),(o,.cells #[.string s] 54 (0,0))] ++ (bl 91 5 b xq bd0 ++ [])) : LO)) (show _ = (flat four (xs.take 0)) from by rw [List.take_zero]; rfl)) ?_
 refine Cfg.loop rfl (ι := Nat × Bd) (fun (xz : Nat × Bd) => match xz with | (i,B) => [(10,[],iN i),(9,[],iN xs.length),(8,[],.slice la xs.length cap),(5,[],pT b),(4,[],pT rs),(2,[],pT o)]) (fun (xz : Nat × Bd) => match xz with | (i,B) => ([(rs,.cells #[.string ByteArray.empty] 54 (0,0)),(o,.cells #[.string s] 54 (0,0))] ++ (bl 91 5 b (flat four (xs.take i)) B ++ []))) (fun (xz : Nat × Bd) => match xz with | (i,B) => (i ≤ xs.length) ∧ (BdOk b (flat four (xs.take i)) B)) (fun (xz : Nat × Bd) => match xz with | (i,B) => xs.length - i) (0,bd0) ?_ (Conv.mk kr) slr ?_
 ·exact ⟨Nat.zero_le _,by rw [List.take_zero]; exact (bd0_ok b)⟩
 ·rintro ⟨i,B⟩ ⟨hi,hB⟩
  have hpart := fun (hlt : i < xs.length) => flat_part (f := four) 0 hlt
  refine Rq [2,4,5,8,9,10,11] ?_
  refine Cfg.cond rfl (b := (decide ((i : Int) < (xs.length : Int)))) kr (fun c1r => ?_) (fun c1r => ?_)
  ·have c1 := (dT c1r)
   have hpt := hpart om
   obtain ⟨sb,off,cs,te,fre,rfl,hmem,hcs⟩ := hI om
   refine Conv.cfg (Γ' := [(11,[],.bool (decide ((i : Int) < (xs.length : Int)))),(10,[],iN i),(9,[],iN xs.length),(8,[],.slice (some ⟨sb,off,none⟩) xs.length cap),(5,[],pT b),(4,[],pT rs),(2,[],pT o)]) (Conv.mk kr) ?_
   refine Rg [2,4,5,7,8,9,10] [dZ,(dS (uN (xs.getD i 0)))] (fun S => [(0 ≤ (i : Int) ∧ (i : Int) < (xs.length : Int)),(cE S sb (addO off i) (uN (xs.getD i 0)))]) ⟨om,(fun w1 h => by rw [addO_eq]; exact (cell_cells (h.ro _ hmem)).trans (hcs i om)),trivial⟩ ?_
   refine Cfg.begL rfl ?_
   refine Lp 2 [] (some [2,4,5,8,9,10,15]) (fun _ => [((0 : Int) ≤ ((xs.getD i 0) : Int) ∧ ((xs.getD i 0) : Int) ≤ 18446744073709551615)]) ⟨(by have := hx i; omega),trivial⟩ ?_
   refine Lu (Eff.callA (.string (beS ((xs.getD i 0)) 4)) rfl Tryz.func42 rfl rfl kr (fun w1 _ => wNumber4 ((xs.getD i 0)) w1 (by have := hx i; omega))) ?_
   refine Le (Eff.callH (fun _ => (.tuple #[.int .i64 ((beS ((xs.getD i 0)) 4).size : Int),.nilIface] : Value)) (bl 91 5 b (flat four (xs.take i)) B) (fun B1 => bl 91 5 b ((flat four (xs.take i)) ++ (beS ((xs.getD i 0)) 4).data.toList) B1) (fun B1 => BdOk b ((flat four (xs.take i)) ++ (beS ((xs.getD i 0)) 4).data.toList) B1) [(rs,.cells #[.string ByteArray.empty] 54 (0,0)),(o,.cells #[.string s] 54 (0,0))] [] (by rfl) rfl Tryz.func50 rfl rfl kr (fun w1 h hh hd => bWriteString b (flat four (xs.take i)) B (beS ((xs.getD i 0)) 4) w1 hB hh hd (by rw [beS_size]; have : (four (xs.getD i 0)).length = 4 := be_len _ _; omega))) ?_
   rintro B2 kB2
   refine CfgL.done rfl ?_
   refine Cg (Γ' := [(10,[],iN i),(9,[],iN xs.length),(8,[],.slice (some ⟨sb,off,none⟩) xs.length cap),(5,[],pT b),(4,[],pT rs),(2,[],pT o)]) ?_
   refine Rg [2,4,5,8,9,10] [] (fun _ => [(i6 ((i : Int) + 1))]) ⟨om,trivial⟩ ?_
   have hcs2 : ((flat four (xs.take i)) ++ (beS ((xs.getD i 0)) 4).data.toList) = (flat four (xs.take (i + 1))) := by rw [flat_succ 0 om]; rfl
   refine Cfg.setO (congrArg (fun (xq : List UInt8) => (([(rs,.cells #[.string ByteArray.empty] 54 (0,0)),(o,.cells #[.string s] 54 (0,0))] ++ (bl 91 5 b xq B2 ++ [])) : LO)) (show _ = (flat four (xs.take (i + 1))) from hcs2)) ?_
   refine Cfg.again rfl (i + 1,B2) ⟨by omega,hcs2 ▸ kB2⟩ (by show xs.length - (i + 1) < xs.length - i; omega) (Conv.mk kr) slr
  ·have c1 := (dF c1r)
   obtain rfl : i = xs.length := by omega
   refine Cfg.setO (congrArg (fun (xq : List UInt8) => (([(rs,.cells #[.string ByteArray.empty] 54 (0,0)),(o,.cells #[.string s] 54 (0,0))] ++ (bl 91 5 b xq B ++ [])) : LO)) (show _ = (flat four xs) from by rw [List.take_length])) ?_
   rw [List.take_length] at hB
   refine Conv.cfg (Γ' := [(9,[],iN xs.length),(8,[],.slice la xs.length cap),(5,[],pT b),(4,[],pT rs),(2,[],pT o)]) (Conv.mk kr) ?_
   refine Cfg.begA rfl kr [(o,.cells #[.string s] 54 (0,0))] ?_
   refine Ap [0] [(dS (.agg #[.string s]))] (some [4,5,19]) (tF 1 4) (.cons _ (.cons_cons _ (List.nil_sublist _))) 4 (fun S => [(∀ w1,S w1 → (loadVar 54 ⟨o,0,none⟩).run Tryz.prog w1 = .ok (.agg #[.string s]) w1)]) ⟨(fun w1 h => h.oload 0 rfl Tryz.underlying54 rfl (n := 1) kr rfl),trivial⟩ ?_
   refine Au 1 rfl 3  (Eff.callH (fun _ : Unit => (.string (tx (flat four xs)) : Value)) (bl 91 5 b (flat four xs) B) (fun _ => []) (fun _ => True) [(rs,.cells #[.string ByteArray.empty] 54 (0,0)),(o,.cells #[.string s] 54 (0,0))] [] (by rfl) rfl Tryz.func49 rfl rfl kr (fun w1 h hh hd => bString b (flat four xs) B w1 hB hh hd om)) (fun _ _ => (.cons _ (.cons_cons _ .slnil))) ?_
   refine Ae 2 rfl 2  (Eff.buildSlice (e := 9) (cells := #[.string (tx (flat four xs))]) (parts := #[(0,.string (tx (flat four xs)))]) rfl kr (fun _ => kr)) (fun _ _ => (.cons _ (.cons _ (.cons_cons _ .slnil)))) ?_
   rintro x3 ⟨hx3,nx3⟩
   refine Au 3 rfl 1  (Eff.callA (.agg #[.string (tx (s.data.toList ++ cat [(tx (flat four xs))]))]) rfl Tryz.func41 rfl rfl kr (fun w1 h => wWith s (some ⟨x3,0,none⟩) 1 [(tx (flat four xs))] [(x3,.cells (List.map Value.string [(tx (flat four xs))]).toArray 9 (0,0))] w1 (inS_lit x3 9 (0,0) [(tx (flat four xs))]) (h.has (fun e he => mG 0 (by rw [List.mem_singleton.1 he]; rfl))) (one_len _) (by rw [cat_tx]; omega))) (fun _ _ => (.cons _ (.cons _ (.cons_cons _ .slnil)))) ?_
   refine Au 4 rfl 0  (Eff.storeN (b := rs) (off := 0) (vs := #[.string (tx (s.data.toList ++ cat [(tx (flat four xs))]))]) (n := 1) rfl kr kr kr rfl (by simp [K.one]) 1 (cs := #[.string ByteArray.empty]) (e := 54) kr (by simp)) (fun _ _ => (.cons _ (.cons _ (.cons_cons _ .slnil)))) ?_
   refine oA 1 rfl (show _ = #[.string (tx (s.data.toList ++ cat [(tx (flat four xs))]))] from rfl) ?_
   refine CfgA.done kr ?_
   refine Cg (Γ' := [(4,[],pT rs)]) ?_
   refine Cfg.ret rfl (rs := [.cell 4 54]) rfl [.agg #[.string (tx (s.data.toList ++ cat [(tx (flat four xs))]))]] ⟨⟨_,by kernel_rfl,(fun w1 h => h.oload 1 rfl Tryz.underlying54 rfl (n := 1) kr rfl)⟩,trivial⟩ (fun w1 hp => ?_)
   exact ⟨by rw [cat_tx]; rfl,hp.ext⟩
set_option maxRecDepth 100000 in
theorem wEight (s : ByteArray) (la : Option Addr) (cap : Nat) (xs : List Nat) (Rl : List (Nat × Obj)) (w : World) (hI : InS Rl la xs.length (fun j => .int .u64 ((xs.getD j 0 : Nat) : Int))) (hR : Has w Rl) (hn : xs.length ≤ maxLen) (hr : s.size + (flat eight xs).length ≤ 140737488355328) (hx : ∀ i,xs.getD i 0 < 18446744073709551616) :
  Calls Tryz.prog 21 #[.agg #[.string s],.slice la xs.length cap] w fun e w' => e = .returned (.agg #[.string (tx (s.data.toList ++ flat eight xs))]) ∧ Ext [] w w' := by
 unfold maxLen at hn
 refine enter [] Rl [] Tryz.func21 rfl kr (HP.ofHas hR) ?_
 refine Cfg.begL rfl ?_
 refine Le (Eff.box (v := .agg #[.string s]) rfl kr) ?_
 rintro o ⟨ho,no⟩
 refine Le (Eff.alloc (z := (.agg #[.string ByteArray.empty])) rfl kr) ?_
 rintro rs ⟨hrs,nrs⟩
 refine CfgL.done rfl ?_
 refine Cg (Γ' := [(4,[],pT rs),(2,[],pT o),(1,[],.slice la xs.length cap)]) ?_
 refine Cfg.begL rfl ?_
 refine Le (Eff.allocB 5 [(rs,.cells #[.string ByteArray.empty] 54 (0,0)),(o,.cells #[.string s] 54 (0,0))] [] rfl rfl kr) ?_
 rintro b ⟨hb,nb⟩
 refine CfgL.done rfl ?_
 refine Rq [2,4,5,8,9,10] ?_
 refine Cfg.setO (congrArg (fun (xq : List UInt8) => (([(rs,.cells #[.string ByteArray.empty] 54 (0,0)),(o,.cells #[.string s] 54 (0,0))] ++ (bl 91 5 b xq bd0 ++ [])) : LO)) (show _ = (flat eight (xs.take 0)) from by rw [List.take_zero]; rfl)) ?_
 refine Cfg.loop rfl (ι := Nat × Bd) (fun (xz : Nat × Bd) => match xz with | (i,B) => [(10,[],iN i),(9,[],iN xs.length),(8,[],.slice la xs.length cap),(5,[],pT b),(4,[],pT rs),(2,[],pT o)]) (fun (xz : Nat × Bd) => match xz with | (i,B) => ([(rs,.cells #[.string ByteArray.empty] 54 (0,0)),(o,.cells #[.string s] 54 (0,0))] ++ (bl 91 5 b (flat eight (xs.take i)) B ++ []))) (fun (xz : Nat × Bd) => match xz with | (i,B) => (i ≤ xs.length) ∧ (BdOk b (flat eight (xs.take i)) B)) (fun (xz : Nat × Bd) => match xz with | (i,B) => xs.length - i) (0,bd0) ?_ (Conv.mk kr) slr ?_
 ·exact ⟨Nat.zero_le _,by rw [List.take_zero]; exact (bd0_ok b)⟩
 ·rintro ⟨i,B⟩ ⟨hi,hB⟩
  have hpart := fun (hlt : i < xs.length) => flat_part (f := eight) 0 hlt
  refine Rq [2,4,5,8,9,10,11] ?_
  refine Cfg.cond rfl (b := (decide ((i : Int) < (xs.length : Int)))) kr (fun c1r => ?_) (fun c1r => ?_)
  ·have c1 := (dT c1r)
   have hpt := hpart om
   obtain ⟨sb,off,cs,te,fre,rfl,hmem,hcs⟩ := hI om
   refine Conv.cfg (Γ' := [(11,[],.bool (decide ((i : Int) < (xs.length : Int)))),(10,[],iN i),(9,[],iN xs.length),(8,[],.slice (some ⟨sb,off,none⟩) xs.length cap),(5,[],pT b),(4,[],pT rs),(2,[],pT o)]) (Conv.mk kr) ?_
   refine Rg [2,4,5,7,8,9,10] [dZ,(dS (.int .u64 ((xs.getD i 0) : Int)))] (fun S => [(0 ≤ (i : Int) ∧ (i : Int) < (xs.length : Int)),(cE S sb (addO off i) (.int .u64 ((xs.getD i 0) : Int)))]) ⟨om,(fun w1 h => by rw [addO_eq]; exact (cell_cells (h.ro _ hmem)).trans (hcs i om)),trivial⟩ ?_
   refine Cfg.begL rfl ?_
   refine Lq 1 [2,4,5,8,9,10,14] ?_
   refine Lu (Eff.callA (.string (beS ((xs.getD i 0)) 8)) rfl Tryz.func42 rfl rfl kr (fun w1 _ => wNumber8 ((xs.getD i 0)) w1 (by have := hx i; omega))) ?_
   refine Le (Eff.callH (fun _ => (.tuple #[.int .i64 ((beS ((xs.getD i 0)) 8).size : Int),.nilIface] : Value)) (bl 91 5 b (flat eight (xs.take i)) B) (fun B1 => bl 91 5 b ((flat eight (xs.take i)) ++ (beS ((xs.getD i 0)) 8).data.toList) B1) (fun B1 => BdOk b ((flat eight (xs.take i)) ++ (beS ((xs.getD i 0)) 8).data.toList) B1) [(rs,.cells #[.string ByteArray.empty] 54 (0,0)),(o,.cells #[.string s] 54 (0,0))] [] (by rfl) rfl Tryz.func50 rfl rfl kr (fun w1 h hh hd => bWriteString b (flat eight (xs.take i)) B (beS ((xs.getD i 0)) 8) w1 hB hh hd (by rw [beS_size]; have : (eight (xs.getD i 0)).length = 8 := be_len _ _; omega))) ?_
   rintro B2 kB2
   refine CfgL.done rfl ?_
   refine Cg (Γ' := [(10,[],iN i),(9,[],iN xs.length),(8,[],.slice (some ⟨sb,off,none⟩) xs.length cap),(5,[],pT b),(4,[],pT rs),(2,[],pT o)]) ?_
   refine Rg [2,4,5,8,9,10] [] (fun _ => [(i6 ((i : Int) + 1))]) ⟨om,trivial⟩ ?_
   have hcs2 : ((flat eight (xs.take i)) ++ (beS ((xs.getD i 0)) 8).data.toList) = (flat eight (xs.take (i + 1))) := by rw [flat_succ 0 om]; rfl
   refine Cfg.setO (congrArg (fun (xq : List UInt8) => (([(rs,.cells #[.string ByteArray.empty] 54 (0,0)),(o,.cells #[.string s] 54 (0,0))] ++ (bl 91 5 b xq B2 ++ [])) : LO)) (show _ = (flat eight (xs.take (i + 1))) from hcs2)) ?_
   refine Cfg.again rfl (i + 1,B2) ⟨by omega,hcs2 ▸ kB2⟩ (by show xs.length - (i + 1) < xs.length - i; omega) (Conv.mk kr) slr
  ·have c1 := (dF c1r)
   obtain rfl : i = xs.length := by omega
   refine Cfg.setO (congrArg (fun (xq : List UInt8) => (([(rs,.cells #[.string ByteArray.empty] 54 (0,0)),(o,.cells #[.string s] 54 (0,0))] ++ (bl 91 5 b xq B ++ [])) : LO)) (show _ = (flat eight xs) from by rw [List.take_length])) ?_
   rw [List.take_length] at hB
   refine Conv.cfg (Γ' := [(9,[],iN xs.length),(8,[],.slice la xs.length cap),(5,[],pT b),(4,[],pT rs),(2,[],pT o)]) (Conv.mk kr) ?_
   refine Cfg.begA rfl kr [(o,.cells #[.string s] 54 (0,0))] ?_
   refine Ap [0] [(dS (.agg #[.string s]))] (some [4,5,18]) (tF 1 4) (.cons _ (.cons_cons _ (List.nil_sublist _))) 4 (fun S => [(∀ w1,S w1 → (loadVar 54 ⟨o,0,none⟩).run Tryz.prog w1 = .ok (.agg #[.string s]) w1)]) ⟨(fun w1 h => h.oload 0 rfl Tryz.underlying54 rfl (n := 1) kr rfl),trivial⟩ ?_
   refine Au 1 rfl 3  (Eff.callH (fun _ : Unit => (.string (tx (flat eight xs)) : Value)) (bl 91 5 b (flat eight xs) B) (fun _ => []) (fun _ => True) [(rs,.cells #[.string ByteArray.empty] 54 (0,0)),(o,.cells #[.string s] 54 (0,0))] [] (by rfl) rfl Tryz.func49 rfl rfl kr (fun w1 h hh hd => bString b (flat eight xs) B w1 hB hh hd om)) (fun _ _ => (.cons _ (.cons_cons _ .slnil))) ?_
   refine Ae 2 rfl 2  (Eff.buildSlice (e := 9) (cells := #[.string (tx (flat eight xs))]) (parts := #[(0,.string (tx (flat eight xs)))]) rfl kr (fun _ => kr)) (fun _ _ => (.cons _ (.cons _ (.cons_cons _ .slnil)))) ?_
   rintro x3 ⟨hx3,nx3⟩
   refine Au 3 rfl 1  (Eff.callA (.agg #[.string (tx (s.data.toList ++ cat [(tx (flat eight xs))]))]) rfl Tryz.func41 rfl rfl kr (fun w1 h => wWith s (some ⟨x3,0,none⟩) 1 [(tx (flat eight xs))] [(x3,.cells (List.map Value.string [(tx (flat eight xs))]).toArray 9 (0,0))] w1 (inS_lit x3 9 (0,0) [(tx (flat eight xs))]) (h.has (fun e he => mG 0 (by rw [List.mem_singleton.1 he]; rfl))) (one_len _) (by rw [cat_tx]; omega))) (fun _ _ => (.cons _ (.cons _ (.cons_cons _ .slnil)))) ?_
   refine Au 4 rfl 0  (Eff.storeN (b := rs) (off := 0) (vs := #[.string (tx (s.data.toList ++ cat [(tx (flat eight xs))]))]) (n := 1) rfl kr kr kr rfl (by simp [K.one]) 1 (cs := #[.string ByteArray.empty]) (e := 54) kr (by simp)) (fun _ _ => (.cons _ (.cons _ (.cons_cons _ .slnil)))) ?_
   refine oA 1 rfl (show _ = #[.string (tx (s.data.toList ++ cat [(tx (flat eight xs))]))] from rfl) ?_
   refine CfgA.done kr ?_
   refine Cg (Γ' := [(4,[],pT rs)]) ?_
   refine Cfg.ret rfl (rs := [.cell 4 54]) rfl [.agg #[.string (tx (s.data.toList ++ cat [(tx (flat eight xs))]))]] ⟨⟨_,by kernel_rfl,(fun w1 h => h.oload 1 rfl Tryz.underlying54 rfl (n := 1) kr rfl)⟩,trivial⟩ (fun w1 hp => ?_)
   exact ⟨by rw [cat_tx]; rfl,hp.ext⟩
set_option maxRecDepth 100000 in
theorem wText (s : ByteArray) (la : Option Addr) (cap : Nat) (xs : List ByteArray) (Rl : List (Nat × Obj)) (w : World) (hI : InS Rl la xs.length (fun j => .string (xs.getD j ByteArray.empty))) (hR : Has w Rl) (hn : xs.length ≤ maxLen) (hr : s.size + (flat text4 xs).length ≤ 140737488355328) :
  Calls Tryz.prog 22 #[.agg #[.string s],.slice la xs.length cap] w fun e w' => e = .returned (.agg #[.string (tx (s.data.toList ++ flat text4 xs))]) ∧ Ext [] w w' := by
 unfold maxLen at hn
 refine enter [] Rl [] Tryz.func22 rfl kr (HP.ofHas hR) ?_
 refine Cfg.begL rfl ?_
 refine Le (Eff.box (v := .agg #[.string s]) rfl kr) ?_
 rintro o ⟨ho,no⟩
 refine Le (Eff.alloc (z := (.agg #[.string ByteArray.empty])) rfl kr) ?_
 rintro rs ⟨hrs,nrs⟩
 refine CfgL.done rfl ?_
 refine Cg (Γ' := [(4,[],pT rs),(2,[],pT o),(1,[],.slice la xs.length cap)]) ?_
 refine Cfg.begL rfl ?_
 refine Le (Eff.allocB 5 [(rs,.cells #[.string ByteArray.empty] 54 (0,0)),(o,.cells #[.string s] 54 (0,0))] [] rfl rfl kr) ?_
 rintro b ⟨hb,nb⟩
 refine CfgL.done rfl ?_
 refine Rq [2,4,5,8,9,10] ?_
 refine Cfg.setO (congrArg (fun (xq : List UInt8) => (([(rs,.cells #[.string ByteArray.empty] 54 (0,0)),(o,.cells #[.string s] 54 (0,0))] ++ (bl 91 5 b xq bd0 ++ [])) : LO)) (show _ = (flat text4 (xs.take 0)) from by rw [List.take_zero]; rfl)) ?_
 refine Cfg.loop rfl (ι := Nat × Bd) (fun (xz : Nat × Bd) => match xz with | (i,B) => [(10,[],iN i),(9,[],iN xs.length),(8,[],.slice la xs.length cap),(5,[],pT b),(4,[],pT rs),(2,[],pT o)]) (fun (xz : Nat × Bd) => match xz with | (i,B) => ([(rs,.cells #[.string ByteArray.empty] 54 (0,0)),(o,.cells #[.string s] 54 (0,0))] ++ (bl 91 5 b (flat text4 (xs.take i)) B ++ []))) (fun (xz : Nat × Bd) => match xz with | (i,B) => (i ≤ xs.length) ∧ (BdOk b (flat text4 (xs.take i)) B)) (fun (xz : Nat × Bd) => match xz with | (i,B) => xs.length - i) (0,bd0) ?_ (Conv.mk kr) slr ?_
 ·exact ⟨Nat.zero_le _,by rw [List.take_zero]; exact (bd0_ok b)⟩
 ·rintro ⟨i,B⟩ ⟨hi,hB⟩
  have hpart := fun (hlt : i < xs.length) => flat_part (f := text4) ByteArray.empty hlt
  refine Rq [2,4,5,8,9,10,11] ?_
  refine Cfg.cond rfl (b := (decide ((i : Int) < (xs.length : Int)))) kr (fun c1r => ?_) (fun c1r => ?_)
  ·have c1 := (dT c1r)
   have hpt := hpart om
   have ht4 : (text4 (xs.getD i ByteArray.empty)).length = 4 + (xs.getD i ByteArray.empty).size := by unfold text4; rw [List.length_append,be_len,ba_len]
   obtain ⟨sb,off,cs,te,fre,rfl,hmem,hcs⟩ := hI om
   refine Conv.cfg (Γ' := [(11,[],.bool (decide ((i : Int) < (xs.length : Int)))),(10,[],iN i),(9,[],iN xs.length),(8,[],.slice (some ⟨sb,off,none⟩) xs.length cap),(5,[],pT b),(4,[],pT rs),(2,[],pT o)]) (Conv.mk kr) ?_
   refine Rg [2,4,5,7,8,9,10] [dZ,(dS (.string (xs.getD i ByteArray.empty)))] (fun S => [(0 ≤ (i : Int) ∧ (i : Int) < (xs.length : Int)),(cE S sb (addO off i) (.string (xs.getD i ByteArray.empty)))]) ⟨om,(fun w1 h => by rw [addO_eq]; exact (cell_cells (h.ro _ hmem)).trans (hcs i om)),trivial⟩ ?_
   refine Cfg.begL rfl ?_
   refine Lq 3 [2,4,5,7,8,9,10,16] ?_
   refine Lu (Eff.callA (.string (beS (xs.getD i ByteArray.empty).size 4)) rfl Tryz.func42 rfl rfl kr (fun w1 _ => wNumMod _ om w1)) ?_
   refine Le (Eff.callH (fun _ => (.tuple #[.int .i64 ((beS (xs.getD i ByteArray.empty).size 4).size : Int),.nilIface] : Value)) (bl 91 5 b (flat text4 (xs.take i)) B) (fun B1 => bl 91 5 b ((flat text4 (xs.take i)) ++ (beS (xs.getD i ByteArray.empty).size 4).data.toList) B1) (fun B1 => BdOk b ((flat text4 (xs.take i)) ++ (beS (xs.getD i ByteArray.empty).size 4).data.toList) B1) [(rs,.cells #[.string ByteArray.empty] 54 (0,0)),(o,.cells #[.string s] 54 (0,0))] [] (by rfl) rfl Tryz.func50 rfl rfl kr (fun w1 h hh hd => bWriteString b (flat text4 (xs.take i)) B (beS (xs.getD i ByteArray.empty).size 4) w1 hB hh hd (by rw [beS_size]; omega))) ?_
   rintro B2 kB2
   refine CfgL.done rfl ?_
   refine Cg (Γ' := [(7,[],.string (xs.getD i ByteArray.empty)),(10,[],iN i),(9,[],iN xs.length),(8,[],.slice (some ⟨sb,off,none⟩) xs.length cap),(5,[],pT b),(4,[],pT rs),(2,[],pT o)]) ?_
   refine Cfg.begL rfl ?_
   refine Lq 1 [2,4,5,8,9,10,19] ?_
   refine Le (Eff.callH (fun _ => (.tuple #[.int .i64 ((xs.getD i ByteArray.empty).size : Int),.nilIface] : Value)) (bl 91 5 b ((flat text4 (xs.take i)) ++ (beS (xs.getD i ByteArray.empty).size 4).data.toList) B2) (fun B1 => bl 91 5 b (((flat text4 (xs.take i)) ++ (beS (xs.getD i ByteArray.empty).size 4).data.toList) ++ (xs.getD i ByteArray.empty).data.toList) B1) (fun B1 => BdOk b (((flat text4 (xs.take i)) ++ (beS (xs.getD i ByteArray.empty).size 4).data.toList) ++ (xs.getD i ByteArray.empty).data.toList) B1) [(rs,.cells #[.string ByteArray.empty] 54 (0,0)),(o,.cells #[.string s] 54 (0,0))] [] (by rfl) rfl Tryz.func50 rfl rfl kr (fun w1 h hh hd => bWriteString b ((flat text4 (xs.take i)) ++ (beS (xs.getD i ByteArray.empty).size 4).data.toList) B2 (xs.getD i ByteArray.empty) w1 kB2 hh hd (by rw [List.length_append,beS_list,be_len]; omega))) ?_
   rintro B3 kB3
   refine CfgL.done rfl ?_
   refine Cg (Γ' := [(10,[],iN i),(9,[],iN xs.length),(8,[],.slice (some ⟨sb,off,none⟩) xs.length cap),(5,[],pT b),(4,[],pT rs),(2,[],pT o)]) ?_
   refine Rg [2,4,5,8,9,10] [] (fun _ => [(i6 ((i : Int) + 1))]) ⟨om,trivial⟩ ?_
   have hcs2 : (((flat text4 (xs.take i)) ++ (beS (xs.getD i ByteArray.empty).size 4).data.toList) ++ (xs.getD i ByteArray.empty).data.toList) = (flat text4 (xs.take (i + 1))) := by rw [flat_succ ByteArray.empty om]; unfold text4; rw [← List.append_assoc,beS_list]
   refine Cfg.setO (congrArg (fun (xq : List UInt8) => (([(rs,.cells #[.string ByteArray.empty] 54 (0,0)),(o,.cells #[.string s] 54 (0,0))] ++ (bl 91 5 b xq B3 ++ [])) : LO)) (show _ = (flat text4 (xs.take (i + 1))) from hcs2)) ?_
   refine Cfg.again rfl (i + 1,B3) ⟨by omega,hcs2 ▸ kB3⟩ (by show xs.length - (i + 1) < xs.length - i; omega) (Conv.mk kr) slr
  ·have c1 := (dF c1r)
   obtain rfl : i = xs.length := by omega
   refine Cfg.setO (congrArg (fun (xq : List UInt8) => (([(rs,.cells #[.string ByteArray.empty] 54 (0,0)),(o,.cells #[.string s] 54 (0,0))] ++ (bl 91 5 b xq B ++ [])) : LO)) (show _ = (flat text4 xs) from by rw [List.take_length])) ?_
   rw [List.take_length] at hB
   refine Conv.cfg (Γ' := [(9,[],iN xs.length),(8,[],.slice la xs.length cap),(5,[],pT b),(4,[],pT rs),(2,[],pT o)]) (Conv.mk kr) ?_
   refine Cfg.begA rfl kr [(o,.cells #[.string s] 54 (0,0))] ?_
   refine Ap [0] [(dS (.agg #[.string s]))] (some [4,5,22]) (tF 1 4) (.cons _ (.cons_cons _ (List.nil_sublist _))) 4 (fun S => [(∀ w1,S w1 → (loadVar 54 ⟨o,0,none⟩).run Tryz.prog w1 = .ok (.agg #[.string s]) w1)]) ⟨(fun w1 h => h.oload 0 rfl Tryz.underlying54 rfl (n := 1) kr rfl),trivial⟩ ?_
   refine Au 1 rfl 3  (Eff.callH (fun _ : Unit => (.string (tx (flat text4 xs)) : Value)) (bl 91 5 b (flat text4 xs) B) (fun _ => []) (fun _ => True) [(rs,.cells #[.string ByteArray.empty] 54 (0,0)),(o,.cells #[.string s] 54 (0,0))] [] (by rfl) rfl Tryz.func49 rfl rfl kr (fun w1 h hh hd => bString b (flat text4 xs) B w1 hB hh hd om)) (fun _ _ => (.cons _ (.cons_cons _ .slnil))) ?_
   refine Ae 2 rfl 2  (Eff.buildSlice (e := 9) (cells := #[.string (tx (flat text4 xs))]) (parts := #[(0,.string (tx (flat text4 xs)))]) rfl kr (fun _ => kr)) (fun _ _ => (.cons _ (.cons _ (.cons_cons _ .slnil)))) ?_
   rintro x3 ⟨hx3,nx3⟩
   refine Au 3 rfl 1  (Eff.callA (.agg #[.string (tx (s.data.toList ++ cat [(tx (flat text4 xs))]))]) rfl Tryz.func41 rfl rfl kr (fun w1 h => wWith s (some ⟨x3,0,none⟩) 1 [(tx (flat text4 xs))] [(x3,.cells (List.map Value.string [(tx (flat text4 xs))]).toArray 9 (0,0))] w1 (inS_lit x3 9 (0,0) [(tx (flat text4 xs))]) (h.has (fun e he => mG 0 (by rw [List.mem_singleton.1 he]; rfl))) (one_len _) (by rw [cat_tx]; omega))) (fun _ _ => (.cons _ (.cons _ (.cons_cons _ .slnil)))) ?_
   refine Au 4 rfl 0  (Eff.storeN (b := rs) (off := 0) (vs := #[.string (tx (s.data.toList ++ cat [(tx (flat text4 xs))]))]) (n := 1) rfl kr kr kr rfl (by simp [K.one]) 1 (cs := #[.string ByteArray.empty]) (e := 54) kr (by simp)) (fun _ _ => (.cons _ (.cons _ (.cons_cons _ .slnil)))) ?_
   refine oA 1 rfl (show _ = #[.string (tx (s.data.toList ++ cat [(tx (flat text4 xs))]))] from rfl) ?_
   refine CfgA.done kr ?_
   refine Cg (Γ' := [(4,[],pT rs)]) ?_
   refine Cfg.ret rfl (rs := [.cell 4 54]) rfl [.agg #[.string (tx (s.data.toList ++ cat [(tx (flat text4 xs))]))]] ⟨⟨_,by kernel_rfl,(fun w1 h => h.oload 1 rfl Tryz.underlying54 rfl (n := 1) kr rfl)⟩,trivial⟩ (fun w1 hp => ?_)
   exact ⟨by rw [cat_tx]; rfl,hp.ext⟩
set_option maxRecDepth 100000 in
theorem wDigest (s : ByteArray) (la : Option Addr) (cap : Nat) (xs : List (List UInt8)) (Rl : List (Nat × Obj)) (w : World) (hI : InS Rl la (xs.length * 32) (fun j => .int .u8 (((xs.getD (j / 32) []).getD (j % 32) 0).toNat : Int))) (hR : Has w Rl) (hn : xs.length ≤ maxLen) (hr : s.size + (flat id xs).length ≤ 140737488355328) (hx : ∀ i,i < xs.length → (xs.getD i []).length = 32) :
  Calls Tryz.prog 18 #[.agg #[.string s],.slice la xs.length cap] w fun e w' => e = .returned (.agg #[.string (tx (s.data.toList ++ flat id xs))]) ∧ Ext [] w w' := by
 unfold maxLen at hn
 refine enter [] Rl [] Tryz.func18 rfl kr (HP.ofHas hR) ?_
 refine Cfg.begL rfl ?_
 refine Le (Eff.box (v := .agg #[.string s]) rfl kr) ?_
 rintro o ⟨ho,no⟩
 refine Le (Eff.alloc (z := (.agg #[.string ByteArray.empty])) rfl kr) ?_
 rintro rs ⟨hrs,nrs⟩
 refine CfgL.done rfl ?_
 refine Cg (Γ' := [(4,[],pT rs),(2,[],pT o),(1,[],.slice la xs.length cap)]) ?_
 refine Cfg.begL rfl ?_
 refine Le (Eff.allocB 5 [(rs,.cells #[.string ByteArray.empty] 54 (0,0)),(o,.cells #[.string s] 54 (0,0))] [] rfl rfl kr) ?_
 rintro b ⟨hb,nb⟩
 refine CfgL.done rfl ?_
 refine Rq [2,4,5,8,9,10] ?_
 refine Cfg.setO (congrArg (fun (xq : List UInt8) => (([(rs,.cells #[.string ByteArray.empty] 54 (0,0)),(o,.cells #[.string s] 54 (0,0))] ++ (bl 91 5 b xq bd0 ++ [])) : LO)) (show _ = (flat id (xs.take 0)) from by rw [List.take_zero]; rfl)) ?_
 refine Cfg.loop rfl (ι := Nat × Bd) (fun (xz : Nat × Bd) => match xz with | (i,B) => [(10,[],iN i),(9,[],iN xs.length),(8,[],.slice la xs.length cap),(5,[],pT b),(4,[],pT rs),(2,[],pT o)]) (fun (xz : Nat × Bd) => match xz with | (i,B) => ([(rs,.cells #[.string ByteArray.empty] 54 (0,0)),(o,.cells #[.string s] 54 (0,0))] ++ (bl 91 5 b (flat id (xs.take i)) B ++ []))) (fun (xz : Nat × Bd) => match xz with | (i,B) => (i ≤ xs.length) ∧ (BdOk b (flat id (xs.take i)) B)) (fun (xz : Nat × Bd) => match xz with | (i,B) => xs.length - i) (0,bd0) ?_ (Conv.mk kr) slr ?_
 ·exact ⟨Nat.zero_le _,by rw [List.take_zero]; exact (bd0_ok b)⟩
 ·rintro ⟨i,B⟩ ⟨hi,hB⟩
  have hpart := fun (hlt : i < xs.length) => flat_part (f := id) [] hlt
  refine Rq [2,4,5,8,9,10,11] ?_
  refine Cfg.cond rfl (b := (decide ((i : Int) < (xs.length : Int)))) kr (fun c1r => ?_) (fun c1r => ?_)
  ·have c1 := (dT c1r)
   have hpt := hpart om
   obtain ⟨sb,off,cs,te,fre,rfl,hmem,hcs⟩ := hI om
   refine Conv.cfg (Γ' := [(11,[],.bool (decide ((i : Int) < (xs.length : Int)))),(10,[],iN i),(9,[],iN xs.length),(8,[],.slice (some ⟨sb,off,none⟩) xs.length cap),(5,[],pT b),(4,[],pT rs),(2,[],pT o)]) (Conv.mk kr) ?_
   refine Cfg.begL rfl ?_
   refine Lp 2 [dZ,(dS (.agg (bv (xs.getD i []))))] (some [2,4,5,8,9,10,13]) (fun S => [(0 ≤ (i : Int) ∧ (i : Int) < (xs.length : Int)),(∀ w1,S w1 → (loadVar 30 ⟨sb,(addO off (i * 32)),none⟩).run Tryz.prog w1 = .ok (.agg (bv (xs.getD i []))) w1)]) ⟨om,(fun w1 h => load_bytes Tryz.underlying30 rfl kr (hx i om) (fun j hj => by rw [addO_eq]; exact (cell_cells (h.ro _ hmem)).trans ((congrArg (fun z => cs[z]?) (show off + i * 32 + j = off + (i * 32 + j) by omega)).trans ((hcs (i * 32 + j) om).trans (by simp only [show (i * 32 + j) / 32 = i by omega,show (i * 32 + j) % 32 = j by omega]))))),trivial⟩ ?_
   refine Le (Eff.alloc (z := (.agg (bv (List.replicate 32 0)))) rfl kr) ?_
   rintro d ⟨hd,nd⟩
   refine Lu (Eff.storeN (b := d) (off := 0) (vs := (bv (xs.getD i []))) (n := 32) rfl kr kr kr ((bv_size _).trans (hx i om)) (all_bv _) 0 (cs := (bv (List.replicate 32 0))) (e := 30) kr (by rw [zsz32]; omega)) ?_
   refine CfgL.setO (congrArg (fun (xq : Array Value) => (([(d,.cells xq 30 (0,0)),(rs,.cells #[.string ByteArray.empty] 54 (0,0)),(o,.cells #[.string s] 54 (0,0))] ++ (bl 91 5 b (flat id (xs.take i)) B ++ [])) : LO)) (show _ = (bv (xs.getD i [])) from spl_all (((bv_size _).trans (hx i om)).trans zsz32.symm))) ?_
   refine CfgL.done rfl ?_
   refine Cg (Γ' := [(7,[],pT d),(10,[],iN i),(9,[],iN xs.length),(8,[],.slice (some ⟨sb,off,none⟩) xs.length cap),(5,[],pT b),(4,[],pT rs),(2,[],pT o)]) ?_
   refine Cfg.begL rfl ?_
   refine Lp 1 [] (some [2,4,5,8,9,10,14]) (fun _ => [(32 ≤ 32)]) ⟨om,trivial⟩ ?_
   refine Le (Eff.callH (fun _ => (.tuple #[.int .i64 32,.nilIface] : Value)) (bl 91 5 b (flat id (xs.take i)) B) (fun B1 => bl 91 5 b ((flat id (xs.take i)) ++ (xs.getD i [])) B1) (fun B1 => BdOk b ((flat id (xs.take i)) ++ (xs.getD i [])) B1) [(d,.cells (bv (xs.getD i [])) 30 (0,0)),(rs,.cells #[.string ByteArray.empty] 54 (0,0)),(o,.cells #[.string s] 54 (0,0))] [] (by rfl) rfl Tryz.func48 rfl rfl kr (fun w1 h hh hd => bWrite b (flat id (xs.take i)) B d 32 32 (xs.getD i []) 30 w1 hB hh hd (by have h32 := hx i om; have hid : (id (xs.getD i []) : List UInt8).length = 32 := h32; omega) (by decide) (hx i om) (h.own (d,_) (mG 0 rfl)) (HP.notin h (mG 0 rfl)))) ?_
   rintro B1 kB1
   refine CfgL.done rfl ?_
   refine Cg (Γ' := [(10,[],iN i),(9,[],iN xs.length),(8,[],.slice (some ⟨sb,off,none⟩) xs.length cap),(5,[],pT b),(4,[],pT rs),(2,[],pT o)]) ?_
   refine Rg [2,4,5,8,9,10] [] (fun _ => [(i6 ((i : Int) + 1))]) ⟨om,trivial⟩ ?_
   have hcs2 : ((flat id (xs.take i)) ++ (xs.getD i [])) = (flat id (xs.take (i + 1))) := by rw [flat_succ [] om]; rfl
   refine Cfg.setO (congrArg (fun (xq : List UInt8) => (([(d,.cells (bv (xs.getD i [])) 30 (0,0)),(rs,.cells #[.string ByteArray.empty] 54 (0,0)),(o,.cells #[.string s] 54 (0,0))] ++ (bl 91 5 b xq B1 ++ [])) : LO)) (show _ = (flat id (xs.take (i + 1))) from hcs2)) ?_
   refine Cfg.again rfl (i + 1,B1) ⟨by omega,hcs2 ▸ kB1⟩ (by show xs.length - (i + 1) < xs.length - i; omega) (Conv.mk kr) (.cons _ slr)
  ·have c1 := (dF c1r)
   obtain rfl : i = xs.length := by omega
   refine Cfg.setO (congrArg (fun (xq : List UInt8) => (([(rs,.cells #[.string ByteArray.empty] 54 (0,0)),(o,.cells #[.string s] 54 (0,0))] ++ (bl 91 5 b xq B ++ [])) : LO)) (show _ = (flat id xs) from by rw [List.take_length])) ?_
   rw [List.take_length] at hB
   refine Conv.cfg (Γ' := [(9,[],iN xs.length),(8,[],.slice la xs.length cap),(5,[],pT b),(4,[],pT rs),(2,[],pT o)]) (Conv.mk kr) ?_
   refine Cfg.begA rfl kr [(o,.cells #[.string s] 54 (0,0))] ?_
   refine Ap [0] [(dS (.agg #[.string s]))] (some [4,5,17]) (tF 1 4) (.cons _ (.cons_cons _ (List.nil_sublist _))) 4 (fun S => [(∀ w1,S w1 → (loadVar 54 ⟨o,0,none⟩).run Tryz.prog w1 = .ok (.agg #[.string s]) w1)]) ⟨(fun w1 h => h.oload 0 rfl Tryz.underlying54 rfl (n := 1) kr rfl),trivial⟩ ?_
   refine Au 1 rfl 3  (Eff.callH (fun _ : Unit => (.string (tx (flat id xs)) : Value)) (bl 91 5 b (flat id xs) B) (fun _ => []) (fun _ => True) [(rs,.cells #[.string ByteArray.empty] 54 (0,0)),(o,.cells #[.string s] 54 (0,0))] [] (by rfl) rfl Tryz.func49 rfl rfl kr (fun w1 h hh hd => bString b (flat id xs) B w1 hB hh hd om)) (fun _ _ => (.cons _ (.cons_cons _ .slnil))) ?_
   refine Ae 2 rfl 2  (Eff.buildSlice (e := 9) (cells := #[.string (tx (flat id xs))]) (parts := #[(0,.string (tx (flat id xs)))]) rfl kr (fun _ => kr)) (fun _ _ => (.cons _ (.cons _ (.cons_cons _ .slnil)))) ?_
   rintro x4 ⟨hx4,nx4⟩
   refine Au 3 rfl 1  (Eff.callA (.agg #[.string (tx (s.data.toList ++ cat [(tx (flat id xs))]))]) rfl Tryz.func41 rfl rfl kr (fun w1 h => wWith s (some ⟨x4,0,none⟩) 1 [(tx (flat id xs))] [(x4,.cells (List.map Value.string [(tx (flat id xs))]).toArray 9 (0,0))] w1 (inS_lit x4 9 (0,0) [(tx (flat id xs))]) (h.has (fun e he => mG 0 (by rw [List.mem_singleton.1 he]; rfl))) (one_len _) (by rw [cat_tx]; omega))) (fun _ _ => (.cons _ (.cons _ (.cons_cons _ .slnil)))) ?_
   refine Au 4 rfl 0  (Eff.storeN (b := rs) (off := 0) (vs := #[.string (tx (s.data.toList ++ cat [(tx (flat id xs))]))]) (n := 1) rfl kr kr kr rfl (by simp [K.one]) 1 (cs := #[.string ByteArray.empty]) (e := 54) kr (by simp)) (fun _ _ => (.cons _ (.cons _ (.cons_cons _ .slnil)))) ?_
   refine oA 1 rfl (show _ = #[.string (tx (s.data.toList ++ cat [(tx (flat id xs))]))] from rfl) ?_
   refine CfgA.done kr ?_
   refine Cg (Γ' := [(4,[],pT rs)]) ?_
   refine Cfg.ret rfl (rs := [.cell 4 54]) rfl [.agg #[.string (tx (s.data.toList ++ cat [(tx (flat id xs))]))]] ⟨⟨_,by kernel_rfl,(fun w1 h => h.oload 1 rfl Tryz.underlying54 rfl (n := 1) kr rfl)⟩,trivial⟩ (fun w1 hp => ?_)
   exact ⟨by rw [cat_tx]; rfl,hp.ext⟩
set_option maxRecDepth 100000 in
theorem wString (s : ByteArray) (w : World) :
  Calls Tryz.prog 23 #[.agg #[.string s]] w fun e w' => e = .returned (.string s) ∧ Ext [] w w' := by
 refine enter [] [] [] Tryz.func23 rfl kr (HP.start w) ?_
 refine Cfg.begL rfl ?_
 refine Le (Eff.box (v := .agg #[.string s]) rfl kr) ?_
 rintro o ⟨ho,no⟩
 refine Ld 1 [1] ?_
 refine Rg [2] [dZ,(dS (.string s))] (fun S => [(cE S o 0 (.string s))]) ⟨(oC 0 rfl rfl),trivial⟩ ?_
 refine Cfg.ret rfl (rs := [.tmp 2]) rfl [.string s] ⟨kr,trivial⟩ (fun w1 hp => ?_)
 exact ⟨rfl,hp.ext⟩
end Go.Proofs.YtbeeelgfhfmgbaaGreatDoor
namespace Go.Proofs.YtbeeelgfhfmgbaaGreatDoor
open K
set_option linter.unusedVariables false
theorem byteLt (b : UInt8) : b.toNat < 256 := UInt8.toNat_lt b
structure IN where
 er : Int
 rest : List UInt8
def inC (z : IN) : Array Value := #[.int .i64 z.er,.string (tx z.rest)]
def failF (z : IN) (e : Int) : IN := if z.er = 0 then ⟨e,z.rest⟩ else z
def nextF (z : IN) (n : Int) : List UInt8 × IN := if z.er ≠ 0 then ([],z) else if n < 0 ∨ n > (z.rest.length : Int) then ([],⟨3,z.rest⟩) else (z.rest.take n.toNat,⟨z.er,z.rest.drop n.toNat⟩)
theorem tx_take (l : List UInt8) (n : Nat) : (tx l).extract 0 n = tx (l.take n) := by
 apply ByteArray.ext
 apply Array.ext'
 rw [ByteArray.data_extract,Array.toList_extract,List.extract_eq_take_drop]
 simp [tx]
theorem tx_drop (l : List UInt8) (n : Nat) : (tx l).extract n (tx l).size = tx (l.drop n) := by
 apply ByteArray.ext
 apply Array.ext'
 rw [ByteArray.data_extract,Array.toList_extract,List.extract_eq_take_drop,tx_size]
 simp only [tx,List.take_of_length_le (show (l.drop n).length ≤ l.length - n by simp)]
theorem nextF_len (z : IN) (n : Nat) : (nextF z n).1.length ≤ n := by
 unfold nextF
 split
 ·simp
 ·split
  ·simp
  ·simp; omega
def vf (n : Nat) (b : UInt8) : Nat := n * 256 % 18446744073709551616 + b.toNat
def valF (l : List UInt8) : Nat := l.foldl vf 0
theorem vf_lt (n : Nat) (b : UInt8) : vf n b < 18446744073709551616 := by have := byteLt b; unfold vf; omega
theorem foldl_lt : ∀ (l : List UInt8) (n : Nat),n < 18446744073709551616 → l.foldl vf n < 18446744073709551616
 | [],n,h => h
 | b :: l,n,_ => foldl_lt l (vf n b) (vf_lt n b)
theorem valF_lt (l : List UInt8) : valF l < 18446744073709551616 := foldl_lt l 0 (by decide)
theorem or256 (a b : Nat) (hb : b < 256) : 256 * a ||| b = 256 * a + b := by
 have := Nat.two_pow_add_eq_or_of_lt (i := 8) (b := b) (by simpa using hb) a
 simpa using this.symm
theorem vf_or (n : Nat) (b : UInt8) : ((((n : Int) * 256) % 18446744073709551616).toNat ||| b.toNat) = vf n b := by
 have := byteLt b
 rw [show (((n : Int) * 256) % 18446744073709551616).toNat = 256 * (n % 72057594037927936) by omega,or256 _ _ this]
 unfold vf; omega
def gb (l : List UInt8) (i : Nat) : UInt8 := l.getD i 0
theorem val_succ {l : List UInt8} {i : Nat} (h : i < l.length) : valF (l.take (i + 1)) = vf (valF (l.take i)) (gb l i) := by
 unfold valF
 rw [List.take_succ_eq_append_getElem h,List.foldl_append]
 simp [gb,List.getElem?_eq_getElem h]
def byteF (z : IN) : Nat × IN := (valF (nextF z 1).1 % 256,(nextF z 1).2)
def fourF (z : IN) : Nat × IN := (valF (nextF z 4).1 % 4294967296,(nextF z 4).2)
def eightF (z : IN) : Nat × IN := (valF (nextF z 8).1,(nextF z 8).2)
def boundF (z : IN) (most e : Int) : Nat × IN := if (fourF z).1 > (if 0 > most then 0 else most).toNat then (0,failF (fourF z).2 e) else fourF z
theorem fourF_lt (z : IN) : (fourF z).1 < 4294967296 := Nat.mod_lt _ (by decide)
def textF (z : IN) (most : Int) : List UInt8 × IN := nextF (boundF z most 5).2 ((boundF z most 5).1 : Nat)
def dig32 (l : List UInt8) : List UInt8 := if l.length = 32 then l else List.replicate 32 0
theorem dig32_len (l : List UInt8) : (dig32 l).length = 32 := by unfold dig32; split <;> simp_all
def digF (z : IN) : List UInt8 × IN := (dig32 (nextF z 32).1,(nextF z 32).2)
def endF (z : IN) : Int := if z.er ≠ 0 then z.er else if (z.rest.length : Int) > 0 then 4 else 0
theorem next_none (z : IN) (n : Int) : (nextF z n).1 = [] ∨ (nextF z n).1.length = n.toNat := by
 unfold nextF
 split
 ·exact .inl rfl
 ·split
  ·exact .inl rfl
  ·right; simp; omega
theorem dig_spl {l : List UInt8} (h : l = [] ∨ l.length = 32) {m : Nat} (hm : m = min l.length 32) : spl (bv (List.replicate 32 0)) 0 (bv (l.take m)).toList = bv (dig32 l) := by
 rcases h with h | h
 ·subst h; simp [dig32,bv,spl]
 ·rw [hm,h,Nat.min_self,List.take_of_length_le om,show dig32 l = l from if_pos h]
  exact spl_all (by rw [bv_size,bv_size,h]; rfl)
theorem sbyte_gb (l : List UInt8) (i : Nat) : sbyte (tx l) (i : Int) = ((gb l i).toNat : Int) := rfl
set_option maxRecDepth 100000 in
theorem wOf (l : List UInt8) (w : World) :
  Calls Tryz.prog 24 #[.string (tx l)] w fun e w' => ∃ b : Nat,True ∧ e = .returned (.pointer (some ⟨b,0,none⟩)) ∧ w.heap.size ≤ b ∧ w'.heap[b]? = some (.cells (inC ⟨0,l⟩) 102 (0,0)) ∧ Ext [] w w' := by
 refine enter [] [] [] Tryz.func24 rfl kr (HP.start w) ?_
 refine Rq [0] ?_
 refine Cfg.begL rfl ?_
 refine Lp 2 [dZ,(dS (.agg (inC ⟨0,l⟩)))] (some [4]) (fun S => [(∀ w1,S w1 → (Instr.build 102 #[(1,.string (tx l))]).run Tryz.prog w1 = .ok (.agg (inC ⟨0,l⟩)) w1)]) ⟨(fun _ _ => kr),trivial⟩ ?_
 refine Le (Eff.box (v := .agg (inC ⟨0,l⟩)) rfl kr) ?_
 rintro b1 ⟨hb1,nb1⟩
 refine Ld 1 [2] ?_
 refine Cfg.ret rfl (rs := [.tmp 2]) rfl [pT b1] ⟨kr,trivial⟩ (fun w1 hp => ?_)
 exact ⟨b1,trivial,rfl,hb1,hp.own (b1,_) mH,hp.ext⟩
set_option maxRecDepth 100000 in
theorem wFailed (b : Nat) (z : IN) (w : World) (hB : w.heap[b]? = some (.cells (inC z) 102 (0,0))) :
  Calls Tryz.prog 69 #[.pointer (some ⟨b,0,none⟩)] w fun e w' => e = .returned (.bool (z.er != (0 : Int))) ∧ Ext [] w w' := by
 refine enter [] [(b,.cells (inC z) 102 (0,0))] [] Tryz.func69 rfl kr (HP.ofHas (fun e he => by rw [List.mem_singleton.1 he]; exact hB)) ?_
 refine Rq [0] ?_
 refine Rg [2] [dZ,dZ,dZ,(dS (.int .i64 z.er))] (fun S => [(cE S b 0 (.int .i64 z.er))]) ⟨(rC 0 rfl rfl),trivial⟩ ?_
 refine Cfg.ret rfl (rs := [.tmp 2]) rfl [.bool (z.er != (0 : Int))] ⟨kr,trivial⟩ (fun w1 hp => ?_)
 exact ⟨rfl,hp.ext⟩
set_option maxRecDepth 100000 in
theorem wNote (b : Nat) (z : IN) (x : Int) (w : World) (hB : w.heap[b]? = some (.cells (inC z) 102 (0,0))) :
  Calls Tryz.prog 70 #[.pointer (some ⟨b,0,none⟩),.int .i64 x] w fun e w' => e = .returned (.tuple #[]) ∧ Ext [b] w w' ∧ w'.heap[b]? = some (.cells (inC (failF z x)) 102 (0,0)) := by
 refine enter [b] [] [(b,.cells (inC z) 102 (0,0))] Tryz.func70 rfl kr (HP.startM (R := []) (fun _ h => by cases h) hB (by simp)) ?_
 refine Rg [0,1,8] [dZ,dZ,dZ,(dS (.int .i64 z.er))] (fun S => [(cE S b 0 (.int .i64 z.er))]) ⟨(oC 0 rfl rfl),trivial⟩ ?_
 refine Cfg.cond rfl (b := (z.er == (0 : Int))) kr (fun c1r => ?_) (fun c1r => ?_)
 ·have c1 := (beq_iff_eq.1 c1r)
  refine Cfg.begL rfl ?_
  refine Lq 4 [10,12] ?_
  refine Lu (Eff.store1 (b := b) (off := 0) (v := .int .i64 x) rfl kr kr rfl kr 0 (cs := (inC z)) (e := 102) kr (by simp [inC])) ?_
  refine CfgL.done rfl ?_
  refine Cg (Γ' := []) ?_
  refine Cfg.fin rfl (rs := []) rfl [] trivial (fun w1 hp => ?_)
  exact ⟨rfl,hp.ext,(show failF z x = ⟨x,z.rest⟩ from if_pos c1).symm ▸ hp.own (b,_) mH⟩
 ·have c1 := (beq_eq_false_iff_ne.1 c1r)
  refine Cfg.fin rfl (rs := []) rfl [] trivial (fun w1 hp => ?_)
  exact ⟨rfl,hp.ext,(show failF z x = z from if_neg c1).symm ▸ hp.own (b,_) mH⟩
set_option maxRecDepth 100000 in
theorem wNext (b : Nat) (z : IN) (n : Int) (w : World) (hB : w.heap[b]? = some (.cells (inC z) 102 (0,0))) :
  Calls Tryz.prog 52 #[.pointer (some ⟨b,0,none⟩),.int .i64 n] w fun e w' => e = .returned (.string (tx (nextF z n).1)) ∧ Ext [b] w w' ∧ w'.heap[b]? = some (.cells (inC (nextF z n).2) 102 (0,0)) := by
 have hts := tx_size z.rest
 refine enter [b] [] [(b,.cells (inC z) 102 (0,0))] Tryz.func52 rfl kr (HP.startM (R := []) (fun _ h => by cases h) hB (by simp)) ?_
 refine Rq [0,1] ?_
 refine Cfg.begL rfl ?_
 refine Lp 6 [dZ,dZ,dZ,(1,false,none),(1,false,none),(1,false,none)] (some [0,1,8,11]) (fun _ => [((.bool false : Value) = .bool false),((.bool false : Value) = .bool false),((.bool false : Value) = .bool false)]) ⟨rfl,rfl,rfl,trivial⟩ ?_
 refine Lu (Eff.callA (.bool (z.er != (0 : Int))) rfl Tryz.func69 rfl rfl kr (fun w1 h => wFailed b z w1 (h.own (b,_) (mG 0 rfl)))) ?_
 refine Ld 1 [0,1,13] ?_
 refine Cfg.cond rfl (b := (z.er != (0 : Int))) kr (fun c1r => ?_) (fun c1r => ?_)
 ·have c1 := (bne_iff_ne.1 c1r)
  refine Rq [4] ?_
  refine Cfg.ret rfl (rs := [.tmp 4]) rfl [.string ⟨#[]⟩] ⟨kr,trivial⟩ (fun w1 hp => ?_)
  have hx : nextF z n = ([],z) := if_pos c1
  rw [hx]
  exact ⟨rfl,hp.ext,hp.own (b,_) mH⟩
 ·have c1 := (bne_eq_false_iff_eq.1 c1r)
  refine Rg [0,1,24] [dZ,dZ,dZ,dZ,dZ,dZ,dZ,(dS (.string (tx z.rest)))] (fun S => [((.bool (decide (n < (0 : Int))) : Value) = .bool false → (cE S b 1 (.string (tx z.rest))))]) ⟨(fun g0 => have q0 : (¬ (n < (0 : Int))) := (dF (boolV g0)); (oC 0 rfl rfl)),trivial⟩ ?_
  refine Cfg.cond rfl (b := ((decide (n < (0 : Int))) || (decide (n > ((tx z.rest).size : Int))))) kr (fun c2r => ?_) (fun c2r => ?_)
  ·have c2 : ((n < (0 : Int)) ∨ (n > ((tx z.rest).size : Int))) := ((orT c2r).elim (fun h => Or.inl (dT h)) (fun h => Or.inr (dT h)))
   refine Cfg.begL rfl ?_
   refine Lq 3 [27] ?_
   refine Lu (Eff.callM (.tuple #[]) 0 (b := b) (ob := .cells (inC z) 102 (0,0)) (.cells (inC (failF z (3 : Int))) 102 (0,0)) rfl Tryz.func70 rfl rfl kr kr (fun w1 h => wNote b z (3 : Int) w1 (h.own (b,_) (mG 0 rfl)))) ?_
   refine CfgL.done rfl ?_
   refine Cg (Γ' := []) ?_
   refine Rq [4] ?_
   refine Cfg.ret rfl (rs := [.tmp 4]) rfl [.string ⟨#[]⟩] ⟨kr,trivial⟩ (fun w1 hp => ?_)
   have hx : nextF z n = ([],⟨3,z.rest⟩) := (if_neg om).trans (if_pos om)
   have hf : failF z (3 : Int) = ⟨3,z.rest⟩ := if_pos om
   rw [hx]
   exact ⟨rfl,hp.ext,hf ▸ hp.own (b,_) mH⟩
  ·have c2 : ((¬ (n < (0 : Int))) ∧ (¬ (n > ((tx z.rest).size : Int)))) := ⟨(dF (orF1 c2r)),(dF (orF2 c2r))⟩
   refine Rg [0,1,5] [dZ,dZ,dZ,(dS (.string (tx z.rest)))] (fun S => [(cE S b 1 (.string (tx z.rest))),(0 ≤ n),(0 ≤ (n).toNat ∧ (n).toNat ≤ (tx z.rest).size)]) ⟨(oC 0 rfl rfl),om,om,trivial⟩ ?_
   refine Cfg.begL rfl ?_
   refine Lp 9 [dZ,dZ,dZ,dZ,(dS (.string (tx z.rest)))] (some [5,41,43]) (fun S => [(cE S b 1 (.string (tx z.rest))),(0 ≤ n),((n).toNat ≤ (tx z.rest).size ∧ (tx z.rest).size ≤ (tx z.rest).size)]) ⟨(oC 0 rfl rfl),om,om,trivial⟩ ?_
   refine Lu (Eff.store1 (b := b) (off := 1) (v := .string ((tx z.rest).extract ((n).toNat) ((tx z.rest).size))) rfl kr kr rfl kr 0 (cs := (inC z)) (e := 102) kr (by simp [inC])) ?_
   refine CfgL.done rfl ?_
   refine Cg (Γ' := [(5,[],.string ((tx z.rest).extract 0 ((n).toNat)))]) ?_
   refine Rq [4] ?_
   refine Cfg.ret rfl (rs := [.tmp 4]) rfl [.string ((tx z.rest).extract 0 ((n).toNat))] ⟨kr,trivial⟩ (fun w1 hp => ?_)
   have hx : nextF z n = (z.rest.take n.toNat,⟨z.er,z.rest.drop n.toNat⟩) := (if_neg om).trans (if_neg om)
   rw [hx]
   exact ⟨by rw [tx_take]; rfl,hp.ext,by show w1.heap[b]? = some (.cells #[.int .i64 z.er,.string (tx (z.rest.drop n.toNat))] 102 (0,0)); rw [← tx_drop]; exact hp.own (b,_) mH⟩
set_option maxRecDepth 100000 in
theorem wValue (l : List UInt8) (w : World) (hl : l.length ≤ 9223372036854775807) :
  Calls Tryz.prog 51 #[.string (tx l)] w fun e w' => e = .returned (.int .u64 (valF l : Int)) ∧ Ext [] w w' := by
 have hts := tx_size l
 refine enter [] [] [] Tryz.func51 rfl kr (HP.start w) ?_
 refine Rq [0] ?_
 refine Rq [0,3] ?_
 refine Rq [0,3,6,7] ?_
 refine Cfg.loop rfl (ι := Nat) (fun (i : Nat) => [(7,[],iN i),(6,[],.int .i64 ((tx l).size : Int)),(3,[],.int .u64 ((valF (l.take i)) : Int)),(0,[],.string (tx l))]) (fun (i : Nat) => []) (fun (i : Nat) => (i ≤ l.length)) (fun (i : Nat) => l.length - i) 0 ?_ (Conv.mk kr) .slnil ?_
 ·exact Nat.zero_le _
 ·rintro i hi
  refine Rq [0,3,6,7,8] ?_
  refine Cfg.cond rfl (b := (decide ((i : Int) < ((tx l).size : Int)))) kr (fun c1r => ?_) (fun c1r => ?_)
  ·have c1 := (dT c1r)
   refine Rq [0,3,4,6,7] ?_
   refine Rg [0,3,6,7] [] (fun _ => [(0 ≤ (8 : Int) ∧ 8 ≤ 64),(0 ≤ (i : Int) ∧ (i : Int) < ((tx l).size : Int)),((0 : Int) ≤ (sbyte (tx l) (i : Int)) ∧ (sbyte (tx l) (i : Int)) ≤ 18446744073709551615),((0 ≤ ((((valF (l.take i)) : Int) * 256) % 18446744073709551616) ∧ ((((valF (l.take i)) : Int) * 256) % 18446744073709551616) ≤ 18446744073709551615) ∧ 0 ≤ (sbyte (tx l) (i : Int)) ∧ (sbyte (tx l) (i : Int)) ≤ 18446744073709551615)]) ⟨om,om,(by have := byteLt (gb l i); have := valF_lt (l.take i); have := sbyte_gb l i; omega),(by have := byteLt (gb l i); have := valF_lt (l.take i); have := sbyte_gb l i; omega),trivial⟩ ?_
   refine Rg [0,3,6,7] [] (fun _ => [(i6 ((i : Int) + 1))]) ⟨om,trivial⟩ ?_
   refine Cfg.setS 3 (congrArg (fun (xq : Int) => (.int .u64 xq : Value)) (show (((((((valF (l.take i)) : Int) * 256) % 18446744073709551616)).toNat ||| ((sbyte (tx l) (i : Int))).toNat : Nat) : Int) = ((valF (l.take (i + 1))) : Int) from by rw [val_succ om,← vf_or,sbyte_gb]; rfl)) ?_
   refine Cfg.again rfl (i + 1) (show i + 1 ≤ l.length by omega) om (Conv.mk kr) .slnil
  ·have c1 := (dF c1r)
   refine Rq [2] ?_
   refine Cfg.ret rfl (rs := [.tmp 2]) rfl [.int .u64 ((valF (l.take i)) : Int)] ⟨kr,trivial⟩ (fun w1 hp => ?_)
   exact ⟨by rw [show l.take i = l from List.take_of_length_le om]; rfl,hp.ext⟩
set_option maxRecDepth 100000 in
theorem wTByte (b : Nat) (z : IN) (w : World) (hB : w.heap[b]? = some (.cells (inC z) 102 (0,0))) :
  Calls Tryz.prog 25 #[.pointer (some ⟨b,0,none⟩)] w fun e w' => e = .returned (.int .u8 ((byteF z).1 : Int)) ∧ Ext [b] w w' ∧ w'.heap[b]? = some (.cells (inC (byteF z).2) 102 (0,0)) := by
 refine enter [b] [] [(b,.cells (inC z) 102 (0,0))] Tryz.func25 rfl kr (HP.startM (R := []) (fun _ h => by cases h) hB (by simp)) ?_
 refine Rq [0] ?_
 refine Cfg.begL rfl ?_
 refine Lq 1 [3] ?_
 refine Lu (Eff.callM (.string (tx (nextF z (1 : Int)).1)) 0 (b := b) (ob := .cells (inC z) 102 (0,0)) (.cells (inC ((nextF z (1 : Int)).2)) 102 (0,0)) rfl Tryz.func52 rfl rfl kr kr (fun w1 h => wNext b z (1 : Int) w1 (h.own (b,_) (mG 0 rfl)))) ?_
 refine Lu (Eff.callA (.int .u64 ((valF ((nextF z (1 : Int)).1)) : Int)) rfl Tryz.func51 rfl rfl kr (fun w1 _ => wValue ((nextF z (1 : Int)).1) w1 (Nat.le_trans (nextF_len _ _) (by decide)))) ?_
 refine Ld 2 [2] ?_
 refine Cfg.ret rfl (rs := [.tmp 2]) rfl [.int .u8 (((valF ((nextF z (1 : Int)).1)) : Int) % 256)] ⟨kr,trivial⟩ (fun w1 hp => ?_)
 exact ⟨rfl,hp.ext,hp.own (b,_) mH⟩
set_option maxRecDepth 100000 in
theorem wTFour (b : Nat) (z : IN) (w : World) (hB : w.heap[b]? = some (.cells (inC z) 102 (0,0))) :
  Calls Tryz.prog 54 #[.pointer (some ⟨b,0,none⟩)] w fun e w' => e = .returned (.int .u32 ((fourF z).1 : Int)) ∧ Ext [b] w w' ∧ w'.heap[b]? = some (.cells (inC (fourF z).2) 102 (0,0)) := by
 refine enter [b] [] [(b,.cells (inC z) 102 (0,0))] Tryz.func54 rfl kr (HP.startM (R := []) (fun _ h => by cases h) hB (by simp)) ?_
 refine Rq [0] ?_
 refine Cfg.begL rfl ?_
 refine Lq 1 [3] ?_
 refine Lu (Eff.callM (.string (tx (nextF z (4 : Int)).1)) 0 (b := b) (ob := .cells (inC z) 102 (0,0)) (.cells (inC ((nextF z (4 : Int)).2)) 102 (0,0)) rfl Tryz.func52 rfl rfl kr kr (fun w1 h => wNext b z (4 : Int) w1 (h.own (b,_) (mG 0 rfl)))) ?_
 refine Lu (Eff.callA (.int .u64 ((valF ((nextF z (4 : Int)).1)) : Int)) rfl Tryz.func51 rfl rfl kr (fun w1 _ => wValue ((nextF z (4 : Int)).1) w1 (Nat.le_trans (nextF_len _ _) (by decide)))) ?_
 refine Ld 2 [2] ?_
 refine Cfg.ret rfl (rs := [.tmp 2]) rfl [.int .u32 (((valF ((nextF z (4 : Int)).1)) : Int) % 4294967296)] ⟨kr,trivial⟩ (fun w1 hp => ?_)
 exact ⟨rfl,hp.ext,hp.own (b,_) mH⟩
set_option maxRecDepth 100000 in
theorem wTEight (b : Nat) (z : IN) (w : World) (hB : w.heap[b]? = some (.cells (inC z) 102 (0,0))) :
  Calls Tryz.prog 29 #[.pointer (some ⟨b,0,none⟩)] w fun e w' => e = .returned (.int .u64 ((eightF z).1 : Int)) ∧ Ext [b] w w' ∧ w'.heap[b]? = some (.cells (inC (eightF z).2) 102 (0,0)) := by
 refine enter [b] [] [(b,.cells (inC z) 102 (0,0))] Tryz.func29 rfl kr (HP.startM (R := []) (fun _ h => by cases h) hB (by simp)) ?_
 refine Rq [0] ?_
 refine Cfg.begL rfl ?_
 refine Lq 1 [3] ?_
 refine Lu (Eff.callM (.string (tx (nextF z (8 : Int)).1)) 0 (b := b) (ob := .cells (inC z) 102 (0,0)) (.cells (inC ((nextF z (8 : Int)).2)) 102 (0,0)) rfl Tryz.func52 rfl rfl kr kr (fun w1 h => wNext b z (8 : Int) w1 (h.own (b,_) (mG 0 rfl)))) ?_
 refine Lu (Eff.callA (.int .u64 ((valF ((nextF z (8 : Int)).1)) : Int)) rfl Tryz.func51 rfl rfl kr (fun w1 _ => wValue ((nextF z (8 : Int)).1) w1 (Nat.le_trans (nextF_len _ _) (by decide)))) ?_
 refine Ld 1 [2] ?_
 refine Cfg.ret rfl (rs := [.tmp 2]) rfl [.int .u64 ((valF ((nextF z (8 : Int)).1)) : Int)] ⟨kr,trivial⟩ (fun w1 hp => ?_)
 exact ⟨rfl,hp.ext,hp.own (b,_) mH⟩
set_option maxRecDepth 100000 in
theorem wFail (b : Nat) (z : IN) (x : Int) (w : World) (hB : w.heap[b]? = some (.cells (inC z) 102 (0,0))) :
  Calls Tryz.prog 71 #[.pointer (some ⟨b,0,none⟩),.int .i64 x] w fun e w' => e = .returned (.tuple #[]) ∧ Ext [b] w w' ∧ w'.heap[b]? = some (.cells (inC (failF z x)) 102 (0,0)) := by
 refine enter [b] [] [(b,.cells (inC z) 102 (0,0))] Tryz.func71 rfl kr (HP.startM (R := []) (fun _ h => by cases h) hB (by simp)) ?_
 refine Rq [0,1,5] ?_
 refine Cfg.condT rfl (b := true) kr rfl ?_
 refine Cfg.begL rfl ?_
 refine Lq 4 [8,9] ?_
 refine Lu (Eff.callM (.tuple #[]) 0 (b := b) (ob := .cells (inC z) 102 (0,0)) (.cells (inC (failF z x)) 102 (0,0)) rfl Tryz.func70 rfl rfl kr kr (fun w1 h => wNote b z x w1 (h.own (b,_) (mG 0 rfl)))) ?_
 refine CfgL.done rfl ?_
 refine Cg (Γ' := []) ?_
 refine Cfg.fin rfl (rs := []) rfl [] trivial (fun w1 hp => ?_)
 exact ⟨rfl,hp.ext,hp.own (b,_) mH⟩
set_option maxRecDepth 100000 in
theorem wBounded (b : Nat) (z : IN) (most x : Int) (w : World) (hB : w.heap[b]? = some (.cells (inC z) 102 (0,0))) (hm : most ≤ 9223372036854775807) :
  Calls Tryz.prog 59 #[.pointer (some ⟨b,0,none⟩),.int .i64 most,.int .i64 x] w fun e w' => e = .returned (.int .i64 ((boundF z most x).1 : Int)) ∧ Ext [b] w w' ∧ w'.heap[b]? = some (.cells (inC (boundF z most x).2) 102 (0,0)) := by
 have hfl := fourF_lt z
 have hmx : (if (0 : Int) > most then (0 : Int) else most) ≤ 9223372036854775807 ∧ 0 ≤ (if (0 : Int) > most then (0 : Int) else most) := by split <;> omega
 refine enter [b] [] [(b,.cells (inC z) 102 (0,0))] Tryz.func59 rfl kr (HP.startM (R := []) (fun _ h => by cases h) hB (by simp)) ?_
 refine Rq [0,1,2] ?_
 refine Cfg.begL rfl ?_
 refine Lp 1 [] none n0 trivial ?_
 refine Lu (Eff.callM (.int .u32 ((fourF z).1 : Int)) 0 (b := b) (ob := .cells (inC z) 102 (0,0)) (.cells (inC ((fourF z).2)) 102 (0,0)) rfl Tryz.func54 rfl rfl kr kr (fun w1 h => wTFour b z w1 (h.own (b,_) (mG 0 rfl)))) ?_
 refine Ld 1 [0,1,2,7] ?_
 refine Cfg.begL rfl ?_
 refine Lp 3 [] (some [0,2,7,11,12]) (fun _ => [((0 : Int) ≤ ((fourF z).1 : Int) ∧ ((fourF z).1 : Int) ≤ 18446744073709551615)]) ⟨om,trivial⟩ ?_
 refine Lu (Eff.maxI (k := .i64) (a := most) (b := 0) rfl kr kr) ?_
 refine Ld 2 [0,2,7,15] ?_
 refine Cfg.cond rfl (b := (decide (((fourF z).1 : Int) > ((if (0 : Int) > most then (0 : Int) else most) % 18446744073709551616)))) kr (fun c1r => ?_) (fun c1r => ?_)
 ·have c1 := (dT c1r)
  refine Cfg.begL rfl ?_
  refine Lq 2 [16,17] ?_
  refine Lu (Eff.callM (.tuple #[]) 0 (b := b) (ob := .cells (inC ((fourF z).2)) 102 (0,0)) (.cells (inC (failF ((fourF z).2) x)) 102 (0,0)) rfl Tryz.func71 rfl rfl kr kr (fun w1 h => wFail b ((fourF z).2) x w1 (h.own (b,_) (mG 0 rfl)))) ?_
  refine CfgL.done rfl ?_
  refine Cg (Γ' := []) ?_
  refine Rq [6] ?_
  refine Cfg.ret rfl (rs := [.tmp 6]) rfl [.int .i64 0] ⟨kr,trivial⟩ (fun w1 hp => ?_)
  have hx : boundF z most x = (0,failF (fourF z).2 x) := if_pos om
  rw [hx]
  exact ⟨rfl,hp.ext,hp.own (b,_) mH⟩
 ·have c1 := (dF c1r)
  refine Rg [6] [] (fun _ => [(i6 ((fourF z).1 : Int))]) ⟨om,trivial⟩ ?_
  refine Cfg.ret rfl (rs := [.tmp 6]) rfl [.int .i64 ((fourF z).1 : Int)] ⟨kr,trivial⟩ (fun w1 hp => ?_)
  have hx : boundF z most x = fourF z := if_neg om
  rw [hx]
  exact ⟨rfl,hp.ext,hp.own (b,_) mH⟩
set_option maxRecDepth 100000 in
theorem wCount (b : Nat) (z : IN) (most : Int) (w : World) (hB : w.heap[b]? = some (.cells (inC z) 102 (0,0))) (hm : most ≤ 9223372036854775807) :
  Calls Tryz.prog 57 #[.pointer (some ⟨b,0,none⟩),.int .i64 most] w fun e w' => e = .returned (.int .i64 ((boundF z most 6).1 : Int)) ∧ Ext [b] w w' ∧ w'.heap[b]? = some (.cells (inC (boundF z most 6).2) 102 (0,0)) := by
 refine enter [b] [] [(b,.cells (inC z) 102 (0,0))] Tryz.func57 rfl kr (HP.startM (R := []) (fun _ h => by cases h) hB (by simp)) ?_
 refine Rq [0,1] ?_
 refine Cfg.begL rfl ?_
 refine Lq 2 [5,6] ?_
 refine Lu (Eff.callM (.int .i64 ((boundF z most (6 : Int)).1 : Int)) 0 (b := b) (ob := .cells (inC z) 102 (0,0)) (.cells (inC ((boundF z most (6 : Int)).2)) 102 (0,0)) rfl Tryz.func59 rfl rfl kr kr (fun w1 h => wBounded b z most (6 : Int) w1 (h.own (b,_) (mG 0 rfl)) om)) ?_
 refine Ld 1 [4] ?_
 refine Cfg.ret rfl (rs := [.tmp 4]) rfl [.int .i64 ((boundF z most (6 : Int)).1 : Int)] ⟨kr,trivial⟩ (fun w1 hp => ?_)
 exact ⟨rfl,hp.ext,hp.own (b,_) mH⟩
set_option maxRecDepth 100000 in
theorem wTText (b : Nat) (z : IN) (most : Int) (w : World) (hB : w.heap[b]? = some (.cells (inC z) 102 (0,0))) (hm : most ≤ 9223372036854775807) :
  Calls Tryz.prog 30 #[.pointer (some ⟨b,0,none⟩),.int .i64 most] w fun e w' => e = .returned (.string (tx (textF z most).1)) ∧ Ext [b] w w' ∧ w'.heap[b]? = some (.cells (inC (textF z most).2) 102 (0,0)) := by
 refine enter [b] [] [(b,.cells (inC z) 102 (0,0))] Tryz.func30 rfl kr (HP.startM (R := []) (fun _ h => by cases h) hB (by simp)) ?_
 refine Rq [0,1] ?_
 refine Cfg.begL rfl ?_
 refine Lq 3 [5,6,7] ?_
 refine Lu (Eff.callM (.int .i64 ((boundF z most (5 : Int)).1 : Int)) 0 (b := b) (ob := .cells (inC z) 102 (0,0)) (.cells (inC ((boundF z most (5 : Int)).2)) 102 (0,0)) rfl Tryz.func59 rfl rfl kr kr (fun w1 h => wBounded b z most (5 : Int) w1 (h.own (b,_) (mG 0 rfl)) om)) ?_
 refine Lu (Eff.callM (.string (tx (nextF ((boundF z most (5 : Int)).2) ((boundF z most (5 : Int)).1 : Int)).1)) 0 (b := b) (ob := .cells (inC ((boundF z most (5 : Int)).2)) 102 (0,0)) (.cells (inC ((nextF ((boundF z most (5 : Int)).2) ((boundF z most (5 : Int)).1 : Int)).2)) 102 (0,0)) rfl Tryz.func52 rfl rfl kr kr (fun w1 h => wNext b ((boundF z most (5 : Int)).2) ((boundF z most (5 : Int)).1 : Int) w1 (h.own (b,_) (mG 0 rfl)))) ?_
 refine Ld 1 [4] ?_
 refine Cfg.ret rfl (rs := [.tmp 4]) rfl [.string (tx (nextF ((boundF z most (5 : Int)).2) ((boundF z most (5 : Int)).1 : Int)).1)] ⟨kr,trivial⟩ (fun w1 hp => ?_)
 exact ⟨rfl,hp.ext,hp.own (b,_) mH⟩
set_option maxRecDepth 100000 in
theorem wLeft (b : Nat) (z : IN) (w : World) (hB : w.heap[b]? = some (.cells (inC z) 102 (0,0))) :
  Calls Tryz.prog 60 #[.pointer (some ⟨b,0,none⟩)] w fun e w' => e = .returned (.int .i64 (z.rest.length : Int)) ∧ Ext [] w w' := by
 refine enter [] [(b,.cells (inC z) 102 (0,0))] [] Tryz.func60 rfl kr (HP.ofHas (fun e he => by rw [List.mem_singleton.1 he]; exact hB)) ?_
 refine Rq [0] ?_
 refine Rq [0,4] ?_
 refine Cfg.condF rfl (b := false) kr rfl ?_
 refine Rg [2] [dZ,dZ,dZ,(dS (.string (tx z.rest)))] (fun S => [(cE S b 1 (.string (tx z.rest)))]) ⟨(rC 0 rfl rfl),trivial⟩ ?_
 refine Cfg.ret rfl (rs := [.tmp 2]) rfl [.int .i64 ((tx z.rest).size : Int)] ⟨kr,trivial⟩ (fun w1 hp => ?_)
 exact ⟨by rw [tx_size]; rfl,hp.ext⟩
set_option maxRecDepth 100000 in
theorem wErr (b : Nat) (z : IN) (w : World) (hB : w.heap[b]? = some (.cells (inC z) 102 (0,0))) :
  Calls Tryz.prog 58 #[.pointer (some ⟨b,0,none⟩)] w fun e w' => e = .returned (.int .i64 z.er) ∧ Ext [] w w' := by
 refine enter [] [(b,.cells (inC z) 102 (0,0))] [] Tryz.func58 rfl kr (HP.ofHas (fun e he => by rw [List.mem_singleton.1 he]; exact hB)) ?_
 refine Rq [0] ?_
 refine Rq [0,4] ?_
 refine Cfg.condF rfl (b := false) kr rfl ?_
 refine Rg [2] [dZ,dZ,dZ,dZ,(dS (.int .i64 z.er))] (fun S => [(cE S b 0 (.int .i64 z.er))]) ⟨(rC 0 rfl rfl),trivial⟩ ?_
 refine Cfg.ret rfl (rs := [.tmp 2]) rfl [.int .i64 z.er] ⟨kr,trivial⟩ (fun w1 hp => ?_)
 exact ⟨rfl,hp.ext⟩
set_option maxRecDepth 100000 in
theorem wEnd (b : Nat) (z : IN) (w : World) (hB : w.heap[b]? = some (.cells (inC z) 102 (0,0))) :
  Calls Tryz.prog 31 #[.pointer (some ⟨b,0,none⟩)] w fun e w' => e = .returned (.int .i64 (endF z)) ∧ Ext [] w w' := by
 refine enter [] [(b,.cells (inC z) 102 (0,0))] [] Tryz.func31 rfl kr (HP.ofHas (fun e he => by rw [List.mem_singleton.1 he]; exact hB)) ?_
 refine Rq [0] ?_
 refine Cfg.begL rfl ?_
 refine Lp 1 [] none n0 trivial ?_
 refine Lu (Eff.callA (.int .i64 z.er) rfl Tryz.func58 rfl rfl kr (fun w1 h => wErr b z w1 (h.ro (b,_) mH))) ?_
 refine Ld 1 [0,3] ?_
 refine Rq [0,3,7] ?_
 refine Cfg.cond rfl (b := (z.er != (0 : Int))) kr (fun c1r => ?_) (fun c1r => ?_)
 ·have c1 := (bne_iff_ne.1 c1r)
  refine Rq [2] ?_
  refine Cfg.ret rfl (rs := [.tmp 2]) rfl [.int .i64 z.er] ⟨kr,trivial⟩ (fun w1 hp => ?_)
  exact ⟨by rw [show endF z = z.er from if_pos c1]; rfl,hp.ext⟩
 ·have c1 := (bne_eq_false_iff_eq.1 c1r)
  refine Cfg.begL rfl ?_
  refine Lq 1 [9] ?_
  refine Lu (Eff.callA (iN z.rest.length) rfl Tryz.func60 rfl rfl kr (fun w1 h => wLeft b z w1 (h.ro (b,_) mH))) ?_
  refine Ld 1 [11] ?_
  refine Cfg.cond rfl (b := (decide ((z.rest.length : Int) > (0 : Int)))) kr (fun c2r => ?_) (fun c2r => ?_)
  ·have c2 := (dT c2r)
   refine Cfg.reg rfl [2] [] (Γ' := [(2,[],.int .i64 4)]) (nd := (fun _ => [])) (fun _ => kr) trivial ?_
   refine Cfg.ret rfl (rs := [.tmp 2]) rfl [.int .i64 4] ⟨kr,trivial⟩ (fun w1 hp => ?_)
   exact ⟨by rw [show endF z = 4 from (if_neg om).trans (if_pos om)]; rfl,hp.ext⟩
  ·have c2 := (dF c2r)
   refine Rq [2] ?_
   refine Cfg.ret rfl (rs := [.tmp 2]) rfl [.int .i64 0] ⟨kr,trivial⟩ (fun w1 hp => ?_)
   exact ⟨by rw [show endF z = 0 from (if_neg om).trans (if_neg om)]; rfl,hp.ext⟩
set_option maxRecDepth 100000 in
theorem wTDigest (b : Nat) (z : IN) (w : World) (hB : w.heap[b]? = some (.cells (inC z) 102 (0,0))) :
  Calls Tryz.prog 27 #[.pointer (some ⟨b,0,none⟩)] w fun e w' => e = .returned (.agg (bv (digF z).1)) ∧ Ext [b] w w' ∧ w'.heap[b]? = some (.cells (inC (digF z).2) 102 (0,0)) := by
 have hnn := next_none z 32
 refine enter [b] [] [(b,.cells (inC z) 102 (0,0))] Tryz.func27 rfl kr (HP.startM (R := []) (fun _ h => by cases h) hB (by simp)) ?_
 refine Cfg.begL rfl ?_
 refine Le (Eff.alloc (z := (.agg (bv (List.replicate 32 0)))) rfl kr) ?_
 rintro rs ⟨hrs,nrs⟩
 refine CfgL.done rfl ?_
 refine Cfg.begL rfl ?_
 refine Le (Eff.alloc (z := (.agg (bv (List.replicate 32 0)))) rfl kr) ?_
 rintro d ⟨hd,nd⟩
 refine CfgL.done rfl ?_
 refine Cfg.begA rfl kr [(rs,.cells (bv (List.replicate 32 0)) 30 (0,0))] ?_
 refine Ap [0,1] [] (some [2,3,4,5]) (tF 2 2) (.cons _ (.cons_cons _ (.cons _ .slnil))) 2 (fun _ => [(32 ≤ 32)]) ⟨om,trivial⟩ ?_
 refine Au 2 rfl 1  (Eff.callM (.string (tx (nextF z (32 : Int)).1)) 2 (b := b) (ob := .cells (inC z) 102 (0,0)) (.cells (inC ((nextF z (32 : Int)).2)) 102 (0,0)) rfl Tryz.func52 rfl rfl kr kr (fun w1 h => wNext b z (32 : Int) w1 (h.own (b,_) (mG 2 rfl)))) (fun _ _ => (.cons _ (.cons_cons _ (.cons _ .slnil)))) ?_
 refine Au 3 rfl 0  (Eff.copyS rfl Tryz.underlying89 kr (b := d) (off := 0) (dl := 32) (c := 32) kr (s := (tx (nextF z (32 : Int)).1)) kr 0 (cs := (bv (List.replicate 32 0))) (te := 30) kr (min (tx (nextF z (32 : Int)).1).size 32) rfl (by rw [bv_size,List.length_replicate]; omega)) (fun _ _ => (.cons _ (.cons_cons _ (.cons _ .slnil)))) ?_
 refine CfgA.done kr ?_
 refine Cg (Γ' := [(3,[],pT d),(2,[],pT rs)]) ?_
 refine oB 0 rfl (show _ = (bv (dig32 (nextF z (32 : Int)).1)) from dig_spl hnn (by rw [tx_size])) ?_
 refine Cfg.begL rfl ?_
 refine Lp 1 [(dS (.agg (bv (dig32 (nextF z (32 : Int)).1))))] (some [2,8]) (fun S => [(∀ w1,S w1 → (loadVar 30 ⟨d,0,none⟩).run Tryz.prog w1 = .ok (.agg (bv (dig32 (nextF z (32 : Int)).1))) w1)]) ⟨(fun w1 h => h.oload 0 rfl Tryz.underlying30 rfl (n := 32) kr ((bv_size _).trans (dig32_len _))),trivial⟩ ?_
 refine Lu (Eff.storeN (b := rs) (off := 0) (vs := (bv (dig32 (nextF z (32 : Int)).1))) (n := 32) rfl kr kr kr ((bv_size _).trans (dig32_len _)) (all_bv _) 1 (cs := (bv (List.replicate 32 0))) (e := 30) kr (by rw [zsz32]; omega)) ?_
 refine oL 1 rfl (show _ = (bv (dig32 (nextF z (32 : Int)).1)) from spl_all (((bv_size _).trans (dig32_len _)).trans zsz32.symm)) ?_
 refine CfgL.done rfl ?_
 refine Cg (Γ' := [(2,[],pT rs)]) ?_
 refine Cfg.ret rfl (rs := [.cell 2 30]) rfl [.agg (bv (dig32 (nextF z (32 : Int)).1))] ⟨⟨_,by kernel_rfl,(fun w1 h => h.oload 1 rfl Tryz.underlying30 rfl (n := 32) kr ((bv_size _).trans (dig32_len _)))⟩,trivial⟩ (fun w1 hp => ?_)
 exact ⟨rfl,hp.ext,hp.own (b,_) (mG 2 rfl)⟩
end Go.Proofs.YtbeeelgfhfmgbaaGreatDoor
namespace Go.Proofs.YtbeeelgfhfmgbaaGreatDoor
open K
set_option linter.unusedVariables false
def nd (n i : Nat) : Nat := n / 256 ^ i
theorem inS_num (bk : Nat) (t : TypeId) (fr : Nat × Nat) (k : IntKind) (n : Nat) : InS [(bk,.cells #[.int k (n : Int)] t fr)] (some ⟨bk,0,none⟩) [n].length (fun j => .int k (([n].getD j 0 : Nat) : Int)) := by
 intro _
 refine ⟨bk,0,_,t,fr,rfl,List.mem_singleton.2 rfl,fun j hj => ?_⟩
 obtain rfl : j = 0 := by simpa using hj
 rfl
theorem one_get {n m : Nat} (h : n < m) (hm : 0 < m) (i : Nat) : [n].getD i 0 < m := by
 cases i with
 | zero => exact h
 | succ i => exact hm
theorem flat_one {α : Type} (f : α → List UInt8) (x : α) : flat f [x] = f x := by simp [flat]
theorem text4_len (s : ByteArray) : (text4 s).length = 4 + s.size := by unfold text4; rw [List.length_append,be_len,ba_len]
theorem inS_text (bk : Nat) (t : TypeId) (fr : Nat × Nat) (s : ByteArray) : InS [(bk,.cells #[.string s] t fr)] (some ⟨bk,0,none⟩) [s].length (fun j => .string ([s].getD j ByteArray.empty)) := by
 intro _
 refine ⟨bk,0,_,t,fr,rfl,List.mem_singleton.2 rfl,fun j hj => ?_⟩
 obtain rfl : j = 0 := by simpa using hj
 rfl
def rowsF {β : Type} (tk : IN → β × IN) : Nat → IN → List β → List β × IN
 | 0,z,acc => (acc,z)
 | k + 1,z,acc => if (tk z).2.er ≠ 0 then ([],(tk z).2) else rowsF tk k (tk z).2 (acc ++ [(tk z).1])
end Go.Proofs.YtbeeelgfhfmgbaaGreatDoor
namespace Go.Proofs.YtbeeelgfhfmgbaaGreatDoor
open K
set_option linter.unusedVariables false
theorem rowsF_succ {β : Type} {tk : IN → β × IN} {k : Nat} {z : IN} {acc : List β} (h : ¬ (tk z).2.er ≠ 0) : rowsF tk (k + 1) z acc = rowsF tk k (tk z).2 (acc ++ [(tk z).1]) := if_neg h
theorem rowsF_fail {β : Type} {tk : IN → β × IN} {k : Nat} {z : IN} {acc : List β} (h : (tk z).2.er ≠ 0) : rowsF tk (k + 1) z acc = ([],(tk z).2) := if_pos h
def rowsT {β : Type} (tk : IN → β × IN) (z : IN) (most : Int) : List β × IN := rowsF tk (boundF z most 6).1 (boundF z most 6).2 []
structure RowAt {β : Type} (tk : IN → β × IN) (n : Nat) (z0 : IN) (i : Nat) (z : IN) (acc : List β) : Prop where
 le : i ≤ n
 len : acc.length = i
 rest : rowsF tk (n - i) z acc = rowsF tk n z0 []
theorem RowAt.start {β : Type} (tk : IN → β × IN) (n : Nat) (z0 : IN) : RowAt tk n z0 0 z0 [] := ⟨Nat.zero_le _,rfl,by rw [Nat.sub_zero]⟩
theorem RowAt.next {β : Type} {tk : IN → β × IN} {n i : Nat} {z0 z : IN} {acc : List β} (h : RowAt tk n z0 i z acc) (hi : i < n) (he : (tk z).2.er = 0) : RowAt tk n z0 (i + 1) (tk z).2 (acc ++ [(tk z).1]) :=
 ⟨hi,by rw [List.length_append,h.len]; rfl,by rw [← h.rest,show n - i = (n - (i + 1)) + 1 by omega,rowsF_succ om]⟩
theorem RowAt.fail {β : Type} {tk : IN → β × IN} {n i : Nat} {z0 z : IN} {acc : List β} (h : RowAt tk n z0 i z acc) (hi : i < n) (he : (tk z).2.er ≠ 0) : rowsF tk n z0 [] = ([],(tk z).2) := by
 rw [← h.rest,show n - i = (n - (i + 1)) + 1 by omega,rowsF_fail he]
theorem RowAt.done {β : Type} {tk : IN → β × IN} {n : Nat} {z0 z : IN} {acc : List β} (h : RowAt tk n z0 n z acc) : rowsF tk n z0 [] = (acc,z) := by
 rw [← h.rest,Nat.sub_self]; rfl
theorem pow256 (k : Nat) : 256 ^ (k + 1) = 256 ^ k * 256 := Nat.pow_succ ..
theorem val_be (n : Nat) : ∀ (k m : Nat),(m + 1) * 256 ^ k ≤ 18446744073709551616 → (be n k).foldl vf m = m * 256 ^ k + n % 256 ^ k
 | 0,m,_ => by simp [be,Nat.mod_one]
 | k + 1,m,h => by
  have hk : 0 < 256 ^ k := Nat.pow_pos (by decide)
  have hb : (UInt8.ofNat (n / 256 ^ k)).toNat = n / 256 ^ k % 256 := by simp
  have hlt : n / 256 ^ k % 256 < 256 := Nat.mod_lt _ (by decide)
  rw [pow256,← Nat.mul_assoc,Nat.mul_right_comm] at h
  have hm : m * 256 + 256 ≤ 18446744073709551616 := Nat.le_trans (by have := Nat.mul_le_mul_left ((m + 1) * 256) hk; omega) h
  have hv : vf m (UInt8.ofNat (n / 256 ^ k)) = m * 256 + n / 256 ^ k % 256 := by unfold vf; rw [hb]; omega
  rw [be,List.foldl_cons,hv,val_be n k _ (Nat.le_trans (Nat.mul_le_mul_right _ om) h),pow256]
  have e1 : n % (256 ^ k * 256) = n % 256 ^ k + 256 ^ k * (n / 256 ^ k % 256) := Nat.mod_mul ..
  rw [e1,Nat.add_mul,Nat.mul_comm (n / 256 ^ k % 256) (256 ^ k),Nat.mul_assoc,Nat.mul_comm 256 (256 ^ k)]
  omega
theorem valF_be (n k : Nat) (hk : 256 ^ k ≤ 18446744073709551616) (hn : n < 256 ^ k) : valF (be n k) = n := by
 unfold valF
 rw [val_be n k 0 om,Nat.mod_eq_of_lt hn]; omega
theorem nextF_app (a r : List UInt8) {n : Int} (h : n = (a.length : Int)) : nextF ⟨0,a ++ r⟩ n = (a,⟨0,r⟩) := by
 subst h
 unfold nextF
 rw [if_neg (by simp),if_neg (by simp only [List.length_append]; omega)]
 simp
theorem fourF_app (n : Nat) (r : List UInt8) (h : n < 4294967296) : fourF ⟨0,four n ++ r⟩ = (n,⟨0,r⟩) := by
 unfold fourF
 rw [nextF_app (four n) r (by rw [show (four n).length = 4 from be_len _ _]; rfl),show valF (four n) = n from valF_be n 4 (by decide) h,Nat.mod_eq_of_lt h]
theorem eightF_app (n : Nat) (r : List UInt8) (h : n < 18446744073709551616) : eightF ⟨0,eight n ++ r⟩ = (n,⟨0,r⟩) := by
 unfold eightF
 rw [nextF_app (eight n) r (by rw [show (eight n).length = 8 from be_len _ _]; rfl),show valF (eight n) = n from valF_be n 8 (by decide) h]
theorem boundF_app (n : Nat) (r : List UInt8) {most e : Int} (h : n < 4294967296) (hm : (n : Int) ≤ most) : boundF ⟨0,four n ++ r⟩ most e = (n,⟨0,r⟩) := by
 unfold boundF
 rw [fourF_app n r h,if_neg (by split <;> simp only <;> omega)]
theorem textF_app (s : ByteArray) (r : List UInt8) {most : Int} (h : s.size < 4294967296) (hm : (s.size : Int) ≤ most) : textF ⟨0,text4 s ++ r⟩ most = (s.data.toList,⟨0,r⟩) := by
 unfold textF text4
 rw [List.append_assoc,show be s.size 4 = four s.size from rfl,boundF_app s.size (s.data.toList ++ r) h hm]
 exact nextF_app s.data.toList r (by rw [ba_len])
theorem digF_app (d r : List UInt8) (h : d.length = 32) : digF ⟨0,d ++ r⟩ = (d,⟨0,r⟩) := by
 unfold digF
 rw [nextF_app d r (by rw [h]; rfl),show dig32 d = d from if_pos h]
theorem be_mod (n : Nat) : ∀ k,be (n % 256 ^ k) k = be n k := by
 have key : ∀ (k j : Nat),k ≤ j → be (n % 256 ^ j) k = be n k := by
  intro k
  induction k with
  | zero => intro j _; rfl
  | succ k ih =>
   intro j hj
   rw [be,be,ih j om]
   congr 1
   apply UInt8.toNat_inj.1
   rw [UInt8.toNat_ofNat',UInt8.toNat_ofNat']
   have e : 256 ^ j = 256 ^ k * (256 * 256 ^ (j - (k + 1))) := by
    rw [← Nat.mul_assoc,← Nat.pow_succ,← Nat.pow_add]; congr 1; omega
   rw [e,Nat.mod_mul_right_div_self]
   show n / 256 ^ k % (256 * 256 ^ (j - (k + 1))) % 256 = n / 256 ^ k % 256
   exact Nat.mod_mul_right_mod _ _ _
 exact fun k => key k k (Nat.le_refl _)
theorem val_split : ∀ (l : List UInt8) (m : Nat),(m + 1) * 256 ^ l.length ≤ 18446744073709551616 → l.foldl vf m = m * 256 ^ l.length + l.foldl vf 0 ∧ l.foldl vf 0 < 256 ^ l.length
 | [],m,_ => by simp
 | b :: l,m,h => by
  have hb : b.toNat < 256 := UInt8.toNat_lt b
  have hk : 0 < 256 ^ l.length := Nat.pow_pos (by decide)
  rw [List.length_cons,pow256,← Nat.mul_assoc,Nat.mul_right_comm] at h
  have hm : m * 256 + 256 ≤ 18446744073709551616 := Nat.le_trans (by have := Nat.mul_le_mul_left ((m + 1) * 256) hk; omega) h
  have e1 : vf m b = m * 256 + b.toNat := by unfold vf; omega
  have e0 : vf 0 b = b.toNat := by unfold vf; omega
  have h1 : (m * 256 + b.toNat + 1) * 256 ^ l.length ≤ 18446744073709551616 := Nat.le_trans (Nat.mul_le_mul_right _ om) h
  have h2 : (b.toNat + 1) * 256 ^ l.length ≤ 18446744073709551616 := Nat.le_trans (Nat.mul_le_mul_right _ om) h
  obtain ⟨i1,i2⟩ := val_split l (m * 256 + b.toNat) h1
  obtain ⟨j1,_⟩ := val_split l b.toNat h2
  rw [List.foldl_cons,List.foldl_cons,e1,e0,i1,j1,List.length_cons,pow256]
  refine ⟨?_,?_⟩
  ·rw [Nat.add_mul,Nat.mul_assoc m 256,Nat.mul_comm 256 (256 ^ l.length),Nat.add_assoc]
  ·have h3 : (b.toNat + 1) * 256 ^ l.length ≤ 256 * 256 ^ l.length := Nat.mul_le_mul_right _ om
   rw [Nat.add_mul,Nat.one_mul] at h3
   rw [Nat.mul_comm (256 ^ l.length) 256]
   omega
theorem be_val : ∀ (l : List UInt8),256 ^ l.length ≤ 18446744073709551616 → be (valF l) l.length = l
 | [],_ => rfl
 | b :: l,h => by
  have hb : b.toNat < 256 := UInt8.toNat_lt b
  have hk : 0 < 256 ^ l.length := Nat.pow_pos (by decide)
  rw [List.length_cons,pow256] at h
  have h2 : (b.toNat + 1) * 256 ^ l.length ≤ 18446744073709551616 := Nat.le_trans (by rw [Nat.mul_comm (256 ^ l.length) 256]; exact Nat.mul_le_mul_right _ om) h
  have h3 : 256 ^ l.length ≤ 18446744073709551616 := Nat.le_trans (Nat.le_mul_of_pos_right _ (by decide)) h
  obtain ⟨i1,i2⟩ := val_split l b.toNat h2
  have e0 : vf 0 b = b.toNat := by unfold vf; omega
  have e1 : valF (b :: l) = b.toNat * 256 ^ l.length + valF l := by unfold valF; rw [List.foldl_cons,e0,i1]
  have i2 : valF l < 256 ^ l.length := i2
  rw [List.length_cons,be,e1]
  have d1 : (b.toNat * 256 ^ l.length + valF l) / 256 ^ l.length = b.toNat := by
   rw [Nat.mul_comm,Nat.mul_add_div hk,Nat.div_eq_of_lt i2,Nat.add_zero]
  have d2 : be (b.toNat * 256 ^ l.length + valF l) l.length = be (valF l) l.length := by
   rw [← be_mod (b.toNat * 256 ^ l.length + valF l),Nat.mul_comm,Nat.mul_add_mod,Nat.mod_eq_of_lt i2]
  rw [d1,d2,be_val l h3]
  congr 1
  exact UInt8.toNat_inj.1 (by simp)
theorem next_ok {z : IN} {n : Int} (h : (nextF z n).2.er = 0) : z.er = 0 ∧ z.rest = (nextF z n).1 ++ (nextF z n).2.rest ∧ 0 ≤ n ∧ (nextF z n).1.length = n.toNat := by
 unfold nextF at h ⊢
 split at h
 ·rename_i h0; exact absurd h h0
 ·rename_i h0
  rw [if_neg h0]
  split at h
  ·exact absurd h (show ¬ (3 : Int) = 0 by decide)
  ·rename_i h1
   rw [if_neg h1]
   exact ⟨h,by simp,by omega,by simp; omega⟩
theorem next_bad {z : IN} {n : Int} (h : z.er ≠ 0) : nextF z n = ([],z) := if_pos h
theorem fail_er (z : IN) {e : Int} (he : e ≠ 0) : (failF z e).er ≠ 0 := by
 unfold failF; split
 ·exact he
 ·assumption
theorem four_bad {z : IN} (h : z.er ≠ 0) : fourF z = (0,z) := by unfold fourF; rw [next_bad h]; rfl
theorem dig_bad {z : IN} (h : z.er ≠ 0) : (digF z).2 = z := by unfold digF; rw [next_bad h]
theorem four_ok {z : IN} (h : (fourF z).2.er = 0) : z.er = 0 ∧ z.rest = four (fourF z).1 ++ (fourF z).2.rest := by
 obtain ⟨h1,h2,_,h4⟩ := next_ok (z := z) (n := 4) h
 refine ⟨h1,?_⟩
 have h5 : (nextF z 4).1.length = 4 := h4
 have h6 : four (fourF z).1 = (nextF z 4).1 := by
  unfold fourF four
  have h7 := be_mod (valF (nextF z 4).1) 4
  rw [show (256 : Nat) ^ 4 = 4294967296 from rfl] at h7
  rw [h7,← h5,be_val _ (by rw [h5]; decide)]
 rw [h6]; exact h2
theorem eight_ok {z : IN} (h : (eightF z).2.er = 0) : z.er = 0 ∧ z.rest = eight (eightF z).1 ++ (eightF z).2.rest := by
 obtain ⟨h1,h2,_,h4⟩ := next_ok (z := z) (n := 8) h
 refine ⟨h1,?_⟩
 have h5 : (nextF z 8).1.length = 8 := h4
 have h6 : eight (eightF z).1 = (nextF z 8).1 := by
  unfold eightF eight
  rw [← h5,be_val _ (by rw [h5]; decide)]
 rw [h6]; exact h2
theorem bound_ok {z : IN} {most e : Int} (he : e ≠ 0) (h : (boundF z most e).2.er = 0) : z.er = 0 ∧ z.rest = four (boundF z most e).1 ++ (boundF z most e).2.rest ∧ (boundF z most e).1 ≤ (if 0 > most then 0 else most).toNat := by
 by_cases h0 : (fourF z).1 > (if 0 > most then 0 else most).toNat
 ·have e1 : boundF z most e = (0,failF (fourF z).2 e) := if_pos h0
  rw [e1] at h
  exact absurd h (fail_er _ he)
 ·have e1 : boundF z most e = fourF z := if_neg h0
  rw [e1] at h ⊢
  obtain ⟨h1,h2⟩ := four_ok h
  exact ⟨h1,h2,by omega⟩
theorem text_ok {z : IN} {most : Int} (h : (textF z most).2.er = 0) : z.er = 0 ∧ z.rest = text4 (tx (textF z most).1) ++ (textF z most).2.rest := by
 obtain ⟨h1,h2,h3,h4⟩ := next_ok (z := (boundF z most 5).2) h
 obtain ⟨g1,g2,_⟩ := bound_ok (by decide) h1
 refine ⟨g1,?_⟩
 have h5 : (textF z most).1.length = (boundF z most 5).1 := h4.trans (Int.toNat_natCast _)
 rw [g2,h2]
 unfold text4
 rw [tx_size,h5,tx_list,← List.append_assoc]; rfl
theorem dig_ok {z : IN} (h : (digF z).2.er = 0) : z.er = 0 ∧ z.rest = (digF z).1 ++ (digF z).2.rest := by
 obtain ⟨h1,h2,_,h4⟩ := next_ok (z := z) (n := 32) h
 refine ⟨h1,?_⟩
 have h6 : (digF z).1 = (nextF z 32).1 := if_pos h4
 rw [h6]; exact h2
theorem rows_ok {β : Type} {tk : IN → β × IN} {f : β → List UInt8} (hb : ∀ z,z.er ≠ 0 → (tk z).2 = z) (ht : ∀ z,(tk z).2.er = 0 → z.er = 0 ∧ z.rest = f (tk z).1 ++ (tk z).2.rest) : ∀ (k : Nat) (z : IN) (acc : List β),(rowsF tk k z acc).2.er = 0 → z.er = 0 ∧ ∃ l : List β,(rowsF tk k z acc).1 = acc ++ l ∧ l.length = k ∧ z.rest = flat f l ++ (rowsF tk k z acc).2.rest
 | 0,z,acc,h => ⟨h,[],by simp [rowsF],rfl,by simp [rowsF,flat]⟩
 | k + 1,z,acc,h => by
  rw [rowsF] at h ⊢
  split at h
  ·rename_i h0; exact absurd h h0
  ·rename_i h0
   rw [if_neg h0]
   obtain ⟨h1,l,h2,h3,h4⟩ := rows_ok hb ht k (tk z).2 (acc ++ [(tk z).1]) h
   obtain ⟨g1,g2⟩ := ht z h1
   refine ⟨g1,(tk z).1 :: l,by rw [h2,List.append_assoc]; rfl,by rw [List.length_cons,h3],?_⟩
   rw [g2,h4]
   simp [flat]
theorem rows_app {β : Type} {tk : IN → β × IN} {f : β → List UInt8} : ∀ (xs : List β) (r : List UInt8) (acc : List β),(∀ x ∈ xs,∀ r,tk ⟨0,f x ++ r⟩ = (x,⟨0,r⟩)) → rowsF tk xs.length ⟨0,flat f xs ++ r⟩ acc = (acc ++ xs,⟨0,r⟩)
 | [],r,acc,_ => by simp [rowsF,flat]
 | x :: xs,r,acc,h => by
  have hx := h x mH (flat f xs ++ r)
  have hf : flat f (x :: xs) ++ r = f x ++ (flat f xs ++ r) := by simp [flat]
  rw [List.length_cons,hf,rowsF_succ (by rw [hx]; simp),hx,rows_app xs r _ (fun y hy => h y (List.mem_cons_of_mem _ hy)),List.append_assoc]
  rfl
end Go.Proofs.YtbeeelgfhfmgbaaGreatDoor
namespace Go.Proofs.YtbeeelgfhfmgbaaGreatDoor
namespace K
open Go.ChangeShapes Go.WideShapes
section
variable {H : Type} {enc : TypeId × Value → H} {P : Program} {w : World} {base : Nat} {spare : Nat → Bool} {held : Bool}
theorem wf_u8 {n : Int} (h : (Lit.int .u8 n).wf = true) : 0 ≤ n ∧ n ≤ 255 := by
 simp [Lit.wf,IntKind.min,IntKind.max,IntKind.signed,IntKind.bits] at h
 omega
def toB : Value → UInt8
 | .int _ n => UInt8.ofNat n.toNat
 | _ => 0
theorem trod_u8 {e : TypeId} {fuel : Nat} {v : Value} {x : DataW H × List MemPlace} (he : P.underlying e = some (.int .u8)) (h : DataW.trod enc P w base spare held fuel e [v] = some x) : v = .int .u8 ((toB v).toNat : Int) := by
 obtain ⟨n,hn,_,hw⟩ := DataW.trod_int he h
 simp only [List.cons.injEq,and_true] at hn
 subst hn
 have := wf_u8 hw
 simp only [toB,UInt8.toNat_ofNat']
 congr 1
 omega
theorem trod_bytes {t e : TypeId} {n fuel : Nat} {cs : List Value} {x : DataW H × List MemPlace} (ht : P.underlying t = some (.array n e)) (he : P.underlying e = some (.int .u8)) (hce : P.cellsOf e = 1) (hct : P.cellsOf t = n)
  (h : DataW.trod enc P w base spare held fuel t cs = some x) : (cs.map toB).length = n ∧ cs.toArray = bv (cs.map toB) := by
 obtain ⟨xs,m,_,_,hl,hx,hi⟩ := DataW.trod_array ht h
 rw [hct] at hl
 refine ⟨by simpa using hl,?_⟩
 apply Array.ext'
 simp only [bv,List.map_map]
 apply List.ext_getElem?
 intro i
 by_cases hlt : i < n
 ·have h1 := hi i hlt
  rw [hce,Nat.mul_one,List.drop_eq_getElem_cons om,List.take_succ_cons,List.take_zero] at h1
  have hxs : xs[i]? = some (xs[i]'om) := List.getElem?_eq_getElem om
  rw [hxs] at h1
  have h2 := trod_u8 he h1
  rw [List.getElem?_map,List.getElem?_eq_getElem (show i < cs.length by omega),Option.map_some,Function.comp]
  rw [← h2]
 ·rw [List.getElem?_eq_none om,List.getElem?_eq_none (by simp; omega)]
end
end K
end Go.Proofs.YtbeeelgfhfmgbaaGreatDoor
namespace Go.Proofs.YtbeeelgfhfmgbaaGreatDoor
namespace K
open Go.ChangeShapes Go.WideShapes
theorem InS.more {R R' : List (Nat × Obj)} {la : Option Addr} {k : Nat} {f g : Nat → Value} (h : InS R la k f) (hR : ∀ x ∈ R,x ∈ R') (hf : ∀ j,j < k → f j = g j) : InS R' la k g := by
 intro hk
 obtain ⟨b,off,cs,t,fr,h1,h2,h3⟩ := h hk
 exact ⟨b,off,cs,t,fr,h1,hR _ h2,fun j hj => by rw [h3 j hj,hf j hj]⟩
theorem Has.app {w : World} {R R' : List (Nat × Obj)} (h : Has w R) (h' : Has w R') : Has w (R ++ R') := by
 intro x hx
 rcases List.mem_append.1 hx with hx | hx
 ·exact h x hx
 ·exact h' x hx
section
variable {H : Type} {enc : TypeId × Value → H} {P : Program} {w : World} {base : Nat} {held : Bool}
theorem wf_u32 (n : Int) (h : (Lit.int .u32 n).wf = true) : 0 ≤ n ∧ n < ((4294967296 : Nat) : Int) := by
 simp [Lit.wf,IntKind.min,IntKind.max,IntKind.signed,IntKind.bits] at h
 omega
theorem wf_u64 (n : Int) (h : (Lit.int .u64 n).wf = true) : 0 ≤ n ∧ n < ((18446744073709551616 : Nat) : Int) := by
 simp [Lit.wf,IntKind.min,IntKind.max,IntKind.signed,IntKind.bits] at h
 omega
end
end K
end Go.Proofs.YtbeeelgfhfmgbaaGreatDoor
namespace Go.Proofs.YtbeeelgfhfmgbaaGreatDoor
namespace K
open Go.ChangeShapes Go.WideShapes
theorem flat_get {α : Type} (f : α → List Value) (sz : Nat) : ∀ {l : List α},(∀ x ∈ l,(f x).length = sz) → ∀ {i j : Nat} (hi : i < l.length),j < sz → (l.flatMap f)[i * sz + j]? = (f l[i])[j]?
 | [],_,i,j,hi,_ => by simp at hi
 | x :: l,h,i,j,hi,hj => by
  have hx := h x mH
  rw [List.flatMap_cons]
  cases i with
  | zero => rw [Nat.zero_mul,Nat.zero_add,List.getElem?_append_left om]; rfl
  | succ i =>
   rw [List.getElem?_append_right (by rw [hx,Nat.succ_mul]; omega),hx,show (i + 1) * sz + j - sz = i * sz + j by rw [Nat.succ_mul]; omega]
   exact flat_get f sz (fun y hy => h y (List.mem_cons_of_mem _ hy)) (by simpa using hi) hj
section
variable {H : Type} {enc : TypeId × Value → H} {P : Program} {w : World} {base : Nat} {held : Bool}
end
end K
end Go.Proofs.YtbeeelgfhfmgbaaGreatDoor
namespace Go.Proofs.YtbeeelgfhfmgbaaGreatDoor
namespace K
def InF {α : Type} (f : α → List Value) (sz : Nat) (Rl : List (Nat × Obj)) (la : Option Addr) (l : List α) : Prop := InS Rl la (l.length * sz) (fun j => (l.flatMap f).getD j undef)
theorem InF.mono {α : Type} {f : α → List Value} {sz : Nat} {Rl Rl' : List (Nat × Obj)} {la : Option Addr} {l : List α} (h : InF f sz Rl la l) (hR : ∀ e ∈ Rl,e ∈ Rl') : InF f sz Rl' la l := InS.mono h hR
theorem fl_cell {α : Type} {f : α → List Value} {sz : Nat} {l : List α} (z : α) (hsz : ∀ x ∈ l,(f x).length = sz) {cs : Array Value} {off i : Nat} (hcs : ∀ j,j < l.length * sz → cs[off + j]? = some ((l.flatMap f).getD j undef)) (hi : i < l.length) {j : Nat} {v : Value} (hv : (f (l.getD i z))[j]? = some v) : cs[off + i * sz + j]? = some v := by
 have e : l.getD i z = l[i] := by rw [List.getD_eq_getElem?_getD,List.getElem?_eq_getElem hi]; rfl
 rw [e] at hv
 have hj : j < sz := by have := (List.getElem?_eq_some_iff.1 hv).1; rw [hsz _ (List.getElem_mem hi)] at this; exact this
 have h1 := flat_get f sz hsz hi hj
 have hlt : i * sz + j < l.length * sz := by
  have : i * sz + sz ≤ l.length * sz := by rw [← Nat.succ_mul]; exact Nat.mul_le_mul_right _ hi
  omega
 rw [Nat.add_assoc,hcs _ hlt,List.getD_eq_getElem?_getD,h1,hv]; rfl
theorem fl_one {α : Type} {g : α → Value} {l : List α} (z : α) {cs : Array Value} {off i : Nat} (hcs : ∀ j,j < l.length * 1 → cs[off + j]? = some ((l.flatMap fun x => [g x]).getD j undef)) (hi : i < l.length) : cs[off + i]? = some (g (l.getD i z)) := by
 have := fl_cell (f := fun x => [g x]) z (fun x _ => rfl) hcs hi (j := 0) (v := g (l.getD i z)) rfl
 rw [Nat.mul_one,Nat.add_zero] at this; exact this
theorem flat_len {α : Type} {f : α → List Value} {sz : Nat} : ∀ {l : List α},(∀ x ∈ l,(f x).length = sz) → (l.flatMap f).length = l.length * sz
 | [],_ => by simp
 | x :: l,h => by rw [List.flatMap_cons,List.length_append,h x mH,flat_len (fun y hy => h y (List.mem_cons_of_mem _ hy)),List.length_cons,Nat.succ_mul,Nat.add_comm]
theorem own_inf {α : Type} {f : α → List Value} {sz : Nat} {o : Own} {e : TypeId} {l : List α} (hok : OwnOk o sz l.length (l.flatMap f)) : InF f sz (o.o e (l.flatMap f)) o.a l := by
 intro hn
 have hn1 : 0 < l.length := Nat.pos_of_ne_zero (fun h => by rw [h,Nat.zero_mul] at hn; omega)
 obtain ⟨p,rfl⟩ := own_some hok hn1
 refine ⟨p.1,0,_,e,(0,0),rfl,mH,fun j hj => ?_⟩
 have hl := hok.len
 rw [Nat.zero_add]
 simp only [List.getElem?_toArray]
 rw [List.getElem?_append_left om,List.getD_eq_getElem?_getD,List.getElem?_eq_getElem om]; rfl
theorem getD_at {α : Type} {l : List α} {i : Nat} {z : α} (h : i < l.length) : l.getD i z = l[i] := by rw [List.getD_eq_getElem?_getD,List.getElem?_eq_getElem h]; rfl
theorem getD_mem {α : Type} {l : List α} {i : Nat} {z : α} (h : i < l.length) : l.getD i z ∈ l := by rw [getD_at h]; exact List.getElem_mem h
theorem list_ne_len {α : Type} [DecidableEq α] {l m : List α} (h : l.length ≠ m.length) : decide (l = m) = false := decide_eq_false (fun e => h (by rw [e]))
theorem list_ne_at {α : Type} [DecidableEq α] {l m : List α} {i : Nat} (z : α) (h : l.getD i z ≠ m.getD i z) : decide (l = m) = false := decide_eq_false (fun e => h (by rw [e]))
theorem list_eq_at {α : Type} [DecidableEq α] {l m : List α} (z : α) (hl : l.length = m.length) (h : ∀ j,j < l.length → l.getD j z = m.getD j z) : decide (l = m) = true := by
 refine decide_eq_true (List.ext_getElem hl fun i h1 h2 => ?_)
 have := h i h1
 rw [getD_at h1,getD_at h2] at this; exact this
section
variable {C : Cx} {R O : List (Nat × Obj)} {Γ : Env} {op : Oper}
theorem Eff.appendA {t e : TypeId} {x1 x2 : Operand} (ho : op.op = .call ⟨.builtin .append,#[x1,x2],#[t,t]⟩) (sz bytes : Nat) (ht : C.P.underlying t = some (.slice e)) (hsz : (C.P.info? e).map (fun i => (i.size,i.bytes)) = some (sz,bytes))
  {z : Value} (hz0 : (C.P.info? e).bind (·.zero) = some z) (hzs : z.cells.size = sz) (own : Own) {n : Nat} {xs : List Value} (hok : OwnOk own sz n xs) (h1 : opd Γ [] x1 = some (.slice own.a n own.c))
  (a2 : Addr) {m c2 : Nat} (h2 : opd Γ [] x2 = some (.slice (some a2) m c2)) (news : List Value) (hl : news.length = m * sz) (hone : ∀ v ∈ news,K.one v = true)
  (hsrc : ∀ w,HP C.w0 C.M R O w → ∀ j v,news[j]? = some v → w.cell? (a2.add j) = some v) (O1 : LO) (hO : O = own.o e xs ++ O1) (hroom : (n + m) * bytes ≤ 140737488355328) (h63 : n + m ≤ 9223372036854775807) :
  Eff C R O Γ op Own (fun o => .slice o.a (n + m) o.c) (fun o => o.o e (xs ++ news) ++ O1) (fun o => OwnOk o sz (n + m) (xs ++ news)) := by
 refine Eff.of_run fun a w hs hp => ?_
 obtain ⟨inf,hi,hse⟩ := Option.map_eq_some_iff.1 hsz
 obtain ⟨inf',hi',hz⟩ := Option.bind_eq_some_iff.1 hz0
 rw [hi] at hi'
 simp only [Option.some.injEq] at hi'
 subst hi'
 simp only [Prod.mk.injEq] at hse
 obtain ⟨rfl,rfl⟩ := hse
 have hnews : ∀ j v,news[j]? = some v → w.cell? (Addr.add a2 j) = some v := fun j v hj => hsrc w hp j v hj
 have hlen : (xs ++ news).length = (n + m) * inf.size := by rw [List.length_append,hok.len,hl,Nat.add_mul]
 have hex : ∀ {v : Value} {w' : World},(Builtin.append_ #[t,t] op.type #[a.eval x1,a.eval x2]).run C.P w = .ok v w' → (execOp a.eval op).run C.P w = .ok (.value v) w' := by
  intro v w' h
  simp [execOp,ho,resolve,invoke,builtin,h]
 have e1 := opd_ok hs (holds_nil _) h1
 have e2 := opd_ok hs (holds_nil _) h2
 have fresh : ∀ (c : Nat),n + m ≤ c → HP C.w0 C.M R O1 w → HP C.w0 C.M R (Own.o e (xs ++ news) (some (w.heap.size,c,(Builtin.zeroCells z.cells (c - (n + m))).toList)) ++ O1) (w.drew.alloc (.cells (xs.toArray ++ news.toArray ++ Builtin.zeroCells z.cells (c - (n + m))) e)) ∧
   OwnOk (some (w.heap.size,c,(Builtin.zeroCells z.cells (c - (n + m))).toList)) inf.size (n + m) (xs ++ news) := by
  intro c hc hp1
  have hp2 := (hp1.calm (ext_drew w)).alloc (.cells (xs.toArray ++ news.toArray ++ Builtin.zeroCells z.cells (c - (n + m))) e (0,0))
  refine ⟨?_,hlen,fun h => (by cases h),fun p hp' => ?_⟩
  ·have e3 : (xs.toArray ++ news.toArray ++ Builtin.zeroCells z.cells (c - (n + m))) = (xs ++ news ++ (Builtin.zeroCells z.cells (c - (n + m))).toList).toArray := by
    apply Array.ext'
    simp
   rw [e3] at hp2 ⊢
   exact hp2
  ·simp only [Option.some.injEq] at hp'
   subst hp'
   refine ⟨?_,hc⟩
   simp only [Array.length_toList,zeroCells_size,hzs,hlen,← Nat.add_mul]
   congr 1
   omega
 cases own with
 | none =>
  have hn := hok.nil rfl
  subst hn
  have hx : xs = [] := List.eq_nil_of_length_eq_zero (by simpa using hok.len)
  subst hx
  simp only [Own.o,List.nil_append] at hO
  subst hO
  by_cases hm : m = 0
  ·subst hm
   have hnn : news = [] := List.eq_nil_of_length_eq_zero (by simpa using hl)
   subst hnn
   refine ⟨none,w,OwnOk.none _,hex ?_,hp⟩
   rw [e1,e2]
   simp [Builtin.append_,run_underlying' ht,run_sizeOf' hi,Builtin.lenOf,Builtin.firstCells,loadCells,loadCellsFrom,Own.a,Own.c]
  ·obtain ⟨f1,f2⟩ := fresh (grownCap w m 0 e) (by have := grownCap_ge w m 0 e; omega) hp
   refine ⟨some (w.heap.size,grownCap w m 0 e,_),_,f2,hex ?_,f1⟩
   rw [e1,e2]
   have hr := run_append_nil (P := C.P) w t op.type e inf z ht hi hz a2 m c2 news hl hnews om om (by simp only [Nat.zero_add] at hroom; omega)
   simp only [Own.a,Own.c,Nat.zero_add,Array.empty_append] at hr ⊢
   exact hr
 | some p =>
  obtain ⟨b,cap,junk⟩ := p
  obtain ⟨hj,hnc⟩ := hok.some _ rfl
  simp only at hj hnc
  have hget : O[0]? = some (b,.cells (xs ++ junk).toArray e (0,0)) := by rw [hO]; rfl
  have hb := hp.own _ (List.mem_of_getElem? hget)
  have hp1 : HP C.w0 C.M R O1 w := hp.sub (by rw [hO]; exact List.sublist_append_right _ _)
  by_cases hr : n + m ≤ cap
  ·have hfit : n * inf.size + news.length ≤ (xs ++ junk).toArray.size := by
    simp only [List.size_toArray,List.length_append,hj,hl,← Nat.add_mul]
    exact Nat.mul_le_mul_right _ hr
   have hrun := Go.run_append_room (P := C.P) w t op.type e inf ht hi b n cap (xs ++ junk).toArray hb a2 m c2 news hl hnews (fun u hu => one_cell (hone u hu)) hr hfit
   have e3 : ((xs ++ junk).toArray.toList.take (n * inf.size) ++ news ++ (xs ++ junk).toArray.toList.drop (n * inf.size + news.length)) = xs ++ news ++ junk.drop news.length := by
    rw [← hok.len]
    simp [List.drop_append,List.drop_eq_nil_of_le (show xs.length ≤ xs.length + news.length by omega)]
   rw [e3] at hrun
   refine ⟨some (b,cap,junk.drop news.length),_,⟨hlen,fun h => (by cases h),fun p hp' => ?_⟩,hex (by rw [e1,e2]; exact hrun),?_⟩
   ·simp only [Option.some.injEq] at hp'
    subst hp'
    refine ⟨?_,hr⟩
    have hle : news.length ≤ junk.length := by
     simp only [List.size_toArray,List.length_append,← hok.len] at hfit
     omega
    simp only [List.length_append,List.length_drop]
    omega
   ·have := hp.set 0 (.cells (xs ++ news ++ junk.drop news.length).toArray e (0,0)) hget (setRow_get hb) rfl rfl rfl
    rw [hO] at this
    exact this
  ·obtain ⟨f1,f2⟩ := fresh (grownCap w (n + m) cap e) (grownCap_ge w (n + m) cap e) hp1
   have holds : ∀ j v,xs[j]? = some v → w.cell? (Addr.add ⟨b,0,none⟩ j) = some v := fun j v hjv => by
    rw [add_none,Nat.zero_add,cell_cells hb]
    have hlt : j < xs.length := (List.getElem?_eq_some_iff.1 hjv).1
    simp [List.getElem?_append_left hlt,hjv]
   have hrun := Go.run_append_grow (P := C.P) w t op.type e inf z ht hi hz ⟨b,0,none⟩ n cap xs hok.len holds a2 m c2 news hl hnews om om (growslice_fits om hroom)
   exact ⟨some (w.heap.size,grownCap w (n + m) cap e,_),_,f2,hex (by rw [e1,e2]; exact hrun),f1⟩
end
end K
end Go.Proofs.YtbeeelgfhfmgbaaGreatDoor
namespace Go.Proofs.YtbeeelgfhfmgbaaGreatDoor
namespace K
section
variable {C : Cx} {R O : List (Nat × Obj)} {Γ : Env} {op : Oper}
theorem Eff.callVC {x : Operand} {f : FuncId} {fn : Func} {c : Code} {xs : List Operand} {tys : Array TypeId} (caps : List Value) (ho : op.op = .call ⟨.value x,xs.toArray,tys⟩) (hxv : opd Γ [] x = some (.func (.func f) #[] caps.toArray)) (hf : C.P.funcs[f]? = some fn) (hnm : (fn.name == "runtime.NumGoroutine") = false) (hb : fn.body = some c)
  {vs : List Value} (hx : opds Γ xs = some vs) {ι : Type} {V : ι → Value} {O' : ι → LO} {F : ι → Prop}
  (h : ∀ w,HP C.w0 C.M R O w → Calls C.P f (vs ++ caps).toArray w fun e w' => ∃ x,F x ∧ e = .returned (V x) ∧ HP C.w0 C.M R (O' x) w') : Eff C R O Γ op ι V O' F := by
 intro a w hs hp Kt Q hK
 have hargs := opds_ok hs hx
 have hv := opd_ok hs (holds_nil _) hxv
 have hrun : (execOp a.eval op).run C.P w = .ok (.enter f (vs ++ caps).toArray) w := by
  simp [execOp,ho,resolve,Deferred.ofValue,hv,invoke,hargs,run_callFunc hf hnm hb]
 unfold Oper.wp
 rw [hrun]
 refine (h w hp).mono ?_
 rintro e w' ⟨x,hx,rfl,hp'⟩
 exact hK x w' hx hp'
theorem Eff.callAVC {x : Operand} {f : FuncId} {fn : Func} {c : Code} {xs : List Operand} {tys : Array TypeId} {vs : List Value} (v : Value) (caps : List Value) (ho : op.op = .call ⟨.value x,xs.toArray,tys⟩) (hxv : opd Γ [] x = some (.func (.func f) #[] caps.toArray)) (hf : C.P.funcs[f]? = some fn)
  (hnm : (fn.name == "runtime.NumGoroutine") = false) (hb : fn.body = some c) (hx : opds Γ xs = some vs)
  (h : ∀ w,HP C.w0 C.M R O w → Calls C.P f (vs ++ caps).toArray w fun e w' => e = .returned v ∧ Ext [] w w') : Eff C R O Γ op Unit (fun _ => v) (fun _ => O) (fun _ => True) :=
 Eff.callVC caps ho hxv hf hnm hb hx fun w hp => (h w hp).mono fun _ _ hh => ⟨(),trivial,hh.1,hp.calm hh.2⟩
end
theorem load_list {P : Program} {w : World} {b off n : Nat} {ty : TypeId} {d : TypeDesc} {vs : List Value} (hu : P.underlying ty = some d) (hd : (match d with | .struct _ | .array _ _ => true | _ => false) = true) (hi : (P.info? ty).map (·.size) = some n) (hl : vs.length = n)
  (h : ∀ j v,vs[j]? = some v → w.cell? ⟨b,off + j,none⟩ = some v) : (loadVar ty ⟨b,off,none⟩).run P w = .ok (.agg vs.toArray) w := by
 obtain ⟨inf,hinf,hs⟩ := Option.map_eq_some_iff.1 hi
 have h1 := run_loadCells_list (P := P) w ⟨b,off,none⟩ vs (fun j v hj => by rw [add_none]; exact h j v hj)
 rw [hl] at h1
 have h3 : (isAgg ty).run P w = .ok true w := by
  simp only [isAgg,Sem.run_bind,run_underlying' hu,Result.andThen_ok]
  cases d <;> simp_all
 have h4 : (sizeOf ty).run P w = .ok n w := by rw [run_sizeOf' hinf,hs]
 simp [loadVar,h3,h4,h1]
end K
end Go.Proofs.YtbeeelgfhfmgbaaGreatDoor
namespace Go.Proofs.YtbeeelgfhfmgbaaGreatDoor
open K
set_option linter.unusedVariables false
abbrev Ed := Nat × Nat × Nat
structure RowU where
 a : Option Addr
 c : Nat
 xs : List Nat
def u32c (n : Nat) : List Value := [.int .u32 (n : Int)]
def edc (e : Ed) : List Value := [.int .u32 (e.1 : Int),.int .u32 (e.2.1 : Int),.int .u32 (e.2.2 : Int)]
def dgc (d : List UInt8) : List Value := (bv d).toList
def rowc (r : RowU) : List Value := [.slice r.a r.xs.length r.c]
theorem edc_len (e : Ed) : (edc e).length = 3 := rfl
theorem dgc_len {d : List UInt8} (h : d.length = 32) : (dgc d).length = 32 := by unfold dgc; rw [Array.length_toList,bv_size,h]
def D32 (l : List (List UInt8)) : Prop := ∀ d ∈ l,d.length = 32
theorem D32.at {l : List (List UInt8)} (h : D32 l) {i : Nat} (hi : i < l.length) : (l.getD i []).length = 32 := h _ (getD_mem hi)
def ez : Ed := (0,0,0)
def rwz : RowU := ⟨none,0,[]⟩
theorem ed_equal (a b : Ed) (w : World) : (Op.equal 76 (.agg (edc a).toArray) (.agg (edc b).toArray)).run Tryz.prog w = .ok (decide (a = b)) w := by
 show (Op.equalIn (9999 + 1) 76 (.agg (edc a).toArray) (.agg (edc b).toArray)).run Tryz.prog w = _
 rw [run_equalIn_struct w 9999 76 _ _ kr kr]
 rw [show (Tryz.prog.fieldsOf 76).toList = [⟨ "ID",73,0,false,"","",0⟩,⟨ "A",73,1,false,"","",4⟩,⟨ "B",73,2,false,"","",8⟩] by kernel_rfl]
 have p1 : ∀ (r : Ed),(part 73 (edc r).toArray 0).run Tryz.prog w = .ok (.int .u32 r.1) w := fun r => by
  simp only [part,isAgg,Sem.run_bind,run_underlying' Tryz.underlying73,Result.andThen_ok]; rfl
 have p2 : ∀ (r : Ed),(part 73 (edc r).toArray 1).run Tryz.prog w = .ok (.int .u32 r.2.1) w := fun r => by
  simp only [part,isAgg,Sem.run_bind,run_underlying' Tryz.underlying73,Result.andThen_ok]; rfl
 have p3 : ∀ (r : Ed),(part 73 (edc r).toArray 2).run Tryz.prog w = .ok (.int .u32 r.2.2) w := fun r => by
  simp only [part,isAgg,Sem.run_bind,run_underlying' Tryz.underlying73,Result.andThen_ok]; rfl
 have n1 : ¬ ("ID" = "_") := by decide
 have n2 : ¬ ("A" = "_") := by decide
 have n3 : ¬ ("B" = "_") := by decide
 have q : ∀ i j : Nat,(Op.equalIn 9999 73 (.int .u32 (i : Int)) (.int .u32 (j : Int))).run Tryz.prog w = .ok ((i : Int) == (j : Int)) w := fun i j => run_equalIn_int w 9998 73 .u32 .u32 i j Tryz.underlying73
 simp only [Op.eqFields,ne_eq,n1,n2,n3,not_false_eq_true,if_true,Sem.run_bind,p1,Result.andThen_ok,q]
 obtain ⟨a1,a2,a3⟩ := a
 obtain ⟨b1,b2,b3⟩ := b
 have key : ∀ x y z : Bool,Sem.run Tryz.prog (if (!x) = true then pure false else do
    let c ← part 73 (edc (a1,a2,a3)).toArray 1
    let d ← part 73 (edc (b1,b2,b3)).toArray 1
    let r ← Op.equalIn 9999 73 c d
    if (!r) = true then pure false else do
     let c ← part 73 (edc (a1,a2,a3)).toArray 2
     let d ← part 73 (edc (b1,b2,b3)).toArray 2
     let r ← Op.equalIn 9999 73 c d
     if (!r) = true then pure false else pure true) w = .ok (x && (((a2 : Int) == (b2 : Int)) && ((a3 : Int) == (b3 : Int)))) w := by
  intro x y z
  cases x with
  | false => rfl
  | true =>
   rw [if_neg (by decide),Sem.run_bind,p2,Result.andThen_ok,Sem.run_bind,p2,Result.andThen_ok,Sem.run_bind,q,Result.andThen_ok,Bool.true_and]
   simp only
   cases h2 : ((a2 : Int) == (b2 : Int)) with
   | false => rfl
   | true =>
    rw [if_neg (by decide),Sem.run_bind,p3,Result.andThen_ok,Sem.run_bind,p3,Result.andThen_ok,Sem.run_bind,q,Result.andThen_ok,Bool.true_and]
    simp only
    cases h3 : ((a3 : Int) == (b3 : Int)) <;> rfl
 have e : decide ((a1,a2,a3) = (b1,b2,b3)) = (((a1 : Int) == (b1 : Int)) && (((a2 : Int) == (b2 : Int)) && ((a3 : Int) == (b3 : Int)))) := by
  rw [Bool.eq_iff_iff]
  simp only [decide_eq_true_eq,Bool.and_eq_true,beq_iff_eq,Prod.mk.injEq]
  omega
 rw [e]
 exact key _ true true
theorem dg_byte {d : List UInt8} (h : d.length = 32) {j : Nat} (hj : j < 32) : (dgc d)[j]? = some (.int .u8 ((d.getD j 0).toNat : Int)) := by
 unfold dgc
 rw [Array.getElem?_toList]
 exact bv_get (n := 32) h hj
theorem rows_at {l : List RowU} {i : Nat} (h : i < l.length) : (l.map RowU.xs).getD i [] = (l.getD i rwz).xs := by
 rw [getD_at h,getD_at (by rw [List.length_map]; exact h),List.getElem_map]
theorem rows_ne {l m : List RowU} {i : Nat} (hi : i < l.length) (hj : i < m.length) (h : (l.getD i rwz).xs ≠ (m.getD i rwz).xs) : decide (l.map RowU.xs = m.map RowU.xs) = false :=
 list_ne_at [] (i := i) (by rw [rows_at hi,rows_at hj]; exact h)
theorem rows_eq {l m : List RowU} (hl : l.length = m.length) (h : ∀ j,j < l.length → (l.getD j rwz).xs = (m.getD j rwz).xs) : decide (l.map RowU.xs = m.map RowU.xs) = true :=
 list_eq_at [] (by rw [List.length_map,List.length_map]; exact hl) (fun j hj => by rw [List.length_map] at hj; rw [rows_at hj,rows_at om]; exact h j hj)
set_option maxRecDepth 100000 in
set_option maxHeartbeats 2000000 in
theorem eqU (la lb : Option Addr) (ca cb : Nat) (l m : List Nat) (Rl : List (Nat × Obj)) (w : World) (hI : InF u32c 1 Rl la l) (hJ : InF u32c 1 Rl lb m) (hR : Has w Rl) (hn : l.length ≤ maxLen) (hn2 : m.length ≤ maxLen) :
  Calls Tryz.prog 32 #[.slice la l.length ca,.slice lb m.length cb] w fun e w' => e = .returned (.bool (decide (l = m))) ∧ Ext [] w w' := by
 unfold maxLen at hn hn2
 refine enter [] Rl [] Tryz.func32 rfl kr (HP.ofHas hR) ?_
 refine Rq [0,1] ?_
 refine Rq [0,1,10] ?_
 refine Cfg.cond rfl (b := ((l.length : Int) != (m.length : Int))) kr (fun c1r => ?_) (fun c1r => ?_)
 ·have c1 := (bne_iff_ne.1 c1r)
  refine Rq [4] ?_
  refine Cfg.ret rfl (rs := [.tmp 4]) rfl [.bool false] ⟨kr,trivial⟩ (fun w1 hp => ?_)
  exact ⟨by rw [list_ne_len om]; rfl,hp.ext⟩
 ·have c1 := (bne_eq_false_iff_eq.1 c1r)
  refine Rq [0,1,12,13] ?_
  refine Cfg.loop rfl (ι := Nat) (fun (i : Nat) => [(13,[],iN i),(12,[],iN l.length),(0,[],.slice la l.length ca),(1,[],.slice lb m.length cb)]) (fun (i : Nat) => []) (fun (i : Nat) => (i ≤ l.length) ∧ (∀ j,j < i → l.getD j 0 = m.getD j 0)) (fun (i : Nat) => l.length - i) 0 ?_ (Conv.mk kr) .slnil ?_
  ·exact ⟨Nat.zero_le _,fun j h => absurd h (Nat.not_lt_zero j)⟩
  ·rintro i ⟨hi,hall⟩
   refine Rq [0,1,12,13,14] ?_
   refine Cfg.cond rfl (b := (decide ((i : Int) < (l.length : Int)))) kr (fun c2r => ?_) (fun c2r => ?_)
   ·have c2 := (dT c2r)
    refine Rq [0,1,5,12,13] ?_
    obtain ⟨sa,offa,csa,tea,frea,rfl,hma,hca⟩ := hI om
    obtain ⟨sb,offb,csb,teb,freb,rfl,hmb,hcb⟩ := hJ om
    refine Conv.cfg (Γ' := [(5,[],iN i),(13,[],iN i),(12,[],iN l.length),(0,[],.slice (some ⟨sa,offa,none⟩) l.length ca),(1,[],.slice (some ⟨sb,offb,none⟩) m.length cb)]) (Conv.mk kr) ?_
    refine Cfg.regD rfl kr [0,1,12,13,24] [dZ,dZ,dZ,(dS (uN (l.getD i 0))),dZ,dZ,dZ,(dS (uN (m.getD i 0)))] (Γ' := [(24,[],.bool (((l.getD i 0) : Int) != ((m.getD i 0) : Int))),(13,[],iN i),(12,[],iN l.length),(0,[],.slice (some ⟨sa,offa,none⟩) l.length ca),(1,[],.slice (some ⟨sb,offb,none⟩) m.length cb)]) (nd := (fun S => [(0 ≤ (i : Int) ∧ (i : Int) < (l.length : Int)),(cE S sa (addO offa i) (uN (l.getD i 0))),(0 ≤ (i : Int) ∧ (i : Int) < (m.length : Int)),(cE S sb (addO offb i) (uN (m.getD i 0)))])) kr kr (fun _ => kr) ⟨om,(fun w1 h => by rw [addO_eq]; exact (cell_cells (h.ro _ hma)).trans (fl_one (g := fun n : Nat => uN n) 0 hca om)),om,(fun w1 h => by rw [addO_eq]; exact (cell_cells (h.ro _ hmb)).trans (fl_one (g := fun n : Nat => uN n) 0 hcb om)),trivial⟩ ?_
    refine Cfg.cond rfl (b := (((l.getD i 0) : Int) != ((m.getD i 0) : Int))) kr (fun c3r => ?_) (fun c3r => ?_)
    ·have c3 := (bne_iff_ne.1 c3r)
     refine Rq [4] ?_
     refine Cfg.ret rfl (rs := [.tmp 4]) rfl [.bool false] ⟨kr,trivial⟩ (fun w1 hp => ?_)
     exact ⟨by rw [list_ne_at 0 (i := i) om]; rfl,hp.ext⟩
    ·have c3 := (bne_eq_false_iff_eq.1 c3r)
     refine Cfg.reg rfl [0,1,12,13] [] (Γ' := [(13,[],.int .i64 ((i : Int) + 1)),(12,[],iN l.length),(0,[],.slice (some ⟨sa,offa,none⟩) l.length ca),(1,[],.slice (some ⟨sb,offb,none⟩) m.length cb)]) (nd := (fun _ => [(i6 ((i : Int) + 1))])) (fun _ => kr) ⟨om,trivial⟩ ?_
     refine Cfg.again rfl (i + 1) ⟨by omega,fun j hj => by rcases Nat.lt_or_ge j i with h1 | h1; exact hall j h1; rw [show j = i by omega]; omega⟩ om (Conv.mk kr) .slnil
   ·have c2 := (dF c2r)
    refine Rq [4] ?_
    refine Cfg.ret rfl (rs := [.tmp 4]) rfl [.bool true] ⟨kr,trivial⟩ (fun w1 hp => ?_)
    exact ⟨by rw [list_eq_at 0 om (fun j hj => hall j om)]; rfl,hp.ext⟩
set_option maxRecDepth 100000 in
set_option maxHeartbeats 2000000 in
theorem eqE (la lb : Option Addr) (ca cb : Nat) (l m : List Ed) (Rl : List (Nat × Obj)) (w : World) (hI : InF edc 3 Rl la l) (hJ : InF edc 3 Rl lb m) (hR : Has w Rl) (hn : l.length ≤ maxLen) (hn2 : m.length ≤ maxLen) :
  Calls Tryz.prog 33 #[.slice la l.length ca,.slice lb m.length cb] w fun e w' => e = .returned (.bool (decide (l = m))) ∧ Ext [] w w' := by
 unfold maxLen at hn hn2
 refine enter [] Rl [] Tryz.func33 rfl kr (HP.ofHas hR) ?_
 refine Rq [0,1] ?_
 refine Rq [0,1,10] ?_
 refine Cfg.cond rfl (b := ((l.length : Int) != (m.length : Int))) kr (fun c1r => ?_) (fun c1r => ?_)
 ·have c1 := (bne_iff_ne.1 c1r)
  refine Rq [4] ?_
  refine Cfg.ret rfl (rs := [.tmp 4]) rfl [.bool false] ⟨kr,trivial⟩ (fun w1 hp => ?_)
  exact ⟨by rw [list_ne_len om]; rfl,hp.ext⟩
 ·have c1 := (bne_eq_false_iff_eq.1 c1r)
  refine Rq [0,1,12,13] ?_
  refine Cfg.loop rfl (ι := Nat) (fun (i : Nat) => [(13,[],iN i),(12,[],iN l.length),(0,[],.slice la l.length ca),(1,[],.slice lb m.length cb)]) (fun (i : Nat) => []) (fun (i : Nat) => (i ≤ l.length) ∧ (∀ j,j < i → l.getD j ez = m.getD j ez)) (fun (i : Nat) => l.length - i) 0 ?_ (Conv.mk kr) .slnil ?_
  ·exact ⟨Nat.zero_le _,fun j h => absurd h (Nat.not_lt_zero j)⟩
  ·rintro i ⟨hi,hall⟩
   refine Rq [0,1,12,13,14] ?_
   refine Cfg.cond rfl (b := (decide ((i : Int) < (l.length : Int)))) kr (fun c2r => ?_) (fun c2r => ?_)
   ·have c2 := (dT c2r)
    refine Rq [0,1,5,12,13] ?_
    obtain ⟨sa,offa,csa,tea,frea,rfl,hma,hca⟩ := hI om
    obtain ⟨sb,offb,csb,teb,freb,rfl,hmb,hcb⟩ := hJ om
    refine Conv.cfg (Γ' := [(5,[],iN i),(13,[],iN i),(12,[],iN l.length),(0,[],.slice (some ⟨sa,offa,none⟩) l.length ca),(1,[],.slice (some ⟨sb,offb,none⟩) m.length cb)]) (Conv.mk kr) ?_
    refine Cfg.regD rfl kr [0,1,12,13,24] [dZ,dZ,dZ,(dS (.agg (edc (l.getD i ez)).toArray)),dZ,dZ,dZ,(dS (.agg (edc (m.getD i ez)).toArray)),(dS (.bool (decide (l.getD i ez = m.getD i ez))))] (Γ' := [(24,[],.bool (!(decide (l.getD i ez = m.getD i ez)))),(13,[],iN i),(12,[],iN l.length),(0,[],.slice (some ⟨sa,offa,none⟩) l.length ca),(1,[],.slice (some ⟨sb,offb,none⟩) m.length cb)]) (nd := (fun S => [(0 ≤ (i : Int) ∧ (i : Int) < (l.length : Int)),(∀ w1,S w1 → (loadVar 76 ⟨sa,(addO offa (i * 3)),none⟩).run Tryz.prog w1 = .ok (.agg (edc (l.getD i ez)).toArray) w1),(0 ≤ (i : Int) ∧ (i : Int) < (m.length : Int)),(∀ w1,S w1 → (loadVar 76 ⟨sb,(addO offb (i * 3)),none⟩).run Tryz.prog w1 = .ok (.agg (edc (m.getD i ez)).toArray) w1),(∀ w1,S w1 → (Op.equal 76 (.agg (edc (l.getD i ez)).toArray) (.agg (edc (m.getD i ez)).toArray)).run Tryz.prog w1 = .ok (decide (l.getD i ez = m.getD i ez)) w1)])) kr kr (fun _ => kr) ⟨om,(fun w1 h => load_list Tryz.underlying76 rfl kr (edc_len _) (fun j v hj => by rw [addO_eq]; exact (cell_cells (h.ro _ hma)).trans (fl_cell ez (fun x _ => edc_len x) hca om hj))),om,(fun w1 h => load_list Tryz.underlying76 rfl kr (edc_len _) (fun j v hj => by rw [addO_eq]; exact (cell_cells (h.ro _ hmb)).trans (fl_cell ez (fun x _ => edc_len x) hcb om hj))),(fun w1 _ => ed_equal _ _ w1),trivial⟩ ?_
    refine Cfg.cond rfl (b := (!(decide (l.getD i ez = m.getD i ez)))) kr (fun c3r => ?_) (fun c3r => ?_)
    ·have c3 : ((decide (l.getD i ez = m.getD i ez)) = false) := (notT c3r)
     refine Rq [4] ?_
     refine Cfg.ret rfl (rs := [.tmp 4]) rfl [.bool false] ⟨kr,trivial⟩ (fun w1 hp => ?_)
     exact ⟨by rw [list_ne_at ez (i := i) (dF c3)]; rfl,hp.ext⟩
    ·have c3 : ((decide (l.getD i ez = m.getD i ez)) = true) := (notF c3r)
     refine Cfg.reg rfl [0,1,12,13] [] (Γ' := [(13,[],.int .i64 ((i : Int) + 1)),(12,[],iN l.length),(0,[],.slice (some ⟨sa,offa,none⟩) l.length ca),(1,[],.slice (some ⟨sb,offb,none⟩) m.length cb)]) (nd := (fun _ => [(i6 ((i : Int) + 1))])) (fun _ => kr) ⟨om,trivial⟩ ?_
     refine Cfg.again rfl (i + 1) ⟨by omega,fun j hj => by rcases Nat.lt_or_ge j i with h1 | h1; exact hall j h1; rw [show j = i by omega]; exact dT c3⟩ om (Conv.mk kr) .slnil
   ·have c2 := (dF c2r)
    refine Rq [4] ?_
    refine Cfg.ret rfl (rs := [.tmp 4]) rfl [.bool true] ⟨kr,trivial⟩ (fun w1 hp => ?_)
    exact ⟨by rw [list_eq_at ez om (fun j hj => hall j om)]; rfl,hp.ext⟩
set_option maxRecDepth 100000 in
set_option maxHeartbeats 2000000 in
theorem eqD (la lb : Option Addr) (ca cb : Nat) (l m : List (List UInt8)) (Rl : List (Nat × Obj)) (w : World) (hI : InF dgc 32 Rl la l) (hJ : InF dgc 32 Rl lb m) (hW : D32 l) (hV : D32 m) (hR : Has w Rl) (hn : l.length ≤ maxLen) (hn2 : m.length ≤ maxLen) :
  Calls Tryz.prog 9 #[.slice la l.length ca,.slice lb m.length cb] w fun e w' => e = .returned (.bool (decide (l = m))) ∧ Ext [] w w' := by
 unfold maxLen at hn hn2
 refine enter [] Rl [] Tryz.func9 rfl kr (HP.ofHas hR) ?_
 refine Rq [0,1] ?_
 refine Rq [0,1,10] ?_
 refine Cfg.cond rfl (b := ((l.length : Int) != (m.length : Int))) kr (fun c1r => ?_) (fun c1r => ?_)
 ·have c1 := (bne_iff_ne.1 c1r)
  refine Rq [4] ?_
  refine Cfg.ret rfl (rs := [.tmp 4]) rfl [.bool false] ⟨kr,trivial⟩ (fun w1 hp => ?_)
  exact ⟨by rw [list_ne_len om]; rfl,hp.ext⟩
 ·have c1 := (bne_eq_false_iff_eq.1 c1r)
  refine Rq [0,1,12,13] ?_
  refine Cfg.loop rfl (ι := Nat) (fun (i : Nat) => [(13,[],iN i),(12,[],iN l.length),(0,[],.slice la l.length ca),(1,[],.slice lb m.length cb)]) (fun (i : Nat) => []) (fun (i : Nat) => (i ≤ l.length) ∧ (∀ j,j < i → l.getD j [] = m.getD j [])) (fun (i : Nat) => l.length - i) 0 ?_ (Conv.mk kr) .slnil ?_
  ·exact ⟨Nat.zero_le _,fun j h => absurd h (Nat.not_lt_zero j)⟩
  ·rintro i ⟨hi,hall⟩
   refine Rq [0,1,12,13,14] ?_
   refine Cfg.cond rfl (b := (decide ((i : Int) < (l.length : Int)))) kr (fun c2r => ?_) (fun c2r => ?_)
   ·have c2 := (dT c2r)
    refine Rq [0,1,5,12,13] ?_
    obtain ⟨sa,offa,csa,tea,frea,rfl,hma,hca⟩ := hI om
    obtain ⟨sb,offb,csb,teb,freb,rfl,hmb,hcb⟩ := hJ om
    refine Conv.cfg (Γ' := [(5,[],iN i),(13,[],iN i),(12,[],iN l.length),(0,[],.slice (some ⟨sa,offa,none⟩) l.length ca),(1,[],.slice (some ⟨sb,offb,none⟩) m.length cb)]) (Conv.mk kr) ?_
    refine Cfg.regD rfl kr [0,1,12,13,24] [dZ,dZ,dZ,(dS (.agg (bv (l.getD i [])))),dZ,dZ,dZ,(dS (.agg (bv (m.getD i [])))),(dS (.bool ((l.getD i []) == (m.getD i []))))] (Γ' := [(24,[],.bool (!((l.getD i []) == (m.getD i [])))),(13,[],iN i),(12,[],iN l.length),(0,[],.slice (some ⟨sa,offa,none⟩) l.length ca),(1,[],.slice (some ⟨sb,offb,none⟩) m.length cb)]) (nd := (fun S => [(0 ≤ (i : Int) ∧ (i : Int) < (l.length : Int)),(∀ w1,S w1 → (loadVar 30 ⟨sa,(addO offa (i * 32)),none⟩).run Tryz.prog w1 = .ok (.agg (bv (l.getD i []))) w1),(0 ≤ (i : Int) ∧ (i : Int) < (m.length : Int)),(∀ w1,S w1 → (loadVar 30 ⟨sb,(addO offb (i * 32)),none⟩).run Tryz.prog w1 = .ok (.agg (bv (m.getD i []))) w1),(∀ w1,S w1 → (Op.equal 30 (.agg (bv (l.getD i []))) (.agg (bv (m.getD i [])))).run Tryz.prog w1 = .ok ((l.getD i []) == (m.getD i [])) w1)])) kr kr (fun _ => kr) ⟨om,(fun w1 h => load_bytes Tryz.underlying30 rfl kr (hW.at om) (fun j hj => by rw [addO_eq]; exact (cell_cells (h.ro _ hma)).trans (fl_cell [] (fun x hx => dgc_len (hW x hx)) hca om (dg_byte (hW.at om) hj)))),om,(fun w1 h => load_bytes Tryz.underlying30 rfl kr (hV.at om) (fun j hj => by rw [addO_eq]; exact (cell_cells (h.ro _ hmb)).trans (fl_cell [] (fun x hx => dgc_len (hV x hx)) hcb om (dg_byte (hV.at om) hj)))),(fun _ _ => equal_bv Tryz.underlying30 Tryz.underlying5 kr (hW.at om) (hV.at om)),trivial⟩ ?_
    refine Cfg.cond rfl (b := (!((l.getD i []) == (m.getD i [])))) kr (fun c3r => ?_) (fun c3r => ?_)
    ·have c3 : (((l.getD i []) == (m.getD i [])) = false) := (notT c3r)
     refine Rq [4] ?_
     refine Cfg.ret rfl (rs := [.tmp 4]) rfl [.bool false] ⟨kr,trivial⟩ (fun w1 hp => ?_)
     exact ⟨by rw [list_ne_at [] (i := i) (beq_eq_false_iff_ne.1 c3)]; rfl,hp.ext⟩
    ·have c3 : (((l.getD i []) == (m.getD i [])) = true) := (notF c3r)
     refine Cfg.reg rfl [0,1,12,13] [] (Γ' := [(13,[],.int .i64 ((i : Int) + 1)),(12,[],iN l.length),(0,[],.slice (some ⟨sa,offa,none⟩) l.length ca),(1,[],.slice (some ⟨sb,offb,none⟩) m.length cb)]) (nd := (fun _ => [(i6 ((i : Int) + 1))])) (fun _ => kr) ⟨om,trivial⟩ ?_
     refine Cfg.again rfl (i + 1) ⟨by omega,fun j hj => by rcases Nat.lt_or_ge j i with h1 | h1; exact hall j h1; rw [show j = i by omega]; exact beq_iff_eq.1 c3⟩ om (Conv.mk kr) .slnil
   ·have c2 := (dF c2r)
    refine Rq [4] ?_
    refine Cfg.ret rfl (rs := [.tmp 4]) rfl [.bool true] ⟨kr,trivial⟩ (fun w1 hp => ?_)
    exact ⟨by rw [list_eq_at [] om (fun j hj => hall j om)]; rfl,hp.ext⟩
set_option maxRecDepth 100000 in
set_option maxHeartbeats 2000000 in
theorem eqRows (la lb : Option Addr) (ca cb : Nat) (l m : List RowU) (Rl : List (Nat × Obj)) (w : World) (hI : InF rowc 1 Rl la l) (hJ : InF rowc 1 Rl lb m) (hR : Has w Rl) (hn : l.length ≤ maxLen) (hn2 : m.length ≤ maxLen) (hX : ∀ r ∈ l,InF u32c 1 Rl r.a r.xs ∧ r.xs.length ≤ maxLen) (hY : ∀ r ∈ m,InF u32c 1 Rl r.a r.xs ∧ r.xs.length ≤ maxLen) :
  Calls Tryz.prog 34 #[.slice la l.length ca,.slice lb m.length cb,.func (.func 32) #[] #[]] w fun e w' => e = .returned (.bool (decide (l.map RowU.xs = m.map RowU.xs))) ∧ Ext [] w w' := by
 unfold maxLen at hn hn2
 refine enter [] Rl [] Tryz.func34 rfl kr (HP.ofHas hR) ?_
 refine Rq [0,1,2] ?_
 refine Rq [0,1,2,14] ?_
 refine Cfg.cond rfl (b := ((l.length : Int) != (m.length : Int))) kr (fun c1r => ?_) (fun c1r => ?_)
 ·have c1 := (bne_iff_ne.1 c1r)
  refine Rq [6] ?_
  refine Cfg.ret rfl (rs := [.tmp 6]) rfl [.bool false] ⟨kr,trivial⟩ (fun w1 hp => ?_)
  exact ⟨by rw [list_ne_len (by rw [List.length_map,List.length_map]; omega)]; rfl,hp.ext⟩
 ·have c1 := (bne_eq_false_iff_eq.1 c1r)
  refine Rq [1,2,15,16,17] ?_
  refine Cfg.loop rfl (ι := Nat) (fun (i : Nat) => [(17,[],iN i),(16,[],iN l.length),(15,[],.slice la l.length ca),(1,[],.slice lb m.length cb),(2,[],.func (.func 32) #[] #[])]) (fun (i : Nat) => []) (fun (i : Nat) => (i ≤ l.length) ∧ (∀ j,j < i → (l.getD j rwz).xs = (m.getD j rwz).xs)) (fun (i : Nat) => l.length - i) 0 ?_ (Conv.mk kr) .slnil ?_
  ·exact ⟨Nat.zero_le _,fun j h => absurd h (Nat.not_lt_zero j)⟩
  ·rintro i ⟨hi,hall⟩
   refine Rq [1,2,15,16,17,18] ?_
   refine Cfg.cond rfl (b := (decide ((i : Int) < (l.length : Int)))) kr (fun c2r => ?_) (fun c2r => ?_)
   ·have c2 := (dT c2r)
    obtain ⟨sa,offa,csa,tea,frea,rfl,hma,hca⟩ := hI om
    refine Conv.cfg (Γ' := [(18,[],.bool (decide ((i : Int) < (l.length : Int)))),(17,[],iN i),(16,[],iN l.length),(15,[],.slice (some ⟨sa,offa,none⟩) l.length ca),(1,[],.slice lb m.length cb),(2,[],.func (.func 32) #[] #[])]) (Conv.mk kr) ?_
    refine Rg [1,2,7,8,15,16,17] [dZ,dZ,(dS (.slice (l.getD i rwz).a ((l.getD i rwz).xs.length) ((l.getD i rwz).c)))] (fun S => [(0 ≤ (i : Int) ∧ (i : Int) < (l.length : Int)),(cE S sa (addO offa i) (.slice (l.getD i rwz).a ((l.getD i rwz).xs.length) ((l.getD i rwz).c)))]) ⟨om,(fun w1 h => by rw [addO_eq]; exact (cell_cells (h.ro _ hma)).trans (fl_one (g := fun r : RowU => .slice r.a r.xs.length r.c) rwz hca om)),trivial⟩ ?_
    obtain ⟨sb,offb,csb,teb,freb,rfl,hmb,hcb⟩ := hJ om
    refine Conv.cfg (Γ' := [(8,[],.slice (l.getD i rwz).a ((l.getD i rwz).xs.length) ((l.getD i rwz).c)),(7,[],iN i),(17,[],iN i),(16,[],iN l.length),(15,[],.slice (some ⟨sa,offa,none⟩) l.length ca),(1,[],.slice (some ⟨sb,offb,none⟩) m.length cb),(2,[],.func (.func 32) #[] #[])]) (Conv.mk kr) ?_
    refine Rg [1,2,8,9,15,16,17] [dZ,dZ,dZ,(dS (.slice (m.getD i rwz).a ((m.getD i rwz).xs.length) ((m.getD i rwz).c)))] (fun S => [(0 ≤ (i : Int) ∧ (i : Int) < (m.length : Int)),(cE S sb (addO offb i) (.slice (m.getD i rwz).a ((m.getD i rwz).xs.length) ((m.getD i rwz).c)))]) ⟨om,(fun w1 h => by rw [addO_eq]; exact (cell_cells (h.ro _ hmb)).trans (fl_one (g := fun r : RowU => .slice r.a r.xs.length r.c) rwz hcb om)),trivial⟩ ?_
    refine Cfg.begL rfl ?_
    refine CfgL.pure 3 [] (some [1,2,15,16,17,26,27,28]) (Γ' := [(28,[],.slice (m.getD i rwz).a ((m.getD i rwz).xs.length) ((m.getD i rwz).c)),(27,[],.slice (l.getD i rwz).a ((l.getD i rwz).xs.length) ((l.getD i rwz).c)),(26,[],.func (.func 32) #[] #[]),(17,[],iN i),(16,[],iN l.length),(15,[],.slice (some ⟨sa,offa,none⟩) l.length ca),(1,[],.slice (some ⟨sb,offb,none⟩) m.length cb),(2,[],.func (.func 32) #[] #[])]) (nd := (fun _ => [])) kr (fun _ => kr) trivial ?_
    refine Lu (Eff.callAV (.bool (decide ((l.getD i rwz).xs = (m.getD i rwz).xs))) rfl kr Tryz.func32 rfl rfl kr (fun w1 h => eqU (l.getD i rwz).a (m.getD i rwz).a (l.getD i rwz).c (m.getD i rwz).c (l.getD i rwz).xs (m.getD i rwz).xs Rl w1 (hX _ (getD_mem om)).1 (hY _ (getD_mem om)).1 (h.hasR (fun e he => he)) (hX _ (getD_mem om)).2 (hY _ (getD_mem om)).2)) ?_
    refine Ld 1 [1,2,15,16,17,30] ?_
    refine Cfg.cond rfl (b := (!(decide ((l.getD i rwz).xs = (m.getD i rwz).xs)))) kr (fun c3r => ?_) (fun c3r => ?_)
    ·have c3 : ((decide ((l.getD i rwz).xs = (m.getD i rwz).xs)) = false) := (notT c3r)
     refine Rq [6] ?_
     refine Cfg.ret rfl (rs := [.tmp 6]) rfl [.bool false] ⟨kr,trivial⟩ (fun w1 hp => ?_)
     exact ⟨by rw [rows_ne (i := i) om om (dF c3)]; rfl,hp.ext⟩
    ·have c3 : ((decide ((l.getD i rwz).xs = (m.getD i rwz).xs)) = true) := (notF c3r)
     refine Rg [1,2,15,16,17] [] (fun _ => [(i6 ((i : Int) + 1))]) ⟨om,trivial⟩ ?_
     refine Cfg.again rfl (i + 1) ⟨by omega,fun j hj => by rcases Nat.lt_or_ge j i with h1 | h1; exact hall j h1; rw [show j = i by omega]; exact dT c3⟩ om (Conv.mk kr) .slnil
   ·have c2 := (dF c2r)
    refine Rq [6] ?_
    refine Cfg.ret rfl (rs := [.tmp 6]) rfl [.bool true] ⟨kr,trivial⟩ (fun w1 hp => ?_)
    exact ⟨by rw [rows_eq om (fun j hj => hall j om)]; rfl,hp.ext⟩
end Go.Proofs.YtbeeelgfhfmgbaaGreatDoor
namespace Go.Proofs.YtbeeelgfhfmgbaaGreatDoor
open K
set_option linter.unusedVariables false
structure MM where
 va : Option Addr
 vc : Nat
 vs : List Nat
 ea : Option Addr
 ec : Nat
 es : List Ed
 ra : Option Addr
 rc : Nat
 rs : List RowU
structure CM where
 d : List UInt8
 pa : Option Addr
 pc : Nat
 ps : List (List UInt8)
 n : Nat
 t : ByteArray
structure TM where
 d : List UInt8
 t : ByteArray
structure OM where
 k : Nat
 m : MM
 c : CM
 t : TM
def d0 : List UInt8 := List.replicate 32 0
def m0 : MM := ⟨none,0,[],none,0,[],none,0,[]⟩
def c0 : CM := ⟨d0,none,0,[],0,ByteArray.empty⟩
def t0 : TM := ⟨d0,ByteArray.empty⟩
def gc (m : MM) : List Value := [.slice m.va m.vs.length m.vc,.slice m.ea m.es.length m.ec]
def mc (m : MM) : List Value := [.slice m.va m.vs.length m.vc,.slice m.ea m.es.length m.ec,.slice m.ra m.rs.length m.rc]
def cc (c : CM) : List Value := dgc c.d ++ [.slice c.pa c.ps.length c.pc,.int .u64 (c.n : Int),.string c.t]
def tc (t : TM) : List Value := dgc t.d ++ [.string t.t]
def oc (o : OM) : List Value := .int .u8 (o.k : Int) :: .slice o.m.va o.m.vs.length o.m.vc :: .slice o.m.ea o.m.es.length o.m.ec :: .slice o.m.ra o.m.rs.length o.m.rc :: (cc o.c ++ tc o.t)
theorem app_l {a b : List Value} {j : Nat} {v : Value} (h : a[j]? = some v) : (a ++ b)[j]? = some v := by
 rw [List.getElem?_append_left (List.getElem?_eq_some_iff.1 h).1,h]
theorem app_r {a b : List Value} {n j : Nat} {v : Value} (hn : a.length = n) (h : b[j]? = some v) : (a ++ b)[n + j]? = some v := by
 rw [List.getElem?_append_right om,hn,Nat.add_sub_cancel_left,h]
theorem cc_len {c : CM} (h : c.d.length = 32) : (cc c).length = 35 := by unfold cc; rw [List.length_append,dgc_len h]; rfl
theorem tc_len {t : TM} (h : t.d.length = 32) : (tc t).length = 33 := by unfold tc; rw [List.length_append,dgc_len h]; rfl
theorem oc_map {o : OM} {j : Nat} {v : Value} (h : (mc o.m)[j]? = some v) : (oc o)[1 + j]? = some v := by
 have hj : j < 3 := (List.getElem?_eq_some_iff.1 h).1
 rcases j with _ | _ | _ | j
 ·exact h
 ·exact h
 ·exact h
 ·omega
theorem gc_mc {m : MM} {j : Nat} {v : Value} (h : (gc m)[j]? = some v) : (mc m)[0 + j]? = some v := by
 have hj : j < 2 := (List.getElem?_eq_some_iff.1 h).1
 rcases j with _ | _ | j
 ·exact h
 ·exact h
 ·omega
theorem oc_com {o : OM} {j : Nat} {v : Value} (h : (cc o.c)[j]? = some v) : (oc o)[4 + j]? = some v := by rw [Nat.add_comm]; exact app_l h
theorem oc_tag {o : OM} (hd : o.c.d.length = 32) {j : Nat} {v : Value} (h : (tc o.t)[j]? = some v) : (oc o)[39 + j]? = some v := by rw [show 39 + j = (35 + j) + 4 by omega]; exact app_r (cc_len hd) h
theorem cc_d {c : CM} {j : Nat} {v : Value} (h : (dgc c.d)[j]? = some v) : (cc c)[j]? = some v := app_l h
theorem tc_d {t : TM} {j : Nat} {v : Value} (h : (dgc t.d)[j]? = some v) : (tc t)[j]? = some v := app_l h
theorem cc_p {c : CM} (hd : c.d.length = 32) : (cc c)[32]? = some (.slice c.pa c.ps.length c.pc) := app_r (j := 0) (dgc_len hd) rfl
theorem cc_n {c : CM} (hd : c.d.length = 32) : (cc c)[33]? = some (.int .u64 (c.n : Int)) := app_r (j := 1) (dgc_len hd) rfl
theorem cc_t {c : CM} (hd : c.d.length = 32) : (cc c)[34]? = some (.string c.t) := app_r (j := 2) (dgc_len hd) rfl
theorem tc_t {t : TM} (hd : t.d.length = 32) : (tc t)[32]? = some (.string t.t) := app_r (j := 0) (dgc_len hd) rfl
theorem all_dgc (d : List UInt8) : ∀ v ∈ dgc d,K.one v = true := fun v hv => all_bv d v hv
theorem all_cc (c : CM) : ∀ v ∈ cc c,K.one v = true := by
 intro v hv
 rcases List.mem_append.1 hv with h | h
 ·exact all_dgc _ v h
 ·simp only [List.mem_cons,List.not_mem_nil,or_false] at h
  rcases h with rfl | rfl | rfl <;> rfl
theorem all_tc (t : TM) : ∀ v ∈ tc t,K.one v = true := by
 intro v hv
 rcases List.mem_append.1 hv with h | h
 ·exact all_dgc _ v h
 ·simp only [List.mem_cons,List.not_mem_nil,or_false] at h
  rcases h with rfl; rfl
theorem all_mc (m : MM) : ∀ v ∈ mc m,K.one v = true := by
 intro v h
 simp only [mc,List.mem_cons,List.not_mem_nil,or_false] at h
 rcases h with rfl | rfl | rfl <;> rfl
theorem oc_split (o : OM) : oc o = (.int .u8 (o.k : Int) :: mc o.m) ++ (cc o.c ++ tc o.t) := rfl
theorem all_oc (o : OM) : ∀ v ∈ oc o,K.one v = true := by
 intro v h
 rw [oc_split] at h
 rcases List.mem_append.1 h with h | h
 ·rcases List.mem_cons.1 h with rfl | h
  ·rfl
  ·exact all_mc _ v h
 ·rcases List.mem_append.1 h with h | h
  ·exact all_cc _ v h
  ·exact all_tc _ v h
theorem oc_len {o : OM} (hc : o.c.d.length = 32) (ht : o.t.d.length = 32) : (oc o).length = 72 := by rw [oc_split,List.length_append,List.length_append,cc_len hc,tc_len ht]; rfl
def fewF (m : MM) : Bool := (decide ((m.vs.length : Int) ≤ 70) && decide ((m.es.length : Int) ≤ 60)) && decide ((m.rs.length : Int) ≤ 80)
structure InM (Rl : List (Nat × Obj)) (m : MM) : Prop where
 v : InF u32c 1 Rl m.va m.vs
 e : InF edc 3 Rl m.ea m.es
 r : InF rowc 1 Rl m.ra m.rs
 i : ∀ x ∈ m.rs,InF u32c 1 Rl x.a x.xs ∧ x.xs.length ≤ 140737488355328 / 4
 n : m.vs.length ≤ 140737488355328 / 4 ∧ m.es.length ≤ 140737488355328 / 12 ∧ m.rs.length ≤ 140737488355328 / 24
theorem InM.mono {Rl Rl' : List (Nat × Obj)} {m : MM} (h : InM Rl m) (hR : ∀ e ∈ Rl,e ∈ Rl') : InM Rl' m :=
 ⟨h.v.mono hR,h.e.mono hR,h.r.mono hR,fun x hx => ⟨(h.i x hx).1.mono hR,(h.i x hx).2⟩,h.n⟩
theorem InM.zero (Rl : List (Nat × Obj)) : InM Rl m0 := ⟨fun h => absurd h (Nat.lt_irrefl 0),fun h => absurd h (Nat.lt_irrefl 0),fun h => absurd h (Nat.lt_irrefl 0),(fun x hx => by cases hx),by decide⟩
structure InC (Rl : List (Nat × Obj)) (c : CM) : Prop where
 d : c.d.length = 32
 p : InF dgc 32 Rl c.pa c.ps
 w : D32 c.ps
 n : c.ps.length ≤ 140737488355328 / 32
theorem InC.mono {Rl Rl' : List (Nat × Obj)} {c : CM} (h : InC Rl c) (hR : ∀ e ∈ Rl,e ∈ Rl') : InC Rl' c := ⟨h.d,h.p.mono hR,h.w,h.n⟩
theorem d0_len : d0.length = 32 := List.length_replicate
theorem InC.zero (Rl : List (Nat × Obj)) : InC Rl c0 := ⟨d0_len,fun h => absurd h (Nat.lt_irrefl 0),(fun x hx => by cases hx),by decide⟩
structure InO (Rl : List (Nat × Obj)) (o : OM) : Prop where
 m : InM Rl o.m
 c : InC Rl o.c
 t : o.t.d.length = 32
theorem InO.mono {Rl Rl' : List (Nat × Obj)} {o : OM} (h : InO Rl o) (hR : ∀ e ∈ Rl,e ∈ Rl') : InO Rl' o := ⟨h.m.mono hR,h.c.mono hR,h.t⟩
theorem clo_src {α : Type} {f : α → List Value} {sz : Nat} {Rl : List (Nat × Obj)} {a2 : Addr} {l : List α} (hI : InF f sz Rl (some a2) l) (hsz : ∀ x ∈ l,(f x).length = sz) {w : World} (hR : Has w Rl) {j : Nat} {v : Value} (hv : (l.flatMap f)[j]? = some v) : w.cell? (a2.add j) = some v := by
 have hj := (List.getElem?_eq_some_iff.1 hv).1
 rw [flat_len hsz] at hj
 obtain ⟨b,off,cs,t,fr,h1,hmem,hcs⟩ := hI om
 simp only [Option.some.injEq] at h1
 subst h1
 rw [add_none,cell_cells (hR _ hmem),hcs j hj]
 show some ((l.flatMap f).getD j undef) = some v
 rw [List.getD_eq_getElem?_getD,hv]; rfl
theorem clo_nil {α : Type} {f : α → List Value} {sz : Nat} (hz : 0 < sz) {Rl : List (Nat × Obj)} {la : Option Addr} {l : List α} (hI : InF f sz Rl la l) (h0 : la = none) : l = [] := by
 rcases Nat.eq_zero_or_pos l.length with h | h
 ·exact List.eq_nil_of_length_eq_zero h
 ·obtain ⟨b,off,cs,t,fr,h1,_⟩ := hI (Nat.mul_pos h hz)
  rw [h0] at h1; cases h1
theorem one_flat {α : Type} {f : α → List Value} {l : List α} (h : ∀ x,∀ v ∈ f x,K.one v = true) : ∀ v ∈ l.flatMap f,K.one v = true := fun v hv => by
 obtain ⟨x,_,hx⟩ := List.mem_flatMap.1 hv
 exact h x v hx
theorem one_u32 (n : Nat) : ∀ v ∈ u32c n,K.one v = true := fun v hv => by rw [List.mem_singleton.1 hv]; rfl
theorem one_edc (e : Ed) : ∀ v ∈ edc e,K.one v = true := fun v h => by
 simp only [edc,List.mem_cons,List.not_mem_nil,or_false] at h
 rcases h with rfl | rfl | rfl <;> rfl
theorem own_zero' (z : Nat) (sz : Nat) : OwnOk (some (z,0,[])) sz 0 [] := ⟨by simp,fun h => (by cases h),fun p hp => by simp only [Option.some.injEq] at hp; subst hp; simp⟩
set_option maxRecDepth 100000 in
set_option maxHeartbeats 2000000 in
theorem cloU (la : Option Addr) (cap : Nat) (l : List Nat) (Rl : List (Nat × Obj)) (w : World) (hI : InF u32c 1 Rl la l) (hR : Has w Rl) (hn : l.length ≤ 140737488355328 / 4) :
  Calls Tryz.prog 35 #[.slice la l.length cap] w fun e w' => ∃ o : K.Own,OwnOk o 1 l.length (l.flatMap u32c) ∧ e = .returned (.slice o.a l.length o.c) ∧ Has w' (o.o 73 (l.flatMap u32c)) ∧ (∀ x ∈ o.o 73 (l.flatMap u32c),w.heap.size ≤ x.1) ∧ Ext [] w w' := by
 refine enter [] Rl [] Tryz.func35 rfl kr (HP.ofHas hR) ?_
 refine Rq [0] ?_
 refine Rq [0,4] ?_
 refine Cfg.cond rfl (b := (la).isNone) kr (fun c1r => ?_) (fun c1r => ?_)
 ·have c1 : ((la).isNone = true) := c1r
  refine Rq [2] ?_
  refine Cfg.ret rfl (rs := [.tmp 2]) rfl [.slice none 0 0] ⟨kr,trivial⟩ (fun w1 hp => ?_)
  have hl := clo_nil (by decide) hI (Option.isNone_iff_eq_none.1 (by simpa using c1))
  subst hl
  exact ⟨none,OwnOk.none 1,rfl,(fun e he => by cases he),(fun e he => by cases he),hp.ext⟩
 ·have c1 : ((la).isNone = false) := c1r
  obtain ⟨a2,rfl⟩ : ∃ a,la = some a := Option.isSome_iff_exists.1 (by simpa [Option.isNone_iff_eq_none,Option.isSome_iff_ne_none] using c1)
  refine Cfg.begL rfl ?_
  refine Le (Eff.buildSlice (e := 73) (cells := #[]) (parts := #[]) rfl kr (fun _ => kr)) ?_
  rintro z ⟨hz,nz⟩
  refine Lq 1 [5,6] ?_
  refine Le (Eff.appendA rfl 1 4 Tryz.underlying22 kr (z := (.int .u32 0)) kr rfl (some (z,0,[])) (n := 0) (xs := []) (own_zero' z 1) kr a2 (m := l.length) (c2 := cap) kr (l.flatMap u32c) (flat_len (fun x _ => rfl)) (one_flat one_u32) (fun w1 h j v hj => clo_src hI (fun x _ => rfl) (h.hasR (fun e he => he)) hj) [] rfl om om) ?_
  rintro o ko
  refine Ld 1 [2] ?_
  refine Cfg.ret rfl (rs := [.tmp 2]) rfl [.slice (Own.a o) ((0 + l.length)) (Own.c o)] ⟨kr,trivial⟩ (fun w1 hp => ?_)
  have ko2 := ko
  rw [Nat.zero_add] at ko2
  exact ⟨o,ko2,by rw [Nat.zero_add]; rfl,fun x hx => hp.own x (by simpa using hx),fun x hx => (hp.mine x (by simpa using hx)).resolve_right (fun h => by cases h),hp.ext⟩
set_option maxRecDepth 100000 in
set_option maxHeartbeats 2000000 in
theorem cloE (la : Option Addr) (cap : Nat) (l : List Ed) (Rl : List (Nat × Obj)) (w : World) (hI : InF edc 3 Rl la l) (hR : Has w Rl) (hn : l.length ≤ 140737488355328 / 12) :
  Calls Tryz.prog 36 #[.slice la l.length cap] w fun e w' => ∃ o : K.Own,OwnOk o 3 l.length (l.flatMap edc) ∧ e = .returned (.slice o.a l.length o.c) ∧ Has w' (o.o 76 (l.flatMap edc)) ∧ (∀ x ∈ o.o 76 (l.flatMap edc),w.heap.size ≤ x.1) ∧ Ext [] w w' := by
 refine enter [] Rl [] Tryz.func36 rfl kr (HP.ofHas hR) ?_
 refine Rq [0] ?_
 refine Rq [0,4] ?_
 refine Cfg.cond rfl (b := (la).isNone) kr (fun c1r => ?_) (fun c1r => ?_)
 ·have c1 : ((la).isNone = true) := c1r
  refine Rq [2] ?_
  refine Cfg.ret rfl (rs := [.tmp 2]) rfl [.slice none 0 0] ⟨kr,trivial⟩ (fun w1 hp => ?_)
  have hl := clo_nil (by decide) hI (Option.isNone_iff_eq_none.1 (by simpa using c1))
  subst hl
  exact ⟨none,OwnOk.none 3,rfl,(fun e he => by cases he),(fun e he => by cases he),hp.ext⟩
 ·have c1 : ((la).isNone = false) := c1r
  obtain ⟨a2,rfl⟩ : ∃ a,la = some a := Option.isSome_iff_exists.1 (by simpa [Option.isNone_iff_eq_none,Option.isSome_iff_ne_none] using c1)
  refine Cfg.begL rfl ?_
  refine Le (Eff.buildSlice (e := 76) (cells := #[]) (parts := #[]) rfl kr (fun _ => kr)) ?_
  rintro z ⟨hz,nz⟩
  refine Lq 1 [5,6] ?_
  refine Le (Eff.appendA rfl 3 12 Tryz.underlying23 kr (z := (.agg #[.int .u32 0,.int .u32 0,.int .u32 0])) kr rfl (some (z,0,[])) (n := 0) (xs := []) (own_zero' z 3) kr a2 (m := l.length) (c2 := cap) kr (l.flatMap edc) (flat_len (fun x _ => edc_len x)) (one_flat one_edc) (fun w1 h j v hj => clo_src hI (fun x _ => edc_len x) (h.hasR (fun e he => he)) hj) [] rfl om om) ?_
  rintro o ko
  refine Ld 1 [2] ?_
  refine Cfg.ret rfl (rs := [.tmp 2]) rfl [.slice (Own.a o) ((0 + l.length)) (Own.c o)] ⟨kr,trivial⟩ (fun w1 hp => ?_)
  have ko2 := ko
  rw [Nat.zero_add] at ko2
  exact ⟨o,ko2,by rw [Nat.zero_add]; rfl,fun x hx => hp.own x (by simpa using hx),fun x hx => (hp.mine x (by simpa using hx)).resolve_right (fun h => by cases h),hp.ext⟩
set_option maxRecDepth 100000 in
theorem oFew (m : MM) (w : World) :
  Calls Tryz.prog 14 #[.agg (mc m).toArray] w fun e w' => e = .returned (.bool (fewF m)) ∧ Ext [] w w' := by
 refine enter [] [] [] Tryz.func14 rfl kr (HP.start w) ?_
 refine Cfg.begL rfl ?_
 refine Le (Eff.box (v := .agg (mc m).toArray) rfl kr) ?_
 rintro b1 ⟨hb1,nb1⟩
 refine Ld 1 [1] ?_
 refine Rg [2] [dZ,dZ,(dS (.slice m.va m.vs.length m.vc)),dZ,dZ,dZ,dZ,dZ,(dS (.slice m.ea m.es.length m.ec)),dZ,dZ,dZ,dZ,dZ,(dS (.slice m.ra m.rs.length m.rc))] (fun S => [(cE S b1 0 (.slice m.va m.vs.length m.vc)),((.bool (decide ((m.vs.length : Int) ≤ (70 : Int))) : Value) = .bool true → (cE S b1 1 (.slice m.ea m.es.length m.ec))),((.bool ((decide ((m.vs.length : Int) ≤ (70 : Int))) && (decide ((m.es.length : Int) ≤ (60 : Int)))) : Value) = .bool true → (cE S b1 2 (.slice m.ra m.rs.length m.rc)))]) ⟨(fun w1 h => h.ocell 0 rfl (by rw [List.getElem?_toArray]; exact rfl)),(fun g0 => have q0 : ((m.vs.length : Int) ≤ (70 : Int)) := (dT (boolV g0)); (fun w1 h => h.ocell 0 rfl (by rw [List.getElem?_toArray]; exact rfl))),(fun g0 => have q0 : (((m.vs.length : Int) ≤ (70 : Int)) ∧ ((m.es.length : Int) ≤ (60 : Int))) := ⟨(dT (andT1 (boolV g0))),(dT (andT2 (boolV g0)))⟩; (fun w1 h => h.ocell 0 rfl (by rw [List.getElem?_toArray]; exact rfl))),trivial⟩ ?_
 refine Cfg.ret rfl (rs := [.tmp 2]) rfl [.bool (((decide ((m.vs.length : Int) ≤ (70 : Int))) && (decide ((m.es.length : Int) ≤ (60 : Int)))) && (decide ((m.rs.length : Int) ≤ (80 : Int))))] ⟨kr,trivial⟩ (fun w1 hp => ?_)
 exact ⟨rfl,hp.ext⟩
end Go.Proofs.YtbeeelgfhfmgbaaGreatDoor
namespace Go.Proofs.YtbeeelgfhfmgbaaGreatDoor
open K
set_option linter.unusedVariables false
def edL (x : Ed) : List UInt8 := four x.1 ++ (four x.2.1 ++ four x.2.2)
def rowU (l : List Nat) : List UInt8 := four l.length ++ flat four l
def rowE (l : List Ed) : List UInt8 := four l.length ++ flat edL l
def rowD (l : List (List UInt8)) : List UInt8 := four l.length ++ flat (fun d => d) l
def mapL (vs : List Nat) (es : List Ed) (rs : List (List Nat)) : List UInt8 := rowU vs ++ (rowE es ++ flat rowU rs)
def comL (d : List UInt8) (ps : List (List UInt8)) (n : Nat) (t : ByteArray) : List UInt8 := d ++ (rowD ps ++ (eight n ++ text4 t))
def tagL (d : List UInt8) (t : ByteArray) : List UInt8 := d ++ text4 t
def takeEd (z : IN) : Ed × IN := (((fourF z).1,(fourF (fourF z).2).1,(fourF (fourF (fourF z).2).2).1),(fourF (fourF (fourF z).2).2).2)
def takeRs : Nat → IN → List (List Nat) × IN
 | 0,z => ([],z)
 | k + 1,z => ((rowsT fourF z 320).1 :: (takeRs k (rowsT fourF z 320).2).1,(takeRs k (rowsT fourF z 320).2).2)
theorem four_badz (z : IN) (h : z.er ≠ 0) : (fourF z).2 = z := by rw [four_bad h]
theorem ed_bad (z : IN) (h : z.er ≠ 0) : (takeEd z).2 = z := by
 unfold takeEd
 simp only
 rw [four_badz z h,four_badz z h,four_badz z h]
theorem ed_ok (z : IN) (h : (takeEd z).2.er = 0) : z.er = 0 ∧ z.rest = edL (takeEd z).1 ++ (takeEd z).2.rest := by
 obtain ⟨a1,a2⟩ := four_ok (z := (fourF (fourF z).2).2) h
 obtain ⟨b1,b2⟩ := four_ok (z := (fourF z).2) a1
 obtain ⟨c1,c2⟩ := four_ok (z := z) b1
 refine ⟨c1,?_⟩
 rw [c2,b2,a2]
 unfold edL takeEd
 simp only
 rw [List.append_assoc,List.append_assoc]
theorem ed_app (x : Ed) (r : List UInt8) (h : x.1 < 4294967296 ∧ x.2.1 < 4294967296 ∧ x.2.2 < 4294967296) : takeEd ⟨0,edL x ++ r⟩ = (x,⟨0,r⟩) := by
 unfold takeEd edL
 rw [List.append_assoc,List.append_assoc,fourF_app _ _ h.1]
 simp only
 rw [fourF_app _ _ h.2.1]
 simp only
 rw [fourF_app _ _ h.2.2]
theorem rowsG_ok {β : Type} {tk : IN → β × IN} {f : β → List UInt8} (hb : ∀ z,z.er ≠ 0 → (tk z).2 = z) (ht : ∀ z,(tk z).2.er = 0 → z.er = 0 ∧ z.rest = f (tk z).1 ++ (tk z).2.rest) {z : IN} {m : Nat} (h : (rowsT tk z (m : Int)).2.er = 0) :
  z.er = 0 ∧ z.rest = (four (rowsT tk z (m : Int)).1.length ++ flat f (rowsT tk z (m : Int)).1) ++ (rowsT tk z (m : Int)).2.rest ∧ (rowsT tk z (m : Int)).1.length ≤ m := by
 unfold rowsT at h ⊢
 obtain ⟨h1,l,h2,h3,h4⟩ := rows_ok (f := f) hb ht (boundF z m 6).1 (boundF z m 6).2 [] h
 obtain ⟨g1,g2,g3⟩ := bound_ok (by decide) h1
 have g3 : (boundF z m 6).1 ≤ m := Nat.le_trans g3 (by split <;> omega)
 rw [List.nil_append] at h2
 refine ⟨g1,?_,by rw [h2,h3]; exact g3⟩
 rw [g2,h4,h2,h3,List.append_assoc]
theorem rowsG_back {β : Type} {tk : IN → β × IN} {f : β → List UInt8} (xs : List β) (r : List UInt8) {m : Nat} (hl : xs.length ≤ m) (hm : m < 4294967296) (ht : ∀ x ∈ xs,∀ r,tk ⟨0,f x ++ r⟩ = (x,⟨0,r⟩)) : rowsT tk ⟨0,(four xs.length ++ flat f xs) ++ r⟩ (m : Int) = (xs,⟨0,r⟩) := by
 unfold rowsT
 rw [List.append_assoc,boundF_app xs.length _ om om]
 have h1 := rows_app (tk := tk) (f := f) xs r [] ht
 simpa using h1
theorem rowsF_le {β : Type} {tk : IN → β × IN} : ∀ (k : Nat) (z : IN) (acc : List β),(rowsF tk k z acc).1.length ≤ acc.length + k
 | 0,z,acc => Nat.le_refl _
 | k + 1,z,acc => by
  unfold rowsF
  split
  ·exact Nat.zero_le _
  ·have := rowsF_le (tk := tk) k (tk z).2 (acc ++ [(tk z).1])
   rw [List.length_append,List.length_singleton] at this; omega
theorem boundF_le (z : IN) {most e : Int} {m : Nat} (h : most ≤ (m : Int)) : (boundF z most e).1 ≤ m := by
 unfold boundF
 by_cases h0 : (fourF z).1 > (if 0 > most then 0 else most).toNat
 ·rw [if_pos h0]; exact Nat.zero_le _
 ·rw [if_neg h0]
  have : (if 0 > most then 0 else most).toNat ≤ m := by split <;> omega
  omega
theorem rowsG_len {β : Type} {tk : IN → β × IN} (z : IN) (m : Nat) : (rowsT tk z (m : Int)).1.length ≤ m := by
 have h1 := rowsF_le (tk := tk) (boundF z m 6).1 (boundF z m 6).2 []
 have h2 := boundF_le z (most := m) (e := 6) (m := m) (Int.le_refl _)
 unfold rowsT
 rw [List.length_nil] at h1; omega
theorem fourF_ok (z : IN) (h : (fourF z).2.er = 0) : z.er = 0 ∧ z.rest = four (fourF z).1 ++ (fourF z).2.rest := four_ok h
theorem rowU_ok {z : IN} {m : Nat} (h : (rowsT fourF z (m : Int)).2.er = 0) : z.er = 0 ∧ z.rest = rowU (rowsT fourF z (m : Int)).1 ++ (rowsT fourF z (m : Int)).2.rest ∧ (rowsT fourF z (m : Int)).1.length ≤ m := rowsG_ok four_badz fourF_ok h
theorem rowU_back (xs : List Nat) (r : List UInt8) {m : Nat} (hl : xs.length ≤ m) (hm : m < 4294967296) (hx : ∀ n ∈ xs,n < 4294967296) : rowsT fourF ⟨0,rowU xs ++ r⟩ (m : Int) = (xs,⟨0,r⟩) := rowsG_back xs r hl hm (fun x h r => fourF_app x r (hx x h))
theorem takeRs_ok : ∀ (k : Nat) (z : IN),(takeRs k z).2.er = 0 → z.er = 0 ∧ z.rest = flat rowU (takeRs k z).1 ++ (takeRs k z).2.rest ∧ (takeRs k z).1.length = k
 | 0,z,h => ⟨h,by simp [takeRs,flat],rfl⟩
 | k + 1,z,h => by
  obtain ⟨h1,h2,h3⟩ := takeRs_ok k (rowsT fourF z 320).2 h
  obtain ⟨g1,g2,_⟩ := rowU_ok (z := z) (m := 320) h1
  refine ⟨g1,?_,by show (takeRs k _).1.length + 1 = _; rw [h3]⟩
  have e : flat rowU (takeRs (k + 1) z).1 = rowU (rowsT fourF z 320).1 ++ flat rowU (takeRs k (rowsT fourF z 320).2).1 := by simp [takeRs,flat]
  rw [e,List.append_assoc]
  refine g2.trans (congrArg (fun q => rowU (rowsT fourF z 320).1 ++ q) ?_)
  exact h2
theorem takeRs_back : ∀ (rs : List (List Nat)) (r : List UInt8),(∀ x ∈ rs,x.length ≤ 320 ∧ ∀ n ∈ x,n < 4294967296) → takeRs rs.length ⟨0,flat rowU rs ++ r⟩ = (rs,⟨0,r⟩)
 | [],r,_ => by simp [takeRs,flat]
 | x :: rs,r,h => by
  have hx := h x mH
  have hf : flat rowU (x :: rs) ++ r = rowU x ++ (flat rowU rs ++ r) := by simp [flat]
  have h1 := rowU_back x (flat rowU rs ++ r) (m := 320) hx.1 (by decide) hx.2
  have h2 := takeRs_back rs r (fun y hy => h y (List.mem_cons_of_mem _ hy))
  have h1' : rowsT fourF ⟨0,rowU x ++ (flat rowU rs ++ r)⟩ 320 = (x,⟨0,flat rowU rs ++ r⟩) := h1
  rw [List.length_cons,hf,takeRs,h1']
  simp only
  rw [h2]
def tmV (z : IN) : List Nat × IN := rowsT fourF z 64
def tmE (z : IN) : List Ed × IN := rowsT takeEd (tmV z).2 160
def tmR (z : IN) : List (List Nat) × IN := takeRs (tmV z).1.length (tmE z).2
theorem map_ok {z : IN} (h : (tmR z).2.er = 0) : z.er = 0 ∧ z.rest = mapL (tmV z).1 (tmE z).1 (tmR z).1 ++ (tmR z).2.rest := by
 obtain ⟨a1,a2,_⟩ := takeRs_ok _ _ h
 obtain ⟨b1,b2,_⟩ := rowsG_ok (z := (tmV z).2) (m := 160) ed_bad ed_ok a1
 obtain ⟨c1,c2,_⟩ := rowU_ok (z := z) (m := 64) b1
 have b2' : (tmV z).2.rest = rowE (tmE z).1 ++ (tmE z).2.rest := b2
 have c2' : z.rest = rowU (tmV z).1 ++ (tmV z).2.rest := c2
 have a2' : (tmE z).2.rest = flat rowU (tmR z).1 ++ (tmR z).2.rest := a2
 refine ⟨c1,?_⟩
 rw [c2',b2',a2']
 unfold mapL
 simp only [List.append_assoc]
structure MapIn (vs : List Nat) (es : List Ed) (rs : List (List Nat)) : Prop where
 v : vs.length ≤ 64
 vn : ∀ n ∈ vs,n < 4294967296
 e : es.length ≤ 160
 en : ∀ x ∈ es,x.1 < 4294967296 ∧ x.2.1 < 4294967296 ∧ x.2.2 < 4294967296
 r : rs.length = vs.length
 rn : ∀ x ∈ rs,x.length ≤ 320 ∧ ∀ n ∈ x,n < 4294967296
theorem map_back {vs : List Nat} {es : List Ed} {rs : List (List Nat)} (h : MapIn vs es rs) (r : List UInt8) : (tmV ⟨0,mapL vs es rs ++ r⟩).1 = vs ∧ (tmE ⟨0,mapL vs es rs ++ r⟩).1 = es ∧ tmR ⟨0,mapL vs es rs ++ r⟩ = (rs,⟨0,r⟩) := by
 have e0 : mapL vs es rs ++ r = rowU vs ++ (rowE es ++ (flat rowU rs ++ r)) := by unfold mapL; simp only [List.append_assoc]
 have h1 : tmV ⟨0,mapL vs es rs ++ r⟩ = (vs,⟨0,rowE es ++ (flat rowU rs ++ r)⟩) := by rw [e0]; exact rowU_back vs _ (m := 64) h.v (by decide) h.vn
 have h2 : tmE ⟨0,mapL vs es rs ++ r⟩ = (es,⟨0,flat rowU rs ++ r⟩) := by
  unfold tmE; rw [h1]
  exact rowsG_back (f := edL) es _ (m := 160) h.e (by decide) (fun x hx r => ed_app x r (h.en x hx))
 have h3 : tmR ⟨0,mapL vs es rs ++ r⟩ = (rs,⟨0,r⟩) := by
  unfold tmR; rw [h1,h2]
  simp only
  rw [← h.r]
  exact takeRs_back rs r h.rn
 exact ⟨by rw [h1],by rw [h2],h3⟩
def tcP (z : IN) : List (List UInt8) × IN := rowsT digF (digF z).2 2
def tcN (z : IN) : Nat × IN := eightF (tcP z).2
def tcT (z : IN) : List UInt8 × IN := textF (tcN z).2 200
theorem dig_badz (z : IN) (h : z.er ≠ 0) : (digF z).2 = z := dig_bad h
theorem dig_okz (z : IN) (h : (digF z).2.er = 0) : z.er = 0 ∧ z.rest = (digF z).1 ++ (digF z).2.rest := dig_ok h
theorem com_ok {z : IN} (h : (tcT z).2.er = 0) : z.er = 0 ∧ z.rest = comL (digF z).1 (tcP z).1 (tcN z).1 (tx (tcT z).1) ++ (tcT z).2.rest := by
 obtain ⟨a1,a2⟩ := text_ok (z := (tcN z).2) h
 obtain ⟨b1,b2⟩ := eight_ok (z := (tcP z).2) a1
 obtain ⟨c1,c2,_⟩ := rowsG_ok (z := (digF z).2) (m := 2) (f := fun d => d) dig_badz dig_okz b1
 obtain ⟨d1,d2⟩ := dig_ok (z := z) c1
 have c2' : (digF z).2.rest = rowD (tcP z).1 ++ (tcP z).2.rest := c2
 have b2' : (tcP z).2.rest = eight (tcN z).1 ++ (tcN z).2.rest := b2
 have a2' : (tcN z).2.rest = text4 (tx (tcT z).1) ++ (tcT z).2.rest := a2
 refine ⟨d1,?_⟩
 rw [d2,c2',b2',a2']
 unfold comL
 simp only [List.append_assoc]
theorem com_back {d : List UInt8} {ps : List (List UInt8)} {n : Nat} {t : ByteArray} (hd : d.length = 32) (hp : ps.length ≤ 2) (hD : ∀ x ∈ ps,x.length = 32) (hn : n < 18446744073709551616) (ht : t.size ≤ 200) (r : List UInt8) :
  (digF ⟨0,comL d ps n t ++ r⟩).1 = d ∧ (tcP ⟨0,comL d ps n t ++ r⟩).1 = ps ∧ (tcN ⟨0,comL d ps n t ++ r⟩).1 = n ∧ tcT ⟨0,comL d ps n t ++ r⟩ = (t.data.toList,⟨0,r⟩) := by
 have e0 : comL d ps n t ++ r = d ++ (rowD ps ++ (eight n ++ (text4 t ++ r))) := by unfold comL; simp only [List.append_assoc]
 have h1 : digF ⟨0,comL d ps n t ++ r⟩ = (d,⟨0,rowD ps ++ (eight n ++ (text4 t ++ r))⟩) := by rw [e0]; exact digF_app d _ hd
 have h2 : tcP ⟨0,comL d ps n t ++ r⟩ = (ps,⟨0,eight n ++ (text4 t ++ r)⟩) := by
  unfold tcP; rw [h1]
  exact rowsG_back (f := fun d => d) ps _ (m := 2) hp (by decide) (fun x hx r => digF_app x r (hD x hx))
 have h3 : tcN ⟨0,comL d ps n t ++ r⟩ = (n,⟨0,text4 t ++ r⟩) := by unfold tcN; rw [h2]; exact eightF_app n _ hn
 have h4 : tcT ⟨0,comL d ps n t ++ r⟩ = (t.data.toList,⟨0,r⟩) := by unfold tcT; rw [h3]; exact textF_app t r om om
 exact ⟨by rw [h1],by rw [h2],by rw [h3],h4⟩
def ttT (z : IN) : List UInt8 × IN := textF (digF z).2 200
theorem tag_ok {z : IN} (h : (ttT z).2.er = 0) : z.er = 0 ∧ z.rest = tagL (digF z).1 (tx (ttT z).1) ++ (ttT z).2.rest := by
 obtain ⟨a1,a2⟩ := text_ok (z := (digF z).2) h
 obtain ⟨d1,d2⟩ := dig_ok (z := z) a1
 have a2' : (digF z).2.rest = text4 (tx (ttT z).1) ++ (ttT z).2.rest := a2
 refine ⟨d1,?_⟩
 rw [d2,a2']
 unfold tagL
 simp only [List.append_assoc]
theorem tag_back {d : List UInt8} {t : ByteArray} (hd : d.length = 32) (ht : t.size ≤ 200) (r : List UInt8) : (digF ⟨0,tagL d t ++ r⟩).1 = d ∧ ttT ⟨0,tagL d t ++ r⟩ = (t.data.toList,⟨0,r⟩) := by
 have e0 : tagL d t ++ r = d ++ (text4 t ++ r) := by unfold tagL; simp only [List.append_assoc]
 have h1 : digF ⟨0,tagL d t ++ r⟩ = (d,⟨0,text4 t ++ r⟩) := by rw [e0]; exact digF_app d _ hd
 have h4 : ttT ⟨0,tagL d t ++ r⟩ = (t.data.toList,⟨0,r⟩) := by unfold ttT; rw [h1]; exact textF_app t r om om
 exact ⟨by rw [h1],h4⟩
end Go.Proofs.YtbeeelgfhfmgbaaGreatDoor
namespace Go.Proofs.YtbeeelgfhfmgbaaGreatDoor
open K
set_option linter.unusedVariables false
def swpN (L : List Nat) (i j : Nat) : List Nat := (L.set i (L.getD j 0)).set j (L.getD i 0)
theorem swpN_len (L : List Nat) (i j : Nat) : (swpN L i j).length = L.length := by unfold swpN; rw [List.length_set,List.length_set]
def insJ (a : Nat) : Nat → List Nat → List Nat
 | 0,L => L
 | j + 1,L => if a < j + 1 ∧ L.getD (j + 1) 0 < L.getD j 0 then insJ a j (swpN L (j + 1) j) else L
def insO (a : Nat) : Nat → Nat → List Nat → List Nat
 | 0,_,L => L
 | c + 1,i,L => insO a c (i + 1) (insJ a i L)
def insF (L : List Nat) (a b : Nat) : List Nat := insO a (b - (a + 1)) (a + 1) L
theorem insJ_len (a : Nat) : ∀ (j : Nat) (L : List Nat),(insJ a j L).length = L.length
 | 0,_ => rfl
 | j + 1,L => by
  rw [insJ]; split
  ·rw [insJ_len a j,swpN_len]
  ·rfl
theorem insO_len (a : Nat) : ∀ (c i : Nat) (L : List Nat),(insO a c i L).length = L.length
 | 0,_,_ => rfl
 | c + 1,i,L => by rw [insO,insO_len a c,insJ_len]
theorem insF_len (L : List Nat) (a b : Nat) : (insF L a b).length = L.length := insO_len ..
def childF (L : List Nat) (hi first c : Nat) : Nat := if c + 1 < hi ∧ L.getD (first + c) 0 < L.getD (first + c + 1) 0 then c + 1 else c
def siftF (hi first : Nat) : Nat → Nat → List Nat → List Nat
 | 0,_,L => L
 | n + 1,r,L => if hi ≤ 2 * r + 1 then L else if L.getD (first + r) 0 < L.getD (first + childF L hi first (2 * r + 1)) 0 then siftF hi first n (childF L hi first (2 * r + 1)) (swpN L (first + r) (first + childF L hi first (2 * r + 1))) else L
theorem siftF_len (hi first : Nat) : ∀ (n r : Nat) (L : List Nat),(siftF hi first n r L).length = L.length
 | 0,_,_ => rfl
 | n + 1,r,L => by
  rw [siftF]; split
  ·rfl
  ·split
   ·rw [siftF_len hi first n,swpN_len]
   ·rfl
def heapB (hi first : Nat) : Nat → List Nat → List Nat
 | 0,L => L
 | i + 1,L => heapB hi first i (siftF hi first (hi + 1) i L)
def heapP (first : Nat) : Nat → List Nat → List Nat
 | 0,L => L
 | i + 1,L => heapP first i (siftF i first (i + 1) 0 (swpN L first (first + i)))
def heapF (L : List Nat) (a b : Nat) : List Nat := heapP a (b - a) (heapB (b - a) a ((b - a + 1) / 2) L)
theorem heapB_len (hi first : Nat) : ∀ (i : Nat) (L : List Nat),(heapB hi first i L).length = L.length
 | 0,_ => rfl
 | i + 1,L => by rw [heapB,heapB_len hi first i,siftF_len]
theorem heapP_len (first : Nat) : ∀ (i : Nat) (L : List Nat),(heapP first i L).length = L.length
 | 0,_ => rfl
 | i + 1,L => by rw [heapP,heapP_len first i,siftF_len,swpN_len]
theorem heapF_len (L : List Nat) (a b : Nat) : (heapF L a b).length = L.length := by unfold heapF; rw [heapP_len,heapB_len]
def ord2 (L : List Nat) (a b s : Nat) : Nat × Nat × Nat := if L.getD b 0 < L.getD a 0 then (b,a,s + 1) else (a,b,s)
def medF (L : List Nat) (a b c s : Nat) : Nat × Nat :=
 let x := ord2 L a b s
 let y := ord2 L x.2.1 c x.2.2
 let z := ord2 L x.1 y.1 y.2.2
 (z.2.1,z.2.2)
theorem ord2_in {L : List Nat} {a b s n : Nat} (ha : a < n) (hb : b < n) : (ord2 L a b s).1 < n ∧ (ord2 L a b s).2.1 < n ∧ (ord2 L a b s).2.2 ≤ s + 1 := by
 unfold ord2; split
 ·exact ⟨hb,ha,Nat.le_refl _⟩
 ·exact ⟨ha,hb,Nat.le_succ _⟩
theorem medF_in {L : List Nat} {a b c s n : Nat} (ha : a < n) (hb : b < n) (hc : c < n) : (medF L a b c s).1 < n ∧ (medF L a b c s).2 ≤ s + 3 := by
 unfold medF
 have h1 := ord2_in (L := L) (s := s) ha hb
 have h2 := ord2_in (L := L) (s := (ord2 L a b s).2.2) h1.2.1 hc
 have h3 := ord2_in (L := L) (s := (ord2 L (ord2 L a b s).2.1 c (ord2 L a b s).2.2).2.2) h1.1 h2.1
 simp only
 exact ⟨h3.2.1,by omega⟩
theorem ord2_ge {L : List Nat} {a b s m : Nat} (ha : m ≤ a) (hb : m ≤ b) : m ≤ (ord2 L a b s).1 ∧ m ≤ (ord2 L a b s).2.1 := by
 unfold ord2; split
 ·exact ⟨hb,ha⟩
 ·exact ⟨ha,hb⟩
theorem medF_ge {L : List Nat} {a b c s m : Nat} (ha : m ≤ a) (hb : m ≤ b) (hc : m ≤ c) : m ≤ (medF L a b c s).1 := by
 unfold medF
 have h1 := ord2_ge (L := L) (s := s) ha hb
 have h2 := ord2_ge (L := L) (s := (ord2 L a b s).2.2) h1.2 hc
 exact (ord2_ge (L := L) (s := (ord2 L (ord2 L a b s).2.1 c (ord2 L a b s).2.2).2.2) h1.1 h2.1).2
def medA (L : List Nat) (a s : Nat) : Nat × Nat := medF L (a - 1) a (a + 1) s
def hintF (s : Nat) : Nat := if s = 0 then 1 else if s = 12 then 2 else 0
def chpN (L : List Nat) (a l : Nat) : Nat × Nat :=
 if 50 ≤ l then
  let x := medA L (a + l / 4) 0
  let y := medA L (a + l / 4 * 2) x.2
  let z := medA L (a + l / 4 * 3) y.2
  medF L x.1 y.1 z.1 z.2
 else medF L (a + l / 4) (a + l / 4 * 2) (a + l / 4 * 3) 0
theorem chpN_in {L : List Nat} {a l : Nat} (hl : 12 < l) : a ≤ (chpN L a l).1 ∧ (chpN L a l).1 < a + l ∧ (chpN L a l).2 ≤ 12 := by
 unfold chpN
 split
 ·have x1 := medF_in (L := L) (a := a + l / 4 - 1) (b := a + l / 4) (c := a + l / 4 + 1) (s := 0) (n := a + l) om om om
  have x2 := medF_ge (L := L) (a := a + l / 4 - 1) (b := a + l / 4) (c := a + l / 4 + 1) (s := 0) (m := a) om om om
  have y1 := medF_in (L := L) (a := a + l / 4 * 2 - 1) (b := a + l / 4 * 2) (c := a + l / 4 * 2 + 1) (s := (medA L (a + l / 4) 0).2) (n := a + l) om om om
  have y2 := medF_ge (L := L) (a := a + l / 4 * 2 - 1) (b := a + l / 4 * 2) (c := a + l / 4 * 2 + 1) (s := (medA L (a + l / 4) 0).2) (m := a) om om om
  have z1 := medF_in (L := L) (a := a + l / 4 * 3 - 1) (b := a + l / 4 * 3) (c := a + l / 4 * 3 + 1) (s := (medA L (a + l / 4 * 2) (medA L (a + l / 4) 0).2).2) (n := a + l) om om om
  have z2 := medF_ge (L := L) (a := a + l / 4 * 3 - 1) (b := a + l / 4 * 3) (c := a + l / 4 * 3 + 1) (s := (medA L (a + l / 4 * 2) (medA L (a + l / 4) 0).2).2) (m := a) om om om
  have m1 := medF_in (L := L) (s := (medA L (a + l / 4 * 3) (medA L (a + l / 4 * 2) (medA L (a + l / 4) 0).2).2).2) x1.1 y1.1 z1.1
  have m2 := medF_ge (L := L) (s := (medA L (a + l / 4 * 3) (medA L (a + l / 4 * 2) (medA L (a + l / 4) 0).2).2).2) x2 y2 z2
  have x3 : (medA L (a + l / 4) 0).2 ≤ 0 + 3 := x1.2
  have y3 : (medA L (a + l / 4 * 2) (medA L (a + l / 4) 0).2).2 ≤ (medA L (a + l / 4) 0).2 + 3 := y1.2
  have z3 : (medA L (a + l / 4 * 3) (medA L (a + l / 4 * 2) (medA L (a + l / 4) 0).2).2).2 ≤ (medA L (a + l / 4 * 2) (medA L (a + l / 4) 0).2).2 + 3 := z1.2
  simp only
  exact ⟨m2,m1.1,Nat.le_trans m1.2 om⟩
 ·have m1 := medF_in (L := L) (a := a + l / 4) (b := a + l / 4 * 2) (c := a + l / 4 * 3) (s := 0) (n := a + l) om om om
  have m2 := medF_ge (L := L) (a := a + l / 4) (b := a + l / 4 * 2) (c := a + l / 4 * 3) (s := 0) (m := a) om om om
  exact ⟨m2,m1.1,by omega⟩
def revF : Nat → Nat → Nat → List Nat → List Nat
 | 0,_,_,L => L
 | n + 1,i,j,L => if i < j then revF n (i + 1) (j - 1) (swpN L i j) else L
theorem revF_len : ∀ (n i j : Nat) (L : List Nat),(revF n i j L).length = L.length
 | 0,_,_,_ => rfl
 | n + 1,i,j,L => by
  rw [revF]; split
  ·rw [revF_len n,swpN_len]
  ·rfl
def scanF (L : List Nat) (b : Nat) : Nat → Nat → Nat
 | 0,i => i
 | n + 1,i => if i < b ∧ ¬ L.getD i 0 < L.getD (i - 1) 0 then scanF L b n (i + 1) else i
def shrF (b : Nat) : Nat → Nat → List Nat → List Nat
 | 0,_,L => L
 | n + 1,j,L => if j < b then (if L.getD j 0 < L.getD (j - 1) 0 then shrF b n (j + 1) (swpN L j (j - 1)) else L) else L
theorem shrF_len (b : Nat) : ∀ (n j : Nat) (L : List Nat),(shrF b n j L).length = L.length
 | 0,_,_ => rfl
 | n + 1,j,L => by
  rw [shrF]; split
  ·split
   ·rw [shrF_len b n,swpN_len]
   ·rfl
  ·rfl
def fixF (L : List Nat) (a b i : Nat) : List Nat :=
 let L1 := swpN L i (i - 1)
 let L2 := if 2 ≤ i - a then insJ 0 (i - 1) L1 else L1
 if 2 ≤ b - i then shrF b (b - i) (i + 1) L2 else L2
theorem fixF_len (L : List Nat) (a b i : Nat) : (fixF L a b i).length = L.length := by
 unfold fixF
 simp only
 split
 ·rw [shrF_len]; split
  ·rw [insJ_len,swpN_len]
  ·rw [swpN_len]
 ·split
  ·rw [insJ_len,swpN_len]
  ·rw [swpN_len]
def pisF (a b : Nat) : Nat → Nat → List Nat → Bool × List Nat
 | 0,_,L => (false,L)
 | n + 1,i,L => if scanF L b (b - i) i = b then (true,L) else if b - a < 50 then (false,L) else pisF a b n (scanF L b (b - i) i) (fixF L a b (scanF L b (b - i) i))
theorem pisF_len (a b : Nat) : ∀ (n i : Nat) (L : List Nat),(pisF a b n i L).2.length = L.length
 | 0,_,_ => rfl
 | n + 1,i,L => by
  rw [pisF]; split
  ·rfl
  ·split
   ·rfl
   ·rw [pisF_len a b n,fixF_len]
theorem scanF_in {L : List Nat} {b : Nat} : ∀ {n i : Nat},i ≤ b → i ≤ scanF L b n i ∧ scanF L b n i ≤ b
 | 0,i,h => ⟨Nat.le_refl _,h⟩
 | n + 1,i,h => by
  rw [scanF]; split
  ·rename_i h1
   have := scanF_in (L := L) (b := b) (n := n) (i := i + 1) (by have := h1.1; omega)
   exact ⟨by omega,this.2⟩
  ·exact ⟨Nat.le_refl _,h⟩
def upF (L : List Nat) (a : Nat) (e : Bool) (j : Nat) : Nat → Nat → Nat
 | 0,i => i
 | n + 1,i => if i ≤ j ∧ (bif e then !decide (L.getD a 0 < L.getD i 0) else decide (L.getD i 0 < L.getD a 0)) = true then upF L a e j n (i + 1) else i
def dnF (L : List Nat) (a : Nat) (e : Bool) (i : Nat) : Nat → Nat → Nat
 | 0,j => j
 | n + 1,j => if i ≤ j ∧ (bif e then decide (L.getD a 0 < L.getD j 0) else !decide (L.getD j 0 < L.getD a 0)) = true then dnF L a e i n (j - 1) else j
theorem upF_in {L : List Nat} {a : Nat} {e : Bool} {j : Nat} : ∀ {n i : Nat},i ≤ upF L a e j n i ∧ upF L a e j n i ≤ max i (j + 1)
 | 0,i => ⟨Nat.le_refl _,Nat.le_max_left ..⟩
 | n + 1,i => by
  rw [upF]; split
  ·rename_i h1
   have h2 := h1.1
   have := upF_in (L := L) (a := a) (e := e) (j := j) (n := n) (i := i + 1)
   exact ⟨by omega,by omega⟩
  ·exact ⟨Nat.le_refl _,Nat.le_max_left ..⟩
theorem dnF_in {L : List Nat} {a : Nat} {e : Bool} {i : Nat} (hi : 0 < i) : ∀ {n j : Nat},dnF L a e i n j ≤ j ∧ min j (i - 1) ≤ dnF L a e i n j
 | 0,j => ⟨Nat.le_refl _,Nat.min_le_left ..⟩
 | n + 1,j => by
  rw [dnF]; split
  ·rename_i h1
   have h2 := h1.1
   have := dnF_in (L := L) (a := a) (e := e) hi (n := n) (j := j - 1)
   exact ⟨by omega,by omega⟩
  ·exact ⟨Nat.le_refl _,Nat.min_le_left ..⟩
def parL (a : Nat) (e : Bool) : Nat → Nat → Nat → List Nat → List Nat × Nat × Nat
 | 0,i,j,L => (L,i,j)
 | n + 1,i,j,L => if dnF L a e (upF L a e j (j + 1 - i) i) (j + 1 - upF L a e j (j + 1 - i) i) j < upF L a e j (j + 1 - i) i then (L,upF L a e j (j + 1 - i) i,dnF L a e (upF L a e j (j + 1 - i) i) (j + 1 - upF L a e j (j + 1 - i) i) j)
  else parL a e n (upF L a e j (j + 1 - i) i + 1) (dnF L a e (upF L a e j (j + 1 - i) i) (j + 1 - upF L a e j (j + 1 - i) i) j - 1) (swpN L (upF L a e j (j + 1 - i) i) (dnF L a e (upF L a e j (j + 1 - i) i) (j + 1 - upF L a e j (j + 1 - i) i) j))
theorem parL_in {a b : Nat} {e : Bool} : ∀ {n i j : Nat} {L : List Nat},a + 1 ≤ i → i ≤ b → a ≤ j → j < b → (parL a e n i j L).1.length = L.length ∧ a + 1 ≤ (parL a e n i j L).2.1 ∧ (parL a e n i j L).2.1 ≤ b ∧ a ≤ (parL a e n i j L).2.2 ∧ (parL a e n i j L).2.2 < b
 | 0,i,j,L,h1,h2,h3,h4 => ⟨rfl,h1,h2,h3,h4⟩
 | n + 1,i,j,L,h1,h2,h3,h4 => by
  have u := upF_in (L := L) (a := a) (e := e) (j := j) (n := j + 1 - i) (i := i)
  have d := dnF_in (L := L) (a := a) (e := e) (i := upF L a e j (j + 1 - i) i) om (n := j + 1 - upF L a e j (j + 1 - i) i) (j := j)
  rw [parL]
  generalize upF L a e j (j + 1 - i) i = i1 at *
  generalize dnF L a e i1 (j + 1 - i1) j = j1 at *
  split
  ·exact ⟨rfl,by show a + 1 ≤ i1; omega,by show i1 ≤ b; omega,by show a ≤ j1; omega,by show j1 < b; omega⟩
  ·rename_i h5
   have k1 : a + 1 ≤ i1 + 1 := by omega
   have k2 : i1 + 1 ≤ b := by omega
   have k3 : a ≤ j1 - 1 := by omega
   have k4 : j1 - 1 < b := by omega
   have r := parL_in (a := a) (b := b) (e := e) (n := n) (L := swpN L i1 j1) k1 k2 k3 k4
   rw [swpN_len] at r
   exact r
def partF (L : List Nat) (a b p : Nat) : List Nat × Nat × Bool :=
 let L1 := swpN L a p
 let i := upF L1 a false (b - 1) (b - 1 + 1 - (a + 1)) (a + 1)
 let j := dnF L1 a false i (b - 1 + 1 - i) (b - 1)
 if j < i then (swpN L1 j a,j,true) else (swpN (parL a false (b - a) (i + 1) (j - 1) (swpN L1 i j)).1 (parL a false (b - a) (i + 1) (j - 1) (swpN L1 i j)).2.2 a,(parL a false (b - a) (i + 1) (j - 1) (swpN L1 i j)).2.2,false)
theorem partF_in {L : List Nat} {a b p : Nat} (h : a + 1 < b) : (partF L a b p).1.length = L.length ∧ a ≤ (partF L a b p).2.1 ∧ (partF L a b p).2.1 < b := by
 have u := upF_in (L := swpN L a p) (a := a) (e := false) (j := b - 1) (n := b - 1 + 1 - (a + 1)) (i := a + 1)
 have d := dnF_in (L := swpN L a p) (a := a) (e := false) (i := upF (swpN L a p) a false (b - 1) (b - 1 + 1 - (a + 1)) (a + 1)) om (n := b - 1 + 1 - upF (swpN L a p) a false (b - 1) (b - 1 + 1 - (a + 1)) (a + 1)) (j := b - 1)
 unfold partF
 simp only
 generalize upF (swpN L a p) a false (b - 1) (b - 1 + 1 - (a + 1)) (a + 1) = i1 at *
 generalize dnF (swpN L a p) a false i1 (b - 1 + 1 - i1) (b - 1) = j1 at *
 split
 ·exact ⟨by rw [swpN_len,swpN_len],by show a ≤ j1; omega,by show j1 < b; omega⟩
 ·rename_i h4
  have k1 : a + 1 ≤ i1 + 1 := by omega
  have k2 : i1 + 1 ≤ b := by omega
  have k3 : a ≤ j1 - 1 := by omega
  have k4 : j1 - 1 < b := by omega
  have r := parL_in (a := a) (b := b) (e := false) (n := b - a) (L := swpN (swpN L a p) i1 j1) k1 k2 k3 k4
  rw [swpN_len,swpN_len] at r
  exact ⟨by rw [swpN_len]; exact r.1,r.2.2.2.1,r.2.2.2.2⟩
def peqF (L : List Nat) (a b p : Nat) : List Nat × Nat := ((parL a true (b - a) (a + 1) (b - 1) (swpN L a p)).1,(parL a true (b - a) (a + 1) (b - 1) (swpN L a p)).2.1)
theorem peqF_in {L : List Nat} {a b p : Nat} (h : a + 1 < b) : (peqF L a b p).1.length = L.length ∧ a + 1 ≤ (peqF L a b p).2 ∧ (peqF L a b p).2 ≤ b := by
 have r := parL_in (a := a) (b := b) (e := true) (n := b - a) (L := swpN L a p) (i := a + 1) (j := b - 1) om om om om
 rw [swpN_len] at r
 exact ⟨r.1,r.2.1,r.2.2.1⟩
def xsN (r : Nat) : Nat :=
 let r1 := r ^^^ (r * 2 ^ 13 % 18446744073709551616)
 let r2 := r1 ^^^ (r1 / 2 ^ 7)
 r2 ^^^ (r2 * 2 ^ 17 % 18446744073709551616)
def lenN (n : Nat) : Nat := if n = 0 then 0 else Nat.log2 n + 1
theorem lenN_lt {n : Nat} (h : 0 < n) : n < 2 ^ lenN n ∧ 2 ^ lenN n ≤ 2 * n := by
 unfold lenN
 rw [if_neg om]
 refine ⟨Nat.lt_log2_self,?_⟩
 have := Nat.log2_self_le (n := n) om
 rw [Nat.pow_succ]; omega
def othN (l r : Nat) : Nat := if l ≤ (r &&& (2 ^ lenN l - 1)) then (r &&& (2 ^ lenN l - 1)) - l else (r &&& (2 ^ lenN l - 1))
theorem othN_lt {l r : Nat} (h : 0 < l) : othN l r < l := by
 have h1 := lenN_lt h
 have h2 : (r &&& (2 ^ lenN l - 1)) ≤ 2 ^ lenN l - 1 := Nat.and_le_right
 unfold othN
 split <;> omega
def brkL (a l : Nat) : Nat → Nat → Nat → List Nat → List Nat
 | 0,_,_,L => L
 | n + 1,i,r,L => brkL a l n (i + 1) (xsN r) (swpN L i (a + othN l (xsN r)))
theorem brkL_len (a l : Nat) : ∀ (n i r : Nat) (L : List Nat),(brkL a l n i r L).length = L.length
 | 0,_,_,_ => rfl
 | n + 1,i,r,L => by rw [brkL,brkL_len a l n,swpN_len]
def brkF (L : List Nat) (a b : Nat) : List Nat := brkL a (b - a) 3 (a + (b - a) / 4 * 2 - 1) (b - a) L
theorem brkF_len (L : List Nat) (a b : Nat) : (brkF L a b).length = L.length := brkL_len ..
def preF (L : List Nat) (a b : Nat) (wb wp : Bool) : Bool × List Nat × Nat :=
 let L1 := bif wb then L else brkF L a b
 let c := chpN L1 a (b - a)
 let L2 := if c.2 = 12 then revF (b - a) a (b - 1) L1 else L1
 let p := if c.2 = 12 then b - 1 - (c.1 - a) else c.1
 if wb = true ∧ wp = true ∧ (c.2 = 0 ∨ c.2 = 12) then ((pisF a b 5 (a + 1) L2).1,(pisF a b 5 (a + 1) L2).2,p) else (false,L2,p)
theorem preF_in {L : List Nat} {a b : Nat} {wb wp : Bool} (h : 12 < b - a) : (preF L a b wb wp).2.1.length = L.length ∧ a ≤ (preF L a b wb wp).2.2 ∧ (preF L a b wb wp).2.2 < b := by
 unfold preF
 simp only
 have hl : (bif wb then L else brkF L a b).length = L.length := by cases wb <;> simp [brkF_len]
 generalize (bif wb then L else brkF L a b) = L1 at hl ⊢
 have hc := chpN_in (L := L1) (a := a) (l := b - a) h
 have hp : a ≤ (if (chpN L1 a (b - a)).2 = 12 then b - 1 - ((chpN L1 a (b - a)).1 - a) else (chpN L1 a (b - a)).1) ∧ (if (chpN L1 a (b - a)).2 = 12 then b - 1 - ((chpN L1 a (b - a)).1 - a) else (chpN L1 a (b - a)).1) < b := by
  split <;> omega
 have h2 : (if (chpN L1 a (b - a)).2 = 12 then revF (b - a) a (b - 1) L1 else L1).length = L.length := by
  split
  ·rw [revF_len]; exact hl
  ·exact hl
 split
 ·exact ⟨by rw [pisF_len]; exact h2,hp⟩
 ·exact ⟨h2,hp⟩
def pdqF : Nat → List Nat → Nat → Nat → Nat → Bool → Bool → List Nat
 | 0,L,_,_,_,_,_ => L
 | n + 1,L,a,b,lim,wb,wp =>
  if b - a ≤ 12 then insF L a b
  else if lim = 0 then heapF L a b
  else if (preF L a b wb wp).1 = true then (preF L a b wb wp).2.1
  else if 0 < a ∧ ¬ (preF L a b wb wp).2.1.getD (a - 1) 0 < (preF L a b wb wp).2.1.getD (preF L a b wb wp).2.2 0 then
   pdqF n (peqF (preF L a b wb wp).2.1 a b (preF L a b wb wp).2.2).1 (peqF (preF L a b wb wp).2.1 a b (preF L a b wb wp).2.2).2 b (bif wb then lim else lim - 1) wb wp
  else if (partF (preF L a b wb wp).2.1 a b (preF L a b wb wp).2.2).2.1 - a < b - (partF (preF L a b wb wp).2.1 a b (preF L a b wb wp).2.2).2.1 then
   pdqF n (pdqF n (partF (preF L a b wb wp).2.1 a b (preF L a b wb wp).2.2).1 a (partF (preF L a b wb wp).2.1 a b (preF L a b wb wp).2.2).2.1 (bif wb then lim else lim - 1) true true) ((partF (preF L a b wb wp).2.1 a b (preF L a b wb wp).2.2).2.1 + 1) b (bif wb then lim else lim - 1) (decide ((b - a) / 8 ≤ (partF (preF L a b wb wp).2.1 a b (preF L a b wb wp).2.2).2.1 - a)) (partF (preF L a b wb wp).2.1 a b (preF L a b wb wp).2.2).2.2
  else
   pdqF n (pdqF n (partF (preF L a b wb wp).2.1 a b (preF L a b wb wp).2.2).1 ((partF (preF L a b wb wp).2.1 a b (preF L a b wb wp).2.2).2.1 + 1) b (bif wb then lim else lim - 1) true true) a (partF (preF L a b wb wp).2.1 a b (preF L a b wb wp).2.2).2.1 (bif wb then lim else lim - 1) (decide ((b - a) / 8 ≤ b - (partF (preF L a b wb wp).2.1 a b (preF L a b wb wp).2.2).2.1)) (partF (preF L a b wb wp).2.1 a b (preF L a b wb wp).2.2).2.2
theorem pdqF_len : ∀ (n : Nat) (L : List Nat) (a b lim : Nat) (wb wp : Bool),(pdqF n L a b lim wb wp).length = L.length
 | 0,_,_,_,_,_,_ => rfl
 | n + 1,L,a,b,lim,wb,wp => by
  rw [pdqF]
  split
  ·exact insF_len ..
  ·rename_i h0
   have h1 := preF_in (L := L) (a := a) (b := b) (wb := wb) (wp := wp) om
   split
   ·exact heapF_len ..
   ·split
    ·exact h1.1
    ·split
     ·rw [pdqF_len n,(peqF_in om).1]; exact h1.1
     ·split
      ·rw [pdqF_len n,pdqF_len n,(partF_in om).1]; exact h1.1
      ·rw [pdqF_len n,pdqF_len n,(partF_in om).1]; exact h1.1
def sortN (L : List Nat) : List Nat := pdqF (L.length + 1) L 0 L.length (lenN L.length) true true
theorem sortN_len (L : List Nat) : (sortN L).length = L.length := pdqF_len ..
end Go.Proofs.YtbeeelgfhfmgbaaGreatDoor
namespace Go.Proofs.YtbeeelgfhfmgbaaGreatDoor
open K
set_option linter.unusedVariables false
def numE (n a : Nat) (f : Bool) : Int := if n < 1 ∨ n > 1048576 then 2 else if f = false ∧ n ≤ a then 19 else 0
def gV : List Nat → Nat → Bool → Int
 | [],_,_ => 0
 | v :: l,a,f => if numE v a f ≠ 0 then numE v a f else gV l v false
def gE (vs : List Nat) : List Ed → Nat → Bool → Int
 | [],_,_ => 0
 | x :: l,a,f => if numE x.1 a f ≠ 0 then numE x.1 a f else if x.2.1 = x.2.2 then 20 else if x.2.1 ∈ vs ∧ x.2.2 ∈ vs then gE vs l x.1 false else 21
def graphF (vs : List Nat) (es : List Ed) : Int := if vs.length > 64 ∨ es.length > 160 then 6 else if gV vs 0 true ≠ 0 then gV vs 0 true else gE vs es 0 true
theorem numE_first (n a b : Nat) : numE n a true = numE n b true := by unfold numE; simp
theorem gE_first (vs : List Nat) (l : List Ed) (a b : Nat) : gE vs l a true = gE vs l b true := by
 cases l with
 | nil => rfl
 | cons x l => rw [gE,gE,numE_first x.1 a b]
theorem numE_ok {n a : Nat} {f : Bool} (h : numE n a f = 0) : 1 ≤ n ∧ n ≤ 1048576 := by
 unfold numE at h
 split at h
 ·exact absurd h (by decide)
 ·rename_i h1; omega
theorem gE_in {vs : List Nat} : ∀ {l : List Ed} {a : Nat} {f : Bool},gE vs l a f = 0 → ∀ x ∈ l,(1 ≤ x.1 ∧ x.1 ≤ 1048576) ∧ x.2.1 ∈ vs ∧ x.2.2 ∈ vs ∧ x.2.1 ≠ x.2.2
 | [],_,_,_,x,hx => by cases hx
 | y :: l,a,f,h,x,hx => by
  rw [gE] at h
  split at h
  ·rename_i h0; exact absurd h h0
  ·rename_i h0
   split at h
   ·exact absurd h (by decide)
   ·rename_i h1
    split at h
    ·rename_i h2
     rcases List.mem_cons.1 hx with rfl | hx
     ·exact ⟨numE_ok (Decidable.not_not.1 h0),h2.1,h2.2,h1⟩
     ·exact gE_in h x hx
    ·exact absurd h (by decide)
theorem gV_in : ∀ {l : List Nat} {a : Nat} {f : Bool},gV l a f = 0 → ∀ v ∈ l,1 ≤ v ∧ v ≤ 1048576
 | [],_,_,_,x,hx => by cases hx
 | y :: l,a,f,h,x,hx => by
  rw [gV] at h
  split at h
  ·rename_i h0; exact absurd h h0
  ·rename_i h0
   rcases List.mem_cons.1 hx with rfl | hx
   ·exact numE_ok (Decidable.not_not.1 h0)
   ·exact gV_in h x hx
structure GrOk (vs : List Nat) (es : List Ed) : Prop where
 v : vs.length ≤ 64
 e : es.length ≤ 160
 vn : ∀ v ∈ vs,1 ≤ v ∧ v ≤ 1048576
 en : ∀ x ∈ es,(1 ≤ x.1 ∧ x.1 ≤ 1048576) ∧ x.2.1 ∈ vs ∧ x.2.2 ∈ vs ∧ x.2.1 ≠ x.2.2
theorem graphF_ok {vs : List Nat} {es : List Ed} (h : graphF vs es = 0) : GrOk vs es := by
 unfold graphF at h
 split at h
 ·exact absurd h (by decide)
 ·rename_i h0
  split at h
  ·rename_i h1; exact absurd h h1
  ·rename_i h1
   exact ⟨by omega,by omega,gV_in (Decidable.not_not.1 h1),gE_in h⟩
def endsF (es : List Ed) (v : Nat) : List Nat := es.flatMap fun x => (if x.2.1 = v then [2 * x.1] else []) ++ (if x.2.2 = v then [2 * x.1 + 1] else [])
theorem endsF_len (es : List Ed) (v : Nat) : (endsF es v).length ≤ 2 * es.length := by
 unfold endsF
 induction es with
 | nil => exact Nat.zero_le _
 | cons x l ih =>
  rw [List.flatMap_cons,List.length_append,List.length_append,List.length_cons]
  have h1 : (if x.2.1 = v then [2 * x.1] else []).length ≤ 1 := by split <;> simp
  have h2 : (if x.2.2 = v then [2 * x.1 + 1] else []).length ≤ 1 := by split <;> simp
  omega
def turnF (es : List Ed) (v : Nat) (t : List Nat) : Bool := decide (t.length = (endsF es v).length) && (t.isEmpty || decide (t.getD 0 0 = (endsF es v).getD 0 0)) && decide (sortN t = endsF es v)
def rotL (es : List Ed) : List Nat → List (List Nat) → Int
 | v :: vs,t :: rs => if turnF es v t then rotL es vs rs else 22
 | _,_ => 0
def checkR (vs : List Nat) (es : List Ed) (rs : List (List Nat)) : Int := if graphF vs es ≠ 0 then graphF vs es else if rs.length ≠ vs.length then 22 else rotL es vs rs
theorem turnF_in {es : List Ed} {v : Nat} {t : List Nat} (h : turnF es v t = true) : t.length = (endsF es v).length := by
 unfold turnF at h
 rw [Bool.and_eq_true,Bool.and_eq_true,decide_eq_true_eq,decide_eq_true_eq] at h
 exact h.1.1
theorem rotL_in {es : List Ed} : ∀ {vs : List Nat} {rs : List (List Nat)},rotL es vs rs = 0 → rs.length = vs.length → ∀ t ∈ rs,t.length ≤ 2 * es.length
 | [],[],_,_,t,ht => by cases ht
 | v :: vs,t0 :: rs,h,hl,t,ht => by
  rw [rotL] at h
  split at h
  ·rename_i h0
   rcases List.mem_cons.1 ht with rfl | ht
   ·rw [turnF_in h0]; exact endsF_len es v
   ·exact rotL_in h (by simpa using hl) t ht
  ·exact absurd h (by decide)
 | [],_ :: _,_,hl,_,_ => absurd hl (by simp)
 | _ :: _,[],_,hl,_,_ => absurd hl (by simp)
theorem checkR_in {vs : List Nat} {es : List Ed} {rs : List (List Nat)} (h : checkR vs es rs = 0) (hu : ∀ t ∈ rs,∀ n ∈ t,n < 4294967296) : MapIn vs es rs := by
 unfold checkR at h
 split at h
 ·rename_i h0; exact absurd h h0
 ·rename_i h0
  have hg := graphF_ok (Decidable.not_not.1 h0)
  split at h
  ·exact absurd h (by decide)
  ·rename_i h1
   have hl : rs.length = vs.length := Decidable.not_not.1 h1
   refine ⟨hg.v,fun n hn => by have := hg.vn n hn; omega,hg.e,fun x hx => ?_,hl,fun t ht => ?_⟩
   ·obtain ⟨a,b,c,_⟩ := hg.en x hx
    have h2 := hg.vn _ b
    have h3 := hg.vn _ c
    omega
   ·have a := rotL_in h hl t ht
    have := hg.e
    exact ⟨by omega,hu t ht⟩
def nearF (es : List Ed) (v : Nat) : List Nat := es.flatMap fun x => (if x.2.1 = v then [x.2.2] else []) ++ (if x.2.2 = v then [x.2.1] else [])
def addW : List Nat → List Nat → List Nat → List Nat × List Nat
 | [],p,s => (p,s)
 | w :: l,p,s => if w ∈ s then addW l p s else addW l (p ++ [w]) (s ++ [w])
def left (U s : List Nat) : Nat := (U.filter fun x => decide (x ∉ s)).length
theorem left_le (U s : List Nat) (x : Nat) : left U (s ++ [x]) ≤ left U s := by
 unfold left
 induction U with
 | nil => exact Nat.le_refl _
 | cons u U ih =>
  rw [List.filter_cons,List.filter_cons]
  by_cases h1 : u ∈ s
  ·rw [if_neg (by simp [h1]),if_neg (by simp [h1])]; exact ih
  ·by_cases h2 : u = x
   ·rw [if_neg (by simp [h2]),if_pos (by simp [h1])]; simp only [List.length_cons]; omega
   ·rw [if_pos (by simp [h1,h2]),if_pos (by simp [h1])]; simp only [List.length_cons]; omega
theorem left_lt {U s : List Nat} {x : Nat} (hx : x ∈ U) (hs : x ∉ s) : left U (s ++ [x]) < left U s := by
 unfold left
 induction U with
 | nil => cases hx
 | cons u U ih =>
  rw [List.filter_cons,List.filter_cons]
  by_cases h2 : u = x
  ·subst h2
   rw [if_neg (by simp),if_pos (by simp [hs])]
   have := left_le U s u
   unfold left at this
   simp only [List.length_cons]; omega
  ·have hxU : x ∈ U := by rcases List.mem_cons.1 hx with h | h; exact absurd h.symm h2; exact h
   have ih := ih hxU
   by_cases h1 : u ∈ s
   ·rw [if_neg (by simp [h1]),if_neg (by simp [h1])]; exact ih
   ·rw [if_pos (by simp [h1,h2]),if_pos (by simp [h1])]; simp only [List.length_cons]; omega
theorem addW_left {U : List Nat} : ∀ (l p s : List Nat),(∀ w ∈ l,w ∈ U) → (addW l p s).1.length + left U (addW l p s).2 ≤ p.length + left U s
 | [],p,s,_ => Nat.le_refl _
 | w :: l,p,s,h => by
  rw [addW]; split
  ·exact addW_left l p s (fun x hx => h x (List.mem_cons_of_mem _ hx))
  ·rename_i h0
   have h1 := addW_left l (p ++ [w]) (s ++ [w]) (fun x hx => h x (List.mem_cons_of_mem _ hx))
   have h2 := left_lt (h w mH) h0
   rw [List.length_append,List.length_singleton] at h1
   omega
theorem addW_ge : ∀ (l p s : List Nat),p.length ≤ (addW l p s).1.length
 | [],p,s => Nat.le_refl _
 | w :: l,p,s => by
  rw [addW]; split
  ·exact addW_ge l p s
  ·have := addW_ge l (p ++ [w]) (s ++ [w])
   rw [List.length_append,List.length_singleton] at this; omega
def bfs (es : List Ed) (U : List Nat) (k : Nat) (p s : List Nat) : List Nat × List Nat :=
 if k < p.length then
  if (addW (nearF es (p.getD k 0)) p s).1.length - (k + 1) + left U (addW (nearF es (p.getD k 0)) p s).2 < p.length - k + left U s then bfs es U (k + 1) (addW (nearF es (p.getD k 0)) p s).1 (addW (nearF es (p.getD k 0)) p s).2 else (p,s)
 else (p,s)
termination_by p.length - k + left U s
theorem bfs_end {es : List Ed} {U : List Nat} {k : Nat} {p s : List Nat} (h : ¬ k < p.length) : bfs es U k p s = (p,s) := by rw [bfs,if_neg h]
theorem bfs_less {es : List Ed} {U : List Nat} {k : Nat} {p s : List Nat} (h : k < p.length) (hU : ∀ v,∀ w ∈ nearF es v,w ∈ U) : (addW (nearF es (p.getD k 0)) p s).1.length - (k + 1) + left U (addW (nearF es (p.getD k 0)) p s).2 < p.length - k + left U s := by
 have := addW_left (U := U) (nearF es (p.getD k 0)) p s (hU _)
 have := addW_ge (nearF es (p.getD k 0)) p s
 omega
theorem bfs_step {es : List Ed} {U : List Nat} {k : Nat} {p s : List Nat} (h : k < p.length) (hU : ∀ v,∀ w ∈ nearF es v,w ∈ U) : bfs es U k p s = bfs es U (k + 1) (addW (nearF es (p.getD k 0)) p s).1 (addW (nearF es (p.getD k 0)) p s).2 := by
 rw [bfs,if_pos h,if_pos (bfs_less h hU)]
theorem near_in {vs : List Nat} {es : List Ed} (hg : GrOk vs es) (v w : Nat) (h : w ∈ nearF es v) : w ∈ vs := by
 unfold nearF at h
 obtain ⟨x,hx,h2⟩ := List.mem_flatMap.1 h
 obtain ⟨_,b,c,_⟩ := hg.en x hx
 rcases List.mem_append.1 h2 with h2 | h2
 ·split at h2
  ·rw [List.mem_singleton.1 h2]; exact c
  ·cases h2
 ·split at h2
  ·rw [List.mem_singleton.1 h2]; exact b
  ·cases h2
def partsL (es : List Ed) (U : List Nat) : List Nat → List Nat → Nat → Nat
 | [],_,n => n
 | v :: vs,s,n => if v ∈ s then partsL es U vs s n else partsL es U vs (bfs es U 0 [v] (s ++ [v])).2 (n + 1)
def partsF (vs : List Nat) (es : List Ed) : Nat := partsL es vs vs [] 0
def aloneL (es : List Ed) : List Nat → Nat → Nat
 | [],n => n
 | v :: vs,n => aloneL es vs (if (nearF es v).length = 0 then n + 1 else n)
def aloneF (vs : List Nat) (es : List Ed) : Nat := aloneL es vs 0
def setA (d x : Nat) : List (Nat × Nat) → List (Nat × Nat)
 | [] => [(d,x)]
 | (e,y) :: l => if e = d then (d,x) :: l else (e,y) :: setA d x l
def getA (d : Nat) : List (Nat × Nat) → Nat
 | [] => 0
 | (e,y) :: l => if e = d then y else getA d l
def turnA (t : List Nat) : Nat → List (Nat × Nat) → List (Nat × Nat)
 | 0,A => A
 | k + 1,A => turnA t k (setA (t.getD (t.length - (k + 1)) 0) (t.getD ((t.length - (k + 1) + 1) % t.length) 0) A)
def behA : List (List Nat) → List (Nat × Nat) → List (Nat × Nat)
 | [],A => A
 | t :: rs,A => behA rs (turnA t t.length A)
def twin (d : Nat) : Nat := if d % 2 = 0 then d + 1 else d - 1
def walkF (A : List (Nat × Nat)) (U : List Nat) (d : Nat) (s : List Nat) : List Nat :=
 if d ∈ s then s else if left U (s ++ [d]) < left U s then walkF A U (getA (twin d) A) (s ++ [d]) else s ++ [d]
termination_by left U s
theorem walkF_end {A : List (Nat × Nat)} {U s : List Nat} {d : Nat} (h : d ∈ s) : walkF A U d s = s := by rw [walkF,if_pos h]
theorem walkF_step {A : List (Nat × Nat)} {U s : List Nat} {d : Nat} (h : d ∉ s) (hU : d ∈ U) : walkF A U d s = walkF A U (getA (twin d) A) (s ++ [d]) := by rw [walkF,if_neg h,if_pos (left_lt hU h)]
def faceL (A : List (Nat × Nat)) (U : List Nat) : List Nat → List Nat → Nat → Nat × List Nat
 | [],s,n => (n,s)
 | d :: l,s,n => if d ∈ s then faceL A U l s n else faceL A U l (walkF A U d s) (n + 1)
def dartsF (es : List Ed) : List Nat := es.flatMap fun x => [2 * x.1,2 * x.1 + 1]
def univ (es : List Ed) (rs : List (List Nat)) : List Nat := 0 :: (dartsF es ++ rs.flatMap id)
def facesF (es : List Ed) (rs : List (List Nat)) : Nat := (faceL (behA rs []) (univ es rs) (dartsF es) [] 0).1
def genusF (vs : List Nat) (es : List Ed) (rs : List (List Nat)) : Int := (2 * (partsF vs es : Int) - (aloneF vs es : Int) - (vs.length : Int) + (es.length : Int) - (facesF es rs : Int)).tdiv 2
def rightF (vs : List Nat) (es : List Ed) (rs : List (List Nat)) : Int := if checkR vs es rs ≠ 0 then checkR vs es rs else if genusF vs es rs ≠ 0 then 23 else 0
theorem rightF_in {vs : List Nat} {es : List Ed} {rs : List (List Nat)} (h : rightF vs es rs = 0) (hu : ∀ t ∈ rs,∀ n ∈ t,n < 4294967296) : MapIn vs es rs := by
 unfold rightF at h
 split at h
 ·rename_i h0; exact absurd h h0
 ·rename_i h0; exact checkR_in (Decidable.not_not.1 h0) hu
end Go.Proofs.YtbeeelgfhfmgbaaGreatDoor
