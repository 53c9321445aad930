/- Texts on which the proof of this claim stands: Wire1, Wire2, Wire3, Wire4, Dlt1. -/
import Derived.Test.YtbeegepcdglcaaaGreatDoorP1
namespace Go.Proofs.YtbeegepcdglcaaaGreatDoor
open K
set_option linter.unusedVariables false
def be (n : Nat) : Nat → List UInt8
 | 0 => []
 | k + 1 => UInt8.ofNat (n / 256 ^ k) :: be n k
theorem be_len (n : Nat) : ∀ k,(be n k).length = k
 | 0 => rfl
 | k + 1 => by rw [be,List.length_cons,be_len n k]
def nrow (n k : Nat) : List UInt8 := (List.range 8).map fun i => if i < k then UInt8.ofNat (n / 256 ^ (7 - i)) else 0
theorem nrow_len (n k : Nat) : (nrow n k).length = 8 := by simp [nrow]
theorem nrow_end (n : Nat) : nrow n 8 = be n 8 := rfl
theorem nrow_set (n k : Nat) (hk : k < 8) : (nrow n k).set k (UInt8.ofNat (n / 256 ^ (7 - k))) = nrow n (k + 1) := by
 rcases k with _ | _ | _ | _ | _ | _ | _ | _ | k <;> first | rfl | omega
theorem u8_mod (m : Nat) : UInt8.ofNat (m % 256) = UInt8.ofNat m := by
 apply UInt8.toNat_inj.1
 simp
theorem nrow_step (n k : Nat) (hk : k < 8) {x : Int} (hx : x = ((n : Int) / ((2 ^ (56 - 8 * (k : Int)).toNat : Nat) : Int)) % 256) : (bv (nrow n k)).setIfInBounds k (.int .u8 x) = bv (nrow n (k + 1)) := by
 have e1 : ((n : Int) / ((2 ^ (56 - 8 * (k : Int)).toNat : Nat) : Int)) % 256 = ((n / 2 ^ (56 - 8 * (k : Int)).toNat % 256 : Nat) : Int) := by rw [Int.natCast_emod,Int.natCast_ediv]; rfl
 rw [hx,e1]
 have hlt : n / 2 ^ (56 - 8 * (k : Int)).toNat % 256 < 256 := Nat.mod_lt _ (by decide)
 rw [bv_set om om,Int.toNat_natCast,u8_mod,show (56 - 8 * (k : Int)).toNat = 8 * (7 - k) by omega,Nat.pow_mul,show 2 ^ 8 = 256 from rfl,nrow_set n k hk]
def beS (n k : Nat) : ByteArray := ⟨(be n k).toArray⟩
theorem beS_size (n k : Nat) : (beS n k).size = k := by simp [beS,ByteArray.size,be_len]
theorem beS_list (n k : Nat) : (beS n k).data.toList = be n k := rfl
theorem be_drop (n : Nat) : ∀ (j k : Nat),(be n (j + k)).drop j = be n k
 | 0,k => by rw [Nat.zero_add]; rfl
 | j + 1,k => by rw [show j + 1 + k = (j + k) + 1 by omega,be,List.drop_succ_cons,be_drop n j k]
theorem num_str {P : Program} {w0 w : World} {M : List Nat} {R O : List (Nat × Obj)} {n k b j c : Nat} {t : TypeId} (h : HP w0 M R O w) (ho : O[0]? = some (b,.cells (bv (nrow n k)) t (0,0))) (hk : k = 8) (m : Nat) (hj : j + m = 8) :
  (Conv.bytesToString (.slice (some ⟨b,j,none⟩) m c)).run P w = .ok (.string (beS n m)) w := by
 subst hk
 refine bytes_str (be_len n m) fun i hi => ?_
 have e := be_drop n j m
 rw [hj] at e
 rw [← e,h.ocell 0 ho (bv_get (n := 8) (nrow_len n 8) (show j + i < 8 by omega)),nrow_end]
 simp [List.getD_eq_getElem?_getD,List.getElem?_drop]
def sat (ss : List ByteArray) (i : Nat) : ByteArray := ss.getD i ByteArray.empty
def cat (ss : List ByteArray) : List UInt8 := ss.flatMap fun s => s.data.toList
theorem take_sat {ss : List ByteArray} {i : Nat} (h : i < ss.length) : ss.take (i + 1) = ss.take i ++ [sat ss i] := by
 rw [List.take_succ_eq_append_getElem h]; simp [sat,List.getElem?_eq_getElem h]
theorem cat_app (a b : List ByteArray) : cat (a ++ b) = cat a ++ cat b := List.flatMap_append ..
theorem cat_one (s : ByteArray) : cat [s] = s.data.toList := by simp [cat]
theorem cat_succ {ss : List ByteArray} {i : Nat} (h : i < ss.length) : cat (ss.take (i + 1)) = cat (ss.take i) ++ (sat ss i).data.toList := by rw [take_sat h,cat_app,cat_one]
theorem cat_part {ss : List ByteArray} {i : Nat} (h : i < ss.length) : (cat (ss.take i)).length + (sat ss i).size ≤ (cat ss).length := by
 have h1 := cat_succ h
 have h2 : cat ss = cat (ss.take (i + 1)) ++ cat (ss.drop (i + 1)) := by rw [← cat_app,List.take_append_drop]
 rw [h2,h1,List.length_append,List.length_append,ba_len]; omega
def tx (l : List UInt8) : ByteArray := ⟨l.toArray⟩
theorem tx_list (l : List UInt8) : (tx l).data.toList = l := rfl
theorem tx_size (l : List UInt8) : (tx l).size = l.length := by simp [tx,ByteArray.size]
theorem tx_back (s : ByteArray) : tx s.data.toList = s := by cases s; rfl
theorem one_len (x : ByteArray) : [x].length ≤ maxLen := by simp [maxLen]
theorem inS_lit (bk : Nat) (t : TypeId) (fr : Nat × Nat) (ss : List ByteArray) : InS [(bk,.cells (ss.map Value.string).toArray t fr)] (some ⟨bk,0,none⟩) ss.length (fun j => .string (sat ss j)) := by
 intro _
 refine ⟨bk,0,_,t,fr,rfl,List.mem_singleton.2 rfl,fun j hj => ?_⟩
 rw [Nat.zero_add]
 simp [sat,List.getElem?_eq_getElem hj]
set_option maxRecDepth 100000 in
theorem wNumber1 (n : Nat) (w : World) (hn : n < 2 ^ 64) :
  Calls Tryz.prog 67 #[.int .u64 (n : Int),.int .i64 1] w fun e w' => e = .returned (.string (beS n 1)) ∧ Ext [] w w' := by
 refine enter (vs := [.int .u64 (n : Int),.int .i64 1]) [] [] [] Tryz.func67 rfl kr (HP.start w) ?_
 refine Rg [0,1] [] n0 trivial ?_
 refine Cfg.begL rfl ?_
 refine Le (Eff.alloc (z := (.agg (bv (List.replicate 8 0)))) rfl kr) ?_
 rintro b ⟨hb,nb⟩
 refine CfgL.done rfl ?_
 refine Rg [0,1,5,7] [] n0 trivial ?_
 refine Cfg.loop rfl (ι := Nat) (fun (k : Nat) => [(7,[],.int .i64 (k : Int)),(5,[],pT b),(0,[],.int .u64 (n : Int)),(1,[],.int .i64 1)]) (fun (k : Nat) => [(b,.cells (bv (nrow n k)) 136 (0,0))]) (fun (k : Nat) => (k ≤ 8)) (fun (k : Nat) => 8 - k) 0 ?_ (Conv.mk kr) slr ?_
 ·exact Nat.zero_le _
 ·rintro k hk
  refine Rg [0,1,5,7,8] [] n0 trivial ?_
  refine Cfg.cond rfl (b := (decide ((k : Int) < (8 : Int)))) kr (fun c1r => ?_) (fun c1r => ?_)
  ·have c1 := (dT c1r)
   refine Rg [0,1,5,6,7] [] n0 trivial ?_
   refine Cfg.begL rfl ?_
   refine Lp 8 [] (some [0,1,5,7,16,17]) (fun _ => [(i6 (8 * (k : Int))),(i6 (56 - (8 * (k : Int)))),(0 ≤ (56 - (8 * (k : Int))) ∧ ((56 - (8 * (k : Int)))).toNat ≤ 64),(iL (k : Int) 8)]) ⟨om,om,om,om,trivial⟩ ?_
   refine Le (Eff.store1 (b := b) (off := k) (v := .int .u8 (((n : Int) / ((2 ^ ((56 - (8 * (k : Int)))).toNat : Nat) : Int)) % 256)) rfl kr kr rfl kr 0 (cs := (bv (nrow n k))) (e := 136) kr (by rw [bv_size,nrow_len]; omega)) ?_
   rintro ⟨⟩ -
   refine CfgL.done rfl ?_
   refine Cg (Γ' := [(7,[],.int .i64 (k : Int)),(5,[],pT b),(0,[],.int .u64 (n : Int)),(1,[],.int .i64 1)]) ?_
   refine Rg [0,1,5,7] [] (fun _ => [(i6 ((k : Int) + 1))]) ⟨om,trivial⟩ ?_
   refine Cfg.setO (congrArg (fun (xq : Array Value) => ([(b,.cells xq 136 (0,0))] : LO)) (show _ = (bv (nrow n (k + 1))) from nrow_step n k om rfl)) ?_
   refine Cfg.again rfl (k + 1) (show k + 1 ≤ 8 by omega) om (Conv.mk kr) (.cons_cons _ .slnil)
  ·have c1 := (dF c1r)
   refine Rg [4] [dZ,dZ,dZ,(dS (.string (beS n 1)))] (fun S => [(i6 (7 : Int)),(0 ≤ (7 : Int)),(7 ≤ 8 ∧ 8 ≤ 8),(∀ w1,S w1 → (Conv.bytesToString (.slice (some ⟨b,(if 8 = 7 then 0 else 7),none⟩) (8 - 7) (8 - 7))).run Tryz.prog w1 = .ok (.string (beS n 1)) w1)]) ⟨om,om,om,(fun w1 h => num_str h rfl om 1 rfl),trivial⟩ ?_
   refine Cfg.ret rfl (rs := [.tmp 4]) rfl [.string (beS n 1)] ⟨kr,trivial⟩ (fun w1 hp => ?_)
   exact ⟨rfl,hp.ext⟩
set_option maxRecDepth 100000 in
theorem wNumber4 (n : Nat) (w : World) (hn : n < 2 ^ 64) :
  Calls Tryz.prog 67 #[.int .u64 (n : Int),.int .i64 4] w fun e w' => e = .returned (.string (beS n 4)) ∧ Ext [] w w' := by
 refine enter (vs := [.int .u64 (n : Int),.int .i64 4]) [] [] [] Tryz.func67 rfl kr (HP.start w) ?_
 refine Rg [0,1] [] n0 trivial ?_
 refine Cfg.begL rfl ?_
 refine Le (Eff.alloc (z := (.agg (bv (List.replicate 8 0)))) rfl kr) ?_
 rintro b ⟨hb,nb⟩
 refine CfgL.done rfl ?_
 refine Rg [0,1,5,7] [] n0 trivial ?_
 refine Cfg.loop rfl (ι := Nat) (fun (k : Nat) => [(7,[],.int .i64 (k : Int)),(5,[],pT b),(0,[],.int .u64 (n : Int)),(1,[],.int .i64 4)]) (fun (k : Nat) => [(b,.cells (bv (nrow n k)) 136 (0,0))]) (fun (k : Nat) => (k ≤ 8)) (fun (k : Nat) => 8 - k) 0 ?_ (Conv.mk kr) slr ?_
 ·exact Nat.zero_le _
 ·rintro k hk
  refine Rg [0,1,5,7,8] [] n0 trivial ?_
  refine Cfg.cond rfl (b := (decide ((k : Int) < (8 : Int)))) kr (fun c1r => ?_) (fun c1r => ?_)
  ·have c1 := (dT c1r)
   refine Rg [0,1,5,6,7] [] n0 trivial ?_
   refine Cfg.begL rfl ?_
   refine Lp 8 [] (some [0,1,5,7,16,17]) (fun _ => [(i6 (8 * (k : Int))),(i6 (56 - (8 * (k : Int)))),(0 ≤ (56 - (8 * (k : Int))) ∧ ((56 - (8 * (k : Int)))).toNat ≤ 64),(iL (k : Int) 8)]) ⟨om,om,om,om,trivial⟩ ?_
   refine Le (Eff.store1 (b := b) (off := k) (v := .int .u8 (((n : Int) / ((2 ^ ((56 - (8 * (k : Int)))).toNat : Nat) : Int)) % 256)) rfl kr kr rfl kr 0 (cs := (bv (nrow n k))) (e := 136) kr (by rw [bv_size,nrow_len]; omega)) ?_
   rintro ⟨⟩ -
   refine CfgL.done rfl ?_
   refine Cg (Γ' := [(7,[],.int .i64 (k : Int)),(5,[],pT b),(0,[],.int .u64 (n : Int)),(1,[],.int .i64 4)]) ?_
   refine Rg [0,1,5,7] [] (fun _ => [(i6 ((k : Int) + 1))]) ⟨om,trivial⟩ ?_
   refine Cfg.setO (congrArg (fun (xq : Array Value) => ([(b,.cells xq 136 (0,0))] : LO)) (show _ = (bv (nrow n (k + 1))) from nrow_step n k om rfl)) ?_
   refine Cfg.again rfl (k + 1) (show k + 1 ≤ 8 by omega) om (Conv.mk kr) (.cons_cons _ .slnil)
  ·have c1 := (dF c1r)
   refine Rg [4] [dZ,dZ,dZ,(dS (.string (beS n 4)))] (fun S => [(i6 (4 : Int)),(0 ≤ (4 : Int)),(4 ≤ 8 ∧ 8 ≤ 8),(∀ w1,S w1 → (Conv.bytesToString (.slice (some ⟨b,(if 8 = 4 then 0 else 4),none⟩) (8 - 4) (8 - 4))).run Tryz.prog w1 = .ok (.string (beS n 4)) w1)]) ⟨om,om,om,(fun w1 h => num_str h rfl om 4 rfl),trivial⟩ ?_
   refine Cfg.ret rfl (rs := [.tmp 4]) rfl [.string (beS n 4)] ⟨kr,trivial⟩ (fun w1 hp => ?_)
   exact ⟨rfl,hp.ext⟩
set_option maxRecDepth 100000 in
theorem wWith (s : ByteArray) (la : Option Addr) (cap : Nat) (ss : List ByteArray) (Rl : List (Nat × Obj)) (w : World) (hI : InS Rl la ss.length (fun j => .string (sat ss j))) (hR : Has w Rl) (hn : ss.length ≤ maxLen) (hr : s.size + (cat ss).length ≤ 140737488355328) :
  Calls Tryz.prog 65 #[.agg #[.string s],.slice la ss.length cap] w fun e w' => e = .returned (.agg #[.string (tx (s.data.toList ++ cat ss))]) ∧ Ext [] w w' := by
 unfold maxLen at hn
 refine enter (vs := [.agg #[.string s],.slice la ss.length cap]) [] Rl [] Tryz.func65 rfl kr (HP.ofHas hR) ?_
 refine Cfg.begL rfl ?_
 refine Le (Eff.box (v := .agg #[.string s]) rfl kr) ?_
 rintro o ⟨ho,no⟩
 refine Le (Eff.alloc (z := (.agg #[.string ByteArray.empty])) rfl kr) ?_
 rintro rs ⟨hrs,nrs⟩
 refine CfgL.done rfl ?_
 refine Cg (Γ' := [(4,[],pT rs),(2,[],pT o),(1,[],.slice la ss.length cap)]) ?_
 refine Cfg.begL rfl ?_
 refine Le (Eff.allocB 5 [(rs,.cells #[.string ByteArray.empty] 85 (0,0)),(o,.cells #[.string s] 85 (0,0))] [] rfl rfl kr) ?_
 rintro b ⟨hb,nb⟩
 refine CfgL.done rfl ?_
 refine Cfg.begL rfl ?_
 refine Lp 2 [dZ,(dS (.string s))] (some [1,4,5,9]) (fun S => [(cE S o 0 (.string s))]) ⟨(oC 1 rfl rfl),trivial⟩ ?_
 refine Le (Eff.callH (vs := [pT b,.string s]) (fun _ => (.tuple #[.int .i64 (s.size : Int),.nilIface] : Value)) (bl 118 5 b ([]) bd0) (fun B1 => bl 118 5 b (([]) ++ s.data.toList) B1) (fun B1 => BdOk b (([]) ++ s.data.toList) B1) [(rs,.cells #[.string ByteArray.empty] 85 (0,0)),(o,.cells #[.string s] 85 (0,0))] [] (by rfl) rfl Tryz.func68 rfl rfl kr (fun w1 h hh hd => bWriteString b ([]) bd0 s w1 (bd0_ok b) hh hd (by simp only [List.length_nil]; omega))) ?_
 rintro B1 kB1
 refine CfgL.done rfl ?_
 refine Cg (Γ' := [(5,[],pT b),(4,[],pT rs),(1,[],.slice la ss.length cap)]) ?_
 refine Rg [4,5,11,12,13] [] n0 trivial ?_
 refine Cfg.setO (congrArg (fun (xq : List UInt8) => (([(rs,.cells #[.string ByteArray.empty] 85 (0,0)),(o,.cells #[.string s] 85 (0,0))] ++ (bl 118 5 b xq B1 ++ [])) : LO)) (show _ = (s.data.toList ++ cat (ss.take 0)) from by rw [List.take_zero]; simp [cat])) ?_
 refine Cfg.loop rfl (ι := Nat × Bd) (fun (xz : Nat × Bd) => match xz with | (i,B) => [(13,[],.int .i64 (i : Int)),(12,[],.int .i64 (ss.length : Int)),(11,[],.slice la ss.length cap),(5,[],pT b),(4,[],pT rs)]) (fun (xz : Nat × Bd) => match xz with | (i,B) => ([(rs,.cells #[.string ByteArray.empty] 85 (0,0)),(o,.cells #[.string s] 85 (0,0))] ++ (bl 118 5 b (s.data.toList ++ cat (ss.take i)) B ++ []))) (fun (xz : Nat × Bd) => match xz with | (i,B) => (i ≤ ss.length) ∧ (BdOk b (s.data.toList ++ cat (ss.take i)) B)) (fun (xz : Nat × Bd) => match xz with | (i,B) => ss.length - i) (0,B1) ?_ (Conv.mk kr) slr ?_
 ·exact ⟨Nat.zero_le _,by rw [List.take_zero,show s.data.toList ++ cat [] = [] ++ s.data.toList by simp [cat]]; exact kB1⟩
 ·rintro ⟨i,B⟩ ⟨hi,hB⟩
  refine Rg [4,5,11,12,13,14] [] n0 trivial ?_
  refine Cfg.cond rfl (b := (decide ((i : Int) < (ss.length : Int)))) kr (fun c1r => ?_) (fun c1r => ?_)
  ·have c1 := (dT c1r)
   obtain ⟨sb,off,cs,te,fre,rfl,hmem,hcs⟩ := hI om
   refine Conv.cfg (Γ' := [(14,[],.bool (decide ((i : Int) < (ss.length : Int)))),(13,[],.int .i64 (i : Int)),(12,[],.int .i64 (ss.length : Int)),(11,[],.slice (some ⟨sb,off,none⟩) ss.length cap),(5,[],pT b),(4,[],pT rs)]) (Conv.mk kr) ?_
   refine Rg [4,5,7,11,12,13] [dZ,(dS (.string (sat ss i)))] (fun S => [(0 ≤ (i : Int) ∧ (i : Int) < (ss.length : Int)),(cE S sb (addO off i) (.string (sat ss i)))]) ⟨om,(fun w1 h => by rw [addO_eq]; exact (cell_cells (h.ro _ hmem)).trans (hcs i om)),trivial⟩ ?_
   refine Cfg.begL rfl ?_
   refine Lp 1 [] (some [4,5,11,12,13,17]) n0 trivial ?_
   refine Le (Eff.callH (vs := [pT b,.string (sat ss i)]) (fun _ => (.tuple #[.int .i64 ((sat ss i).size : Int),.nilIface] : Value)) (bl 118 5 b (s.data.toList ++ cat (ss.take i)) B) (fun B1 => bl 118 5 b ((s.data.toList ++ cat (ss.take i)) ++ (sat ss i).data.toList) B1) (fun B1 => BdOk b ((s.data.toList ++ cat (ss.take i)) ++ (sat ss i).data.toList) B1) [(rs,.cells #[.string ByteArray.empty] 85 (0,0)),(o,.cells #[.string s] 85 (0,0))] [] (by rfl) rfl Tryz.func68 rfl rfl kr (fun w1 h hh hd => bWriteString b (s.data.toList ++ cat (ss.take i)) B (sat ss i) w1 hB hh hd (by have := cat_part (ss := ss) (i := i) om; rw [List.length_append,ba_len]; omega))) ?_
   rintro B2 kB2
   refine CfgL.done rfl ?_
   refine Cg (Γ' := [(13,[],.int .i64 (i : Int)),(12,[],.int .i64 (ss.length : Int)),(11,[],.slice (some ⟨sb,off,none⟩) ss.length cap),(5,[],pT b),(4,[],pT rs)]) ?_
   refine Rg [4,5,11,12,13] [] (fun _ => [(i6 ((i : Int) + 1))]) ⟨om,trivial⟩ ?_
   have hcs2 : (s.data.toList ++ cat (ss.take i)) ++ (sat ss i).data.toList = (s.data.toList ++ cat (ss.take (i + 1))) := by rw [cat_succ om,List.append_assoc]
   refine Cfg.setO (congrArg (fun (xq : List UInt8) => (([(rs,.cells #[.string ByteArray.empty] 85 (0,0)),(o,.cells #[.string s] 85 (0,0))] ++ (bl 118 5 b xq B2 ++ [])) : LO)) (show _ = (s.data.toList ++ cat (ss.take (i + 1))) from hcs2)) ?_
   refine Cfg.again rfl (i + 1,B2) ⟨by omega,hcs2 ▸ kB2⟩ (by show ss.length - (i + 1) < ss.length - i; omega) (Conv.mk kr) slr
  ·have c1 := (dF c1r)
   obtain rfl : i = ss.length := by omega
   refine Cfg.setO (congrArg (fun (xq : List UInt8) => (([(rs,.cells #[.string ByteArray.empty] 85 (0,0)),(o,.cells #[.string s] 85 (0,0))] ++ (bl 118 5 b xq B ++ [])) : LO)) (show _ = (s.data.toList ++ cat ss) from by rw [List.take_length])) ?_
   rw [List.take_length] at hB
   refine Conv.cfg (Γ' := [(12,[],.int .i64 (ss.length : Int)),(11,[],.slice la ss.length cap),(5,[],pT b),(4,[],pT rs)]) (Conv.mk kr) ?_
   refine Cfg.begL rfl ?_
   refine Le (Eff.callH (vs := [pT b]) (fun _ : Unit => (.string (tx (s.data.toList ++ cat ss)) : Value)) (bl 118 5 b (s.data.toList ++ cat ss) B) (fun _ => []) (fun _ => True) [(rs,.cells #[.string ByteArray.empty] 85 (0,0)),(o,.cells #[.string s] 85 (0,0))] [] (by rfl) rfl Tryz.func66 rfl rfl kr (fun w1 h hh hd => bString b (s.data.toList ++ cat ss) B w1 hB hh hd (by rw [List.length_append,ba_len]; omega))) ?_
   rintro ⟨⟩ -
   refine Lp 1 [(dS (.agg #[.string (tx (s.data.toList ++ cat ss))]))] (some [4,21]) (fun S => [(∀ w1,S w1 → (Instr.build 85 #[(0,.string (tx (s.data.toList ++ cat ss)))]).run Tryz.prog w1 = .ok (.agg #[.string (tx (s.data.toList ++ cat ss))]) w1)]) ⟨(fun _ _ => kr),trivial⟩ ?_
   refine Le (Eff.storeN (b := rs) (off := 0) (vs := #[.string (tx (s.data.toList ++ cat ss))]) (n := 1) rfl kr kr kr rfl (by simp [K.one]) 0 (cs := #[.string ByteArray.empty]) (e := 85) kr (by simp)) ?_
   rintro ⟨⟩ -
   refine CfgL.setO (congrArg (fun (xq : Array Value) => ([(rs,.cells xq 85 (0,0)),(o,.cells #[.string s] 85 (0,0))] : LO)) (show _ = #[.string (tx (s.data.toList ++ cat ss))] from rfl)) ?_
   refine CfgL.done rfl ?_
   refine Cg (Γ' := [(4,[],pT rs)]) ?_
   refine Cfg.ret rfl (rs := [.cell 4 85]) rfl [.agg #[.string (tx (s.data.toList ++ cat ss))]] ⟨⟨_,by kernel_rfl,(fun w1 h => h.oload 0 rfl Tryz.underlying85 rfl (n := 1) kr rfl)⟩,trivial⟩ (fun w1 hp => ?_)
   exact ⟨rfl,hp.ext⟩
end Go.Proofs.YtbeegepcdglcaaaGreatDoor
namespace Go.Proofs.YtbeegepcdglcaaaGreatDoor
open K
set_option linter.unusedVariables false
def flat {α : Type} (f : α → List UInt8) (l : List α) : List UInt8 := l.flatMap f
theorem flat_app {α : Type} (f : α → List UInt8) (a b : List α) : flat f (a ++ b) = flat f a ++ flat f b := List.flatMap_append ..
theorem flat_succ {α : Type} {f : α → List UInt8} {l : List α} {i : Nat} (d : α) (h : i < l.length) : flat f (l.take (i + 1)) = flat f (l.take i) ++ f (l.getD i d) := by
 rw [List.take_succ_eq_append_getElem h,flat_app]
 simp [flat,List.getElem?_eq_getElem h]
theorem flat_part {α : Type} {f : α → List UInt8} {l : List α} {i : Nat} (d : α) (h : i < l.length) : (flat f (l.take i)).length + (f (l.getD i d)).length ≤ (flat f l).length := by
 have h1 := flat_succ (f := f) d h
 have h2 : flat f l = flat f (l.take (i + 1)) ++ flat f (l.drop (i + 1)) := by rw [← flat_app,List.take_append_drop]
 rw [h2,h1,List.length_append,List.length_append]; omega
theorem flat_nil {α : Type} (f : α → List UInt8) : flat f [] = [] := rfl
theorem cat_tx (l : List UInt8) : cat [tx l] = l := by rw [cat_one,tx_list]
def four (n : Nat) : List UInt8 := be n 4
def text4 (s : ByteArray) : List UInt8 := be s.size 4 ++ s.data.toList
theorem wNumMod (x : Nat) (hx : x < 9223372036854775808) (w : World) : Calls Tryz.prog 67 #[.int .u64 ((x : Int) % 18446744073709551616),.int .i64 4] w fun e w' => e = .returned (.string (beS x 4)) ∧ Ext [] w w' := by
 rw [show ((x : Int) % 18446744073709551616) = (x : Int) by omega]; exact wNumber4 x w om
theorem HP.notin {w0 w : World} {M : List Nat} {R Fl A T : List (Nat × Obj)} {d : Nat} {ob : Obj} (h : HP w0 M R (Fl ++ (A ++ T)) w) (hm : (d,ob) ∈ Fl) : d ∉ A.map (·.1) := by
 intro hx
 have hd := h.dist
 rw [List.map_append,List.map_append] at hd
 exact (List.nodup_append.1 hd).2.2 d (List.mem_map.2 ⟨_,hm,rfl⟩) d (mL hx) rfl
theorem zsz32 : (bv (List.replicate 32 0)).size = 32 := rfl
set_option maxRecDepth 100000 in
theorem wByte (s : ByteArray) (n : Nat) (w : World) (hn : n < 256) (hr : s.size + 1 ≤ 140737488355328) :
  Calls Tryz.prog 41 #[.agg #[.string s],.int .u8 (n : Int)] w fun e w' => e = .returned (.agg #[.string (tx (s.data.toList ++ be n 1))]) ∧ Ext [] w w' := by
 refine enter (vs := [.agg #[.string s],.int .u8 (n : Int)]) [] [] [] Tryz.func41 rfl kr (HP.start w) ?_
 refine Cfg.begL rfl ?_
 refine Le (Eff.box (v := .agg #[.string s]) rfl kr) ?_
 rintro o ⟨ho,no⟩
 refine Le (Eff.alloc (z := (.agg #[.string ByteArray.empty])) rfl kr) ?_
 rintro rs ⟨hrs,nrs⟩
 refine CfgL.done rfl ?_
 refine Cg (Γ' := [(4,[],pT rs),(2,[],pT o),(1,[],.int .u8 (n : Int))]) ?_
 refine Cfg.begA rfl kr [(o,.cells #[.string s] 85 (0,0))] ?_
 refine Ap [0,1,2] [(dS (.agg #[.string s]))] (some [4,5,7]) (tF 3 4) (.cons _ (.cons_cons _ .slnil)) 4 (fun S => [(∀ w1,S w1 → (loadVar 85 ⟨o,0,none⟩).run Tryz.prog w1 = .ok (.agg #[.string s]) w1),((0 : Int) ≤ (n : Int) ∧ (n : Int) ≤ 18446744073709551615)]) ⟨(fun w1 h => h.oload 0 rfl Tryz.underlying85 rfl (n := 1) kr rfl),om,trivial⟩ ?_
 refine Ae 3 rfl 3  (Eff.callA (vs := [.int .u64 (n : Int),.int .i64 1]) (.string (beS n 1)) rfl Tryz.func67 rfl rfl kr (fun w1 _ => wNumber1 n w1 om)) (fun _ _ => (.cons _ (.cons_cons _ .slnil))) ?_
 rintro ⟨⟩ -
 refine Ae 4 rfl 2  (Eff.buildSlice (e := 9) (cells := #[.string (beS n 1)]) (parts := #[(0,.string (beS n 1))]) rfl kr (fun _ => kr)) (fun _ _ => (.cons _ (.cons _ (.cons_cons _ .slnil)))) ?_
 rintro x3 ⟨hx3,nx3⟩
 refine Ae 5 rfl 1  (Eff.callA (vs := [.agg #[.string s],.slice (some ⟨x3,0,none⟩) 1 1]) (.agg #[.string (tx (s.data.toList ++ cat [(beS n 1)]))]) rfl Tryz.func65 rfl rfl kr (fun w1 h => wWith s (some ⟨x3,0,none⟩) 1 [(beS n 1)] [(x3,.cells (List.map Value.string [(beS n 1)]).toArray 9 (0,0))] w1 (inS_lit x3 9 (0,0) [(beS n 1)]) (h.has (fun e he => mG 0 (by rw [List.mem_singleton.1 he]; rfl))) (one_len _) (by rw [cat_one,beS_list,be_len]; omega))) (fun _ _ => (.cons _ (.cons _ (.cons_cons _ .slnil)))) ?_
 rintro ⟨⟩ -
 refine Ae 6 rfl 0  (Eff.storeN (b := rs) (off := 0) (vs := #[.string (tx (s.data.toList ++ cat [(beS n 1)]))]) (n := 1) rfl kr kr kr rfl (by simp [K.one]) 1 (cs := #[.string ByteArray.empty]) (e := 85) kr (by simp)) (fun _ _ => (.cons _ (.cons _ (.cons_cons _ .slnil)))) ?_
 rintro ⟨⟩ -
 refine CfgA.setO (congrArg (fun (xq : Array Value) => ([(x3,.cells #[.string (beS n 1)] 9 (0,0)),(rs,.cells xq 85 (0,0)),(o,.cells #[.string s] 85 (0,0))] : LO)) (show _ = #[.string (tx (s.data.toList ++ cat [(beS n 1)]))] from rfl)) ?_
 refine CfgA.done kr ?_
 refine Cg (Γ' := [(4,[],pT rs)]) ?_
 refine Cfg.ret rfl (rs := [.cell 4 85]) rfl [.agg #[.string (tx (s.data.toList ++ cat [(beS n 1)]))]] ⟨⟨_,by kernel_rfl,(fun w1 h => h.oload 1 rfl Tryz.underlying85 rfl (n := 1) kr rfl)⟩,trivial⟩ (fun w1 hp => ?_)
 exact ⟨by rw [cat_one,beS_list]; rfl,hp.ext⟩
set_option maxRecDepth 100000 in
theorem wFour (s : ByteArray) (la : Option Addr) (cap : Nat) (xs : List Nat) (Rl : List (Nat × Obj)) (w : World) (hI : InS Rl la xs.length (fun j => .int .u32 ((xs.getD j 0 : Nat) : Int))) (hR : Has w Rl) (hn : xs.length ≤ maxLen) (hr : s.size + (flat four xs).length ≤ 140737488355328) (hx : ∀ i,xs.getD i 0 < 4294967296) :
  Calls Tryz.prog 45 #[.agg #[.string s],.slice la xs.length cap] w fun e w' => e = .returned (.agg #[.string (tx (s.data.toList ++ flat four xs))]) ∧ Ext [] w w' := by
 unfold maxLen at hn
 refine enter (vs := [.agg #[.string s],.slice la xs.length cap]) [] Rl [] Tryz.func45 rfl kr (HP.ofHas hR) ?_
 refine Cfg.begL rfl ?_
 refine Le (Eff.box (v := .agg #[.string s]) rfl kr) ?_
 rintro o ⟨ho,no⟩
 refine Le (Eff.alloc (z := (.agg #[.string ByteArray.empty])) rfl kr) ?_
 rintro rs ⟨hrs,nrs⟩
 refine CfgL.done rfl ?_
 refine Cg (Γ' := [(4,[],pT rs),(2,[],pT o),(1,[],.slice la xs.length cap)]) ?_
 refine Cfg.begL rfl ?_
 refine Le (Eff.allocB 5 [(rs,.cells #[.string ByteArray.empty] 85 (0,0)),(o,.cells #[.string s] 85 (0,0))] [] rfl rfl kr) ?_
 rintro b ⟨hb,nb⟩
 refine CfgL.done rfl ?_
 refine Rg [2,4,5,8,9,10] [] n0 trivial ?_
 refine Cfg.setO (congrArg (fun (xq : List UInt8) => (([(rs,.cells #[.string ByteArray.empty] 85 (0,0)),(o,.cells #[.string s] 85 (0,0))] ++ (bl 118 5 b xq bd0 ++ [])) : LO)) (show _ = (flat four (xs.take 0)) from by rw [List.take_zero]; rfl)) ?_
 refine Cfg.loop rfl (ι := Nat × Bd) (fun (xz : Nat × Bd) => match xz with | (i,B) => [(10,[],.int .i64 (i : Int)),(9,[],.int .i64 (xs.length : Int)),(8,[],.slice la xs.length cap),(5,[],pT b),(4,[],pT rs),(2,[],pT o)]) (fun (xz : Nat × Bd) => match xz with | (i,B) => ([(rs,.cells #[.string ByteArray.empty] 85 (0,0)),(o,.cells #[.string s] 85 (0,0))] ++ (bl 118 5 b (flat four (xs.take i)) B ++ []))) (fun (xz : Nat × Bd) => match xz with | (i,B) => (i ≤ xs.length) ∧ (BdOk b (flat four (xs.take i)) B)) (fun (xz : Nat × Bd) => match xz with | (i,B) => xs.length - i) (0,bd0) ?_ (Conv.mk kr) slr ?_
 ·exact ⟨Nat.zero_le _,by rw [List.take_zero]; exact (bd0_ok b)⟩
 ·rintro ⟨i,B⟩ ⟨hi,hB⟩
  have hpart := fun (hlt : i < xs.length) => flat_part (f := four) 0 hlt
  refine Rg [2,4,5,8,9,10,11] [] n0 trivial ?_
  refine Cfg.cond rfl (b := (decide ((i : Int) < (xs.length : Int)))) kr (fun c1r => ?_) (fun c1r => ?_)
  ·have c1 := (dT c1r)
   have hpt := hpart om
   obtain ⟨sb,off,cs,te,fre,rfl,hmem,hcs⟩ := hI om
   refine Conv.cfg (Γ' := [(11,[],.bool (decide ((i : Int) < (xs.length : Int)))),(10,[],.int .i64 (i : Int)),(9,[],.int .i64 (xs.length : Int)),(8,[],.slice (some ⟨sb,off,none⟩) xs.length cap),(5,[],pT b),(4,[],pT rs),(2,[],pT o)]) (Conv.mk kr) ?_
   refine Rg [2,4,5,7,8,9,10] [dZ,(dS (.int .u32 ((xs.getD i 0) : Int)))] (fun S => [(0 ≤ (i : Int) ∧ (i : Int) < (xs.length : Int)),(cE S sb (addO off i) (.int .u32 ((xs.getD i 0) : Int)))]) ⟨om,(fun w1 h => by rw [addO_eq]; exact (cell_cells (h.ro _ hmem)).trans (hcs i om)),trivial⟩ ?_
   refine Cfg.begL rfl ?_
   refine Lp 2 [] (some [2,4,5,8,9,10,15]) (fun _ => [((0 : Int) ≤ ((xs.getD i 0) : Int) ∧ ((xs.getD i 0) : Int) ≤ 18446744073709551615)]) ⟨(by have := hx i; omega),trivial⟩ ?_
   refine Le (Eff.callA (vs := [.int .u64 ((xs.getD i 0) : Int),.int .i64 4]) (.string (beS ((xs.getD i 0)) 4)) rfl Tryz.func67 rfl rfl kr (fun w1 _ => wNumber4 ((xs.getD i 0)) w1 (by have := hx i; omega))) ?_
   rintro ⟨⟩ -
   refine Le (Eff.callH (vs := [pT b,.string (beS ((xs.getD i 0)) 4)]) (fun _ => (.tuple #[.int .i64 ((beS ((xs.getD i 0)) 4).size : Int),.nilIface] : Value)) (bl 118 5 b (flat four (xs.take i)) B) (fun B1 => bl 118 5 b ((flat four (xs.take i)) ++ (beS ((xs.getD i 0)) 4).data.toList) B1) (fun B1 => BdOk b ((flat four (xs.take i)) ++ (beS ((xs.getD i 0)) 4).data.toList) B1) [(rs,.cells #[.string ByteArray.empty] 85 (0,0)),(o,.cells #[.string s] 85 (0,0))] [] (by rfl) rfl Tryz.func68 rfl rfl kr (fun w1 h hh hd => bWriteString b (flat four (xs.take i)) B (beS ((xs.getD i 0)) 4) w1 hB hh hd (by rw [beS_size]; have : (four (xs.getD i 0)).length = 4 := be_len _ _; omega))) ?_
   rintro B2 kB2
   refine CfgL.done rfl ?_
   refine Cg (Γ' := [(10,[],.int .i64 (i : Int)),(9,[],.int .i64 (xs.length : Int)),(8,[],.slice (some ⟨sb,off,none⟩) xs.length cap),(5,[],pT b),(4,[],pT rs),(2,[],pT o)]) ?_
   refine Rg [2,4,5,8,9,10] [] (fun _ => [(i6 ((i : Int) + 1))]) ⟨om,trivial⟩ ?_
   have hcs2 : ((flat four (xs.take i)) ++ (beS ((xs.getD i 0)) 4).data.toList) = (flat four (xs.take (i + 1))) := by rw [flat_succ 0 om]; rfl
   refine Cfg.setO (congrArg (fun (xq : List UInt8) => (([(rs,.cells #[.string ByteArray.empty] 85 (0,0)),(o,.cells #[.string s] 85 (0,0))] ++ (bl 118 5 b xq B2 ++ [])) : LO)) (show _ = (flat four (xs.take (i + 1))) from hcs2)) ?_
   refine Cfg.again rfl (i + 1,B2) ⟨by omega,hcs2 ▸ kB2⟩ (by show xs.length - (i + 1) < xs.length - i; omega) (Conv.mk kr) slr
  ·have c1 := (dF c1r)
   obtain rfl : i = xs.length := by omega
   refine Cfg.setO (congrArg (fun (xq : List UInt8) => (([(rs,.cells #[.string ByteArray.empty] 85 (0,0)),(o,.cells #[.string s] 85 (0,0))] ++ (bl 118 5 b xq B ++ [])) : LO)) (show _ = (flat four xs) from by rw [List.take_length])) ?_
   rw [List.take_length] at hB
   refine Conv.cfg (Γ' := [(9,[],.int .i64 (xs.length : Int)),(8,[],.slice la xs.length cap),(5,[],pT b),(4,[],pT rs),(2,[],pT o)]) (Conv.mk kr) ?_
   refine Cfg.begA rfl kr [(o,.cells #[.string s] 85 (0,0))] ?_
   refine Ap [0] [(dS (.agg #[.string s]))] (some [4,5,19]) (tF 1 4) (.cons _ (.cons_cons _ (List.nil_sublist _))) 4 (fun S => [(∀ w1,S w1 → (loadVar 85 ⟨o,0,none⟩).run Tryz.prog w1 = .ok (.agg #[.string s]) w1)]) ⟨(fun w1 h => h.oload 0 rfl Tryz.underlying85 rfl (n := 1) kr rfl),trivial⟩ ?_
   refine Ae 1 rfl 3  (Eff.callH (vs := [pT b]) (fun _ : Unit => (.string (tx (flat four xs)) : Value)) (bl 118 5 b (flat four xs) B) (fun _ => []) (fun _ => True) [(rs,.cells #[.string ByteArray.empty] 85 (0,0)),(o,.cells #[.string s] 85 (0,0))] [] (by rfl) rfl Tryz.func66 rfl rfl kr (fun w1 h hh hd => bString b (flat four xs) B w1 hB hh hd om)) (fun _ _ => (.cons _ (.cons_cons _ .slnil))) ?_
   rintro ⟨⟩ -
   refine Ae 2 rfl 2  (Eff.buildSlice (e := 9) (cells := #[.string (tx (flat four xs))]) (parts := #[(0,.string (tx (flat four xs)))]) rfl kr (fun _ => kr)) (fun _ _ => (.cons _ (.cons _ (.cons_cons _ .slnil)))) ?_
   rintro x3 ⟨hx3,nx3⟩
   refine Ae 3 rfl 1  (Eff.callA (vs := [.agg #[.string s],.slice (some ⟨x3,0,none⟩) 1 1]) (.agg #[.string (tx (s.data.toList ++ cat [(tx (flat four xs))]))]) rfl Tryz.func65 rfl rfl kr (fun w1 h => wWith s (some ⟨x3,0,none⟩) 1 [(tx (flat four xs))] [(x3,.cells (List.map Value.string [(tx (flat four xs))]).toArray 9 (0,0))] w1 (inS_lit x3 9 (0,0) [(tx (flat four xs))]) (h.has (fun e he => mG 0 (by rw [List.mem_singleton.1 he]; rfl))) (one_len _) (by rw [cat_tx]; omega))) (fun _ _ => (.cons _ (.cons _ (.cons_cons _ .slnil)))) ?_
   rintro ⟨⟩ -
   refine Ae 4 rfl 0  (Eff.storeN (b := rs) (off := 0) (vs := #[.string (tx (s.data.toList ++ cat [(tx (flat four xs))]))]) (n := 1) rfl kr kr kr rfl (by simp [K.one]) 1 (cs := #[.string ByteArray.empty]) (e := 85) kr (by simp)) (fun _ _ => (.cons _ (.cons _ (.cons_cons _ .slnil)))) ?_
   rintro ⟨⟩ -
   refine CfgA.setO (congrArg (fun (xq : Array Value) => ([(x3,.cells #[.string (tx (flat four xs))] 9 (0,0)),(rs,.cells xq 85 (0,0)),(o,.cells #[.string s] 85 (0,0))] : LO)) (show _ = #[.string (tx (s.data.toList ++ cat [(tx (flat four xs))]))] from rfl)) ?_
   refine CfgA.done kr ?_
   refine Cg (Γ' := [(4,[],pT rs)]) ?_
   refine Cfg.ret rfl (rs := [.cell 4 85]) rfl [.agg #[.string (tx (s.data.toList ++ cat [(tx (flat four xs))]))]] ⟨⟨_,by kernel_rfl,(fun w1 h => h.oload 1 rfl Tryz.underlying85 rfl (n := 1) kr rfl)⟩,trivial⟩ (fun w1 hp => ?_)
   exact ⟨by rw [cat_tx]; rfl,hp.ext⟩
set_option maxRecDepth 100000 in
theorem wText (s : ByteArray) (la : Option Addr) (cap : Nat) (xs : List ByteArray) (Rl : List (Nat × Obj)) (w : World) (hI : InS Rl la xs.length (fun j => .string (xs.getD j ByteArray.empty))) (hR : Has w Rl) (hn : xs.length ≤ maxLen) (hr : s.size + (flat text4 xs).length ≤ 140737488355328) :
  Calls Tryz.prog 42 #[.agg #[.string s],.slice la xs.length cap] w fun e w' => e = .returned (.agg #[.string (tx (s.data.toList ++ flat text4 xs))]) ∧ Ext [] w w' := by
 unfold maxLen at hn
 refine enter (vs := [.agg #[.string s],.slice la xs.length cap]) [] Rl [] Tryz.func42 rfl kr (HP.ofHas hR) ?_
 refine Cfg.begL rfl ?_
 refine Le (Eff.box (v := .agg #[.string s]) rfl kr) ?_
 rintro o ⟨ho,no⟩
 refine Le (Eff.alloc (z := (.agg #[.string ByteArray.empty])) rfl kr) ?_
 rintro rs ⟨hrs,nrs⟩
 refine CfgL.done rfl ?_
 refine Cg (Γ' := [(4,[],pT rs),(2,[],pT o),(1,[],.slice la xs.length cap)]) ?_
 refine Cfg.begL rfl ?_
 refine Le (Eff.allocB 5 [(rs,.cells #[.string ByteArray.empty] 85 (0,0)),(o,.cells #[.string s] 85 (0,0))] [] rfl rfl kr) ?_
 rintro b ⟨hb,nb⟩
 refine CfgL.done rfl ?_
 refine Rg [2,4,5,8,9,10] [] n0 trivial ?_
 refine Cfg.setO (congrArg (fun (xq : List UInt8) => (([(rs,.cells #[.string ByteArray.empty] 85 (0,0)),(o,.cells #[.string s] 85 (0,0))] ++ (bl 118 5 b xq bd0 ++ [])) : LO)) (show _ = (flat text4 (xs.take 0)) from by rw [List.take_zero]; rfl)) ?_
 refine Cfg.loop rfl (ι := Nat × Bd) (fun (xz : Nat × Bd) => match xz with | (i,B) => [(10,[],.int .i64 (i : Int)),(9,[],.int .i64 (xs.length : Int)),(8,[],.slice la xs.length cap),(5,[],pT b),(4,[],pT rs),(2,[],pT o)]) (fun (xz : Nat × Bd) => match xz with | (i,B) => ([(rs,.cells #[.string ByteArray.empty] 85 (0,0)),(o,.cells #[.string s] 85 (0,0))] ++ (bl 118 5 b (flat text4 (xs.take i)) B ++ []))) (fun (xz : Nat × Bd) => match xz with | (i,B) => (i ≤ xs.length) ∧ (BdOk b (flat text4 (xs.take i)) B)) (fun (xz : Nat × Bd) => match xz with | (i,B) => xs.length - i) (0,bd0) ?_ (Conv.mk kr) slr ?_
 ·exact ⟨Nat.zero_le _,by rw [List.take_zero]; exact (bd0_ok b)⟩
 ·rintro ⟨i,B⟩ ⟨hi,hB⟩
  have hpart := fun (hlt : i < xs.length) => flat_part (f := text4) ByteArray.empty hlt
  refine Rg [2,4,5,8,9,10,11] [] n0 trivial ?_
  refine Cfg.cond rfl (b := (decide ((i : Int) < (xs.length : Int)))) kr (fun c1r => ?_) (fun c1r => ?_)
  ·have c1 := (dT c1r)
   have hpt := hpart om
   have ht4 : (text4 (xs.getD i ByteArray.empty)).length = 4 + (xs.getD i ByteArray.empty).size := by unfold text4; rw [List.length_append,be_len,ba_len]
   obtain ⟨sb,off,cs,te,fre,rfl,hmem,hcs⟩ := hI om
   refine Conv.cfg (Γ' := [(11,[],.bool (decide ((i : Int) < (xs.length : Int)))),(10,[],.int .i64 (i : Int)),(9,[],.int .i64 (xs.length : Int)),(8,[],.slice (some ⟨sb,off,none⟩) xs.length cap),(5,[],pT b),(4,[],pT rs),(2,[],pT o)]) (Conv.mk kr) ?_
   refine Rg [2,4,5,7,8,9,10] [dZ,(dS (.string (xs.getD i ByteArray.empty)))] (fun S => [(0 ≤ (i : Int) ∧ (i : Int) < (xs.length : Int)),(cE S sb (addO off i) (.string (xs.getD i ByteArray.empty)))]) ⟨om,(fun w1 h => by rw [addO_eq]; exact (cell_cells (h.ro _ hmem)).trans (hcs i om)),trivial⟩ ?_
   refine Cfg.begL rfl ?_
   refine Lp 3 [] (some [2,4,5,7,8,9,10,16]) n0 trivial ?_
   refine Le (Eff.callA (vs := [.int .u64 (((xs.getD i ByteArray.empty).size : Int) % 18446744073709551616),.int .i64 4]) (.string (beS (xs.getD i ByteArray.empty).size 4)) rfl Tryz.func67 rfl rfl kr (fun w1 _ => wNumMod _ om w1)) ?_
   rintro ⟨⟩ -
   refine Le (Eff.callH (vs := [pT b,.string (beS (xs.getD i ByteArray.empty).size 4)]) (fun _ => (.tuple #[.int .i64 ((beS (xs.getD i ByteArray.empty).size 4).size : Int),.nilIface] : Value)) (bl 118 5 b (flat text4 (xs.take i)) B) (fun B1 => bl 118 5 b ((flat text4 (xs.take i)) ++ (beS (xs.getD i ByteArray.empty).size 4).data.toList) B1) (fun B1 => BdOk b ((flat text4 (xs.take i)) ++ (beS (xs.getD i ByteArray.empty).size 4).data.toList) B1) [(rs,.cells #[.string ByteArray.empty] 85 (0,0)),(o,.cells #[.string s] 85 (0,0))] [] (by rfl) rfl Tryz.func68 rfl rfl kr (fun w1 h hh hd => bWriteString b (flat text4 (xs.take i)) B (beS (xs.getD i ByteArray.empty).size 4) w1 hB hh hd (by rw [beS_size]; omega))) ?_
   rintro B2 kB2
   refine CfgL.done rfl ?_
   refine Cg (Γ' := [(7,[],.string (xs.getD i ByteArray.empty)),(10,[],.int .i64 (i : Int)),(9,[],.int .i64 (xs.length : Int)),(8,[],.slice (some ⟨sb,off,none⟩) xs.length cap),(5,[],pT b),(4,[],pT rs),(2,[],pT o)]) ?_
   refine Cfg.begL rfl ?_
   refine Lp 1 [] (some [2,4,5,8,9,10,19]) n0 trivial ?_
   refine Le (Eff.callH (vs := [pT b,.string (xs.getD i ByteArray.empty)]) (fun _ => (.tuple #[.int .i64 ((xs.getD i ByteArray.empty).size : Int),.nilIface] : Value)) (bl 118 5 b ((flat text4 (xs.take i)) ++ (beS (xs.getD i ByteArray.empty).size 4).data.toList) B2) (fun B1 => bl 118 5 b (((flat text4 (xs.take i)) ++ (beS (xs.getD i ByteArray.empty).size 4).data.toList) ++ (xs.getD i ByteArray.empty).data.toList) B1) (fun B1 => BdOk b (((flat text4 (xs.take i)) ++ (beS (xs.getD i ByteArray.empty).size 4).data.toList) ++ (xs.getD i ByteArray.empty).data.toList) B1) [(rs,.cells #[.string ByteArray.empty] 85 (0,0)),(o,.cells #[.string s] 85 (0,0))] [] (by rfl) rfl Tryz.func68 rfl rfl kr (fun w1 h hh hd => bWriteString b ((flat text4 (xs.take i)) ++ (beS (xs.getD i ByteArray.empty).size 4).data.toList) B2 (xs.getD i ByteArray.empty) w1 kB2 hh hd (by rw [List.length_append,beS_list,be_len]; omega))) ?_
   rintro B3 kB3
   refine CfgL.done rfl ?_
   refine Cg (Γ' := [(10,[],.int .i64 (i : Int)),(9,[],.int .i64 (xs.length : Int)),(8,[],.slice (some ⟨sb,off,none⟩) xs.length cap),(5,[],pT b),(4,[],pT rs),(2,[],pT o)]) ?_
   refine Rg [2,4,5,8,9,10] [] (fun _ => [(i6 ((i : Int) + 1))]) ⟨om,trivial⟩ ?_
   have hcs2 : (((flat text4 (xs.take i)) ++ (beS (xs.getD i ByteArray.empty).size 4).data.toList) ++ (xs.getD i ByteArray.empty).data.toList) = (flat text4 (xs.take (i + 1))) := by rw [flat_succ ByteArray.empty om]; unfold text4; rw [← List.append_assoc,beS_list]
   refine Cfg.setO (congrArg (fun (xq : List UInt8) => (([(rs,.cells #[.string ByteArray.empty] 85 (0,0)),(o,.cells #[.string s] 85 (0,0))] ++ (bl 118 5 b xq B3 ++ [])) : LO)) (show _ = (flat text4 (xs.take (i + 1))) from hcs2)) ?_
   refine Cfg.again rfl (i + 1,B3) ⟨by omega,hcs2 ▸ kB3⟩ (by show xs.length - (i + 1) < xs.length - i; omega) (Conv.mk kr) slr
  ·have c1 := (dF c1r)
   obtain rfl : i = xs.length := by omega
   refine Cfg.setO (congrArg (fun (xq : List UInt8) => (([(rs,.cells #[.string ByteArray.empty] 85 (0,0)),(o,.cells #[.string s] 85 (0,0))] ++ (bl 118 5 b xq B ++ [])) : LO)) (show _ = (flat text4 xs) from by rw [List.take_length])) ?_
   rw [List.take_length] at hB
   refine Conv.cfg (Γ' := [(9,[],.int .i64 (xs.length : Int)),(8,[],.slice la xs.length cap),(5,[],pT b),(4,[],pT rs),(2,[],pT o)]) (Conv.mk kr) ?_
   refine Cfg.begA rfl kr [(o,.cells #[.string s] 85 (0,0))] ?_
   refine Ap [0] [(dS (.agg #[.string s]))] (some [4,5,22]) (tF 1 4) (.cons _ (.cons_cons _ (List.nil_sublist _))) 4 (fun S => [(∀ w1,S w1 → (loadVar 85 ⟨o,0,none⟩).run Tryz.prog w1 = .ok (.agg #[.string s]) w1)]) ⟨(fun w1 h => h.oload 0 rfl Tryz.underlying85 rfl (n := 1) kr rfl),trivial⟩ ?_
   refine Ae 1 rfl 3  (Eff.callH (vs := [pT b]) (fun _ : Unit => (.string (tx (flat text4 xs)) : Value)) (bl 118 5 b (flat text4 xs) B) (fun _ => []) (fun _ => True) [(rs,.cells #[.string ByteArray.empty] 85 (0,0)),(o,.cells #[.string s] 85 (0,0))] [] (by rfl) rfl Tryz.func66 rfl rfl kr (fun w1 h hh hd => bString b (flat text4 xs) B w1 hB hh hd om)) (fun _ _ => (.cons _ (.cons_cons _ .slnil))) ?_
   rintro ⟨⟩ -
   refine Ae 2 rfl 2  (Eff.buildSlice (e := 9) (cells := #[.string (tx (flat text4 xs))]) (parts := #[(0,.string (tx (flat text4 xs)))]) rfl kr (fun _ => kr)) (fun _ _ => (.cons _ (.cons _ (.cons_cons _ .slnil)))) ?_
   rintro x3 ⟨hx3,nx3⟩
   refine Ae 3 rfl 1  (Eff.callA (vs := [.agg #[.string s],.slice (some ⟨x3,0,none⟩) 1 1]) (.agg #[.string (tx (s.data.toList ++ cat [(tx (flat text4 xs))]))]) rfl Tryz.func65 rfl rfl kr (fun w1 h => wWith s (some ⟨x3,0,none⟩) 1 [(tx (flat text4 xs))] [(x3,.cells (List.map Value.string [(tx (flat text4 xs))]).toArray 9 (0,0))] w1 (inS_lit x3 9 (0,0) [(tx (flat text4 xs))]) (h.has (fun e he => mG 0 (by rw [List.mem_singleton.1 he]; rfl))) (one_len _) (by rw [cat_tx]; omega))) (fun _ _ => (.cons _ (.cons _ (.cons_cons _ .slnil)))) ?_
   rintro ⟨⟩ -
   refine Ae 4 rfl 0  (Eff.storeN (b := rs) (off := 0) (vs := #[.string (tx (s.data.toList ++ cat [(tx (flat text4 xs))]))]) (n := 1) rfl kr kr kr rfl (by simp [K.one]) 1 (cs := #[.string ByteArray.empty]) (e := 85) kr (by simp)) (fun _ _ => (.cons _ (.cons _ (.cons_cons _ .slnil)))) ?_
   rintro ⟨⟩ -
   refine CfgA.setO (congrArg (fun (xq : Array Value) => ([(x3,.cells #[.string (tx (flat text4 xs))] 9 (0,0)),(rs,.cells xq 85 (0,0)),(o,.cells #[.string s] 85 (0,0))] : LO)) (show _ = #[.string (tx (s.data.toList ++ cat [(tx (flat text4 xs))]))] from rfl)) ?_
   refine CfgA.done kr ?_
   refine Cg (Γ' := [(4,[],pT rs)]) ?_
   refine Cfg.ret rfl (rs := [.cell 4 85]) rfl [.agg #[.string (tx (s.data.toList ++ cat [(tx (flat text4 xs))]))]] ⟨⟨_,by kernel_rfl,(fun w1 h => h.oload 1 rfl Tryz.underlying85 rfl (n := 1) kr rfl)⟩,trivial⟩ (fun w1 hp => ?_)
   exact ⟨by rw [cat_tx]; rfl,hp.ext⟩
set_option maxRecDepth 100000 in
theorem wDigest (s : ByteArray) (la : Option Addr) (cap : Nat) (xs : List (List UInt8)) (Rl : List (Nat × Obj)) (w : World) (hI : InS Rl la (xs.length * 32) (fun j => .int .u8 (((xs.getD (j / 32) []).getD (j % 32) 0).toNat : Int))) (hR : Has w Rl) (hn : xs.length ≤ maxLen) (hr : s.size + (flat id xs).length ≤ 140737488355328) (hx : ∀ i,i < xs.length → (xs.getD i []).length = 32) :
  Calls Tryz.prog 40 #[.agg #[.string s],.slice la xs.length cap] w fun e w' => e = .returned (.agg #[.string (tx (s.data.toList ++ flat id xs))]) ∧ Ext [] w w' := by
 unfold maxLen at hn
 refine enter (vs := [.agg #[.string s],.slice la xs.length cap]) [] Rl [] Tryz.func40 rfl kr (HP.ofHas hR) ?_
 refine Cfg.begL rfl ?_
 refine Le (Eff.box (v := .agg #[.string s]) rfl kr) ?_
 rintro o ⟨ho,no⟩
 refine Le (Eff.alloc (z := (.agg #[.string ByteArray.empty])) rfl kr) ?_
 rintro rs ⟨hrs,nrs⟩
 refine CfgL.done rfl ?_
 refine Cg (Γ' := [(4,[],pT rs),(2,[],pT o),(1,[],.slice la xs.length cap)]) ?_
 refine Cfg.begL rfl ?_
 refine Le (Eff.allocB 5 [(rs,.cells #[.string ByteArray.empty] 85 (0,0)),(o,.cells #[.string s] 85 (0,0))] [] rfl rfl kr) ?_
 rintro b ⟨hb,nb⟩
 refine CfgL.done rfl ?_
 refine Rg [2,4,5,8,9,10] [] n0 trivial ?_
 refine Cfg.setO (congrArg (fun (xq : List UInt8) => (([(rs,.cells #[.string ByteArray.empty] 85 (0,0)),(o,.cells #[.string s] 85 (0,0))] ++ (bl 118 5 b xq bd0 ++ [])) : LO)) (show _ = (flat id (xs.take 0)) from by rw [List.take_zero]; rfl)) ?_
 refine Cfg.loop rfl (ι := Nat × Bd) (fun (xz : Nat × Bd) => match xz with | (i,B) => [(10,[],.int .i64 (i : Int)),(9,[],.int .i64 (xs.length : Int)),(8,[],.slice la xs.length cap),(5,[],pT b),(4,[],pT rs),(2,[],pT o)]) (fun (xz : Nat × Bd) => match xz with | (i,B) => ([(rs,.cells #[.string ByteArray.empty] 85 (0,0)),(o,.cells #[.string s] 85 (0,0))] ++ (bl 118 5 b (flat id (xs.take i)) B ++ []))) (fun (xz : Nat × Bd) => match xz with | (i,B) => (i ≤ xs.length) ∧ (BdOk b (flat id (xs.take i)) B)) (fun (xz : Nat × Bd) => match xz with | (i,B) => xs.length - i) (0,bd0) ?_ (Conv.mk kr) slr ?_
 ·exact ⟨Nat.zero_le _,by rw [List.take_zero]; exact (bd0_ok b)⟩
 ·rintro ⟨i,B⟩ ⟨hi,hB⟩
  have hpart := fun (hlt : i < xs.length) => flat_part (f := id) [] hlt
  refine Rg [2,4,5,8,9,10,11] [] n0 trivial ?_
  refine Cfg.cond rfl (b := (decide ((i : Int) < (xs.length : Int)))) kr (fun c1r => ?_) (fun c1r => ?_)
  ·have c1 := (dT c1r)
   have hpt := hpart om
   obtain ⟨sb,off,cs,te,fre,rfl,hmem,hcs⟩ := hI om
   refine Conv.cfg (Γ' := [(11,[],.bool (decide ((i : Int) < (xs.length : Int)))),(10,[],.int .i64 (i : Int)),(9,[],.int .i64 (xs.length : Int)),(8,[],.slice (some ⟨sb,off,none⟩) xs.length cap),(5,[],pT b),(4,[],pT rs),(2,[],pT o)]) (Conv.mk kr) ?_
   refine Cfg.begL rfl ?_
   refine Lp 2 [dZ,(dS (.agg (bv (xs.getD i []))))] (some [2,4,5,8,9,10,13]) (fun S => [(0 ≤ (i : Int) ∧ (i : Int) < (xs.length : Int)),(∀ w1,S w1 → (loadVar 36 ⟨sb,(addO off (i * 32)),none⟩).run Tryz.prog w1 = .ok (.agg (bv (xs.getD i []))) w1)]) ⟨om,(fun w1 h => load_bytes Tryz.underlying36 rfl kr (hx i om) (fun j hj => by rw [addO_eq]; exact (cell_cells (h.ro _ hmem)).trans ((congrArg (fun z => cs[z]?) (show off + i * 32 + j = off + (i * 32 + j) by omega)).trans ((hcs (i * 32 + j) om).trans (by simp only [show (i * 32 + j) / 32 = i by omega,show (i * 32 + j) % 32 = j by omega]))))),trivial⟩ ?_
   refine Le (Eff.alloc (z := (.agg (bv (List.replicate 32 0)))) rfl kr) ?_
   rintro d ⟨hd,nd⟩
   refine Le (Eff.storeN (b := d) (off := 0) (vs := (bv (xs.getD i []))) (n := 32) rfl kr kr kr ((bv_size _).trans (hx i om)) (all_bv _) 0 (cs := (bv (List.replicate 32 0))) (e := 36) kr (by rw [zsz32]; omega)) ?_
   rintro ⟨⟩ -
   refine CfgL.setO (congrArg (fun (xq : Array Value) => (([(d,.cells xq 36 (0,0)),(rs,.cells #[.string ByteArray.empty] 85 (0,0)),(o,.cells #[.string s] 85 (0,0))] ++ (bl 118 5 b (flat id (xs.take i)) B ++ [])) : LO)) (show _ = (bv (xs.getD i [])) from spl_all (((bv_size _).trans (hx i om)).trans zsz32.symm))) ?_
   refine CfgL.done rfl ?_
   refine Cg (Γ' := [(7,[],pT d),(10,[],.int .i64 (i : Int)),(9,[],.int .i64 (xs.length : Int)),(8,[],.slice (some ⟨sb,off,none⟩) xs.length cap),(5,[],pT b),(4,[],pT rs),(2,[],pT o)]) ?_
   refine Cfg.begL rfl ?_
   refine Lp 1 [] (some [2,4,5,8,9,10,14]) (fun _ => [(32 ≤ 32)]) ⟨om,trivial⟩ ?_
   refine Le (Eff.callH (vs := [pT b,.slice (some ⟨d,0,none⟩) 32 32]) (fun _ => (.tuple #[.int .i64 32,.nilIface] : Value)) (bl 118 5 b (flat id (xs.take i)) B) (fun B1 => bl 118 5 b ((flat id (xs.take i)) ++ (xs.getD i [])) B1) (fun B1 => BdOk b ((flat id (xs.take i)) ++ (xs.getD i [])) B1) [(d,.cells (bv (xs.getD i [])) 36 (0,0)),(rs,.cells #[.string ByteArray.empty] 85 (0,0)),(o,.cells #[.string s] 85 (0,0))] [] (by rfl) rfl Tryz.func64 rfl rfl kr (fun w1 h hh hd => bWrite b (flat id (xs.take i)) B d 32 32 (xs.getD i []) 36 w1 hB hh hd (by have h32 := hx i om; have hid : (id (xs.getD i []) : List UInt8).length = 32 := h32; omega) (by decide) (hx i om) (h.own (d,_) (mG 0 rfl)) (HP.notin h (mG 0 rfl)))) ?_
   rintro B1 kB1
   refine CfgL.done rfl ?_
   refine Cg (Γ' := [(10,[],.int .i64 (i : Int)),(9,[],.int .i64 (xs.length : Int)),(8,[],.slice (some ⟨sb,off,none⟩) xs.length cap),(5,[],pT b),(4,[],pT rs),(2,[],pT o)]) ?_
   refine Rg [2,4,5,8,9,10] [] (fun _ => [(i6 ((i : Int) + 1))]) ⟨om,trivial⟩ ?_
   have hcs2 : ((flat id (xs.take i)) ++ (xs.getD i [])) = (flat id (xs.take (i + 1))) := by rw [flat_succ [] om]; rfl
   refine Cfg.setO (congrArg (fun (xq : List UInt8) => (([(d,.cells (bv (xs.getD i [])) 36 (0,0)),(rs,.cells #[.string ByteArray.empty] 85 (0,0)),(o,.cells #[.string s] 85 (0,0))] ++ (bl 118 5 b xq B1 ++ [])) : LO)) (show _ = (flat id (xs.take (i + 1))) from hcs2)) ?_
   refine Cfg.again rfl (i + 1,B1) ⟨by omega,hcs2 ▸ kB1⟩ (by show xs.length - (i + 1) < xs.length - i; omega) (Conv.mk kr) (.cons _ slr)
  ·have c1 := (dF c1r)
   obtain rfl : i = xs.length := by omega
   refine Cfg.setO (congrArg (fun (xq : List UInt8) => (([(rs,.cells #[.string ByteArray.empty] 85 (0,0)),(o,.cells #[.string s] 85 (0,0))] ++ (bl 118 5 b xq B ++ [])) : LO)) (show _ = (flat id xs) from by rw [List.take_length])) ?_
   rw [List.take_length] at hB
   refine Conv.cfg (Γ' := [(9,[],.int .i64 (xs.length : Int)),(8,[],.slice la xs.length cap),(5,[],pT b),(4,[],pT rs),(2,[],pT o)]) (Conv.mk kr) ?_
   refine Cfg.begA rfl kr [(o,.cells #[.string s] 85 (0,0))] ?_
   refine Ap [0] [(dS (.agg #[.string s]))] (some [4,5,17]) (tF 1 4) (.cons _ (.cons_cons _ (List.nil_sublist _))) 4 (fun S => [(∀ w1,S w1 → (loadVar 85 ⟨o,0,none⟩).run Tryz.prog w1 = .ok (.agg #[.string s]) w1)]) ⟨(fun w1 h => h.oload 0 rfl Tryz.underlying85 rfl (n := 1) kr rfl),trivial⟩ ?_
   refine Ae 1 rfl 3  (Eff.callH (vs := [pT b]) (fun _ : Unit => (.string (tx (flat id xs)) : Value)) (bl 118 5 b (flat id xs) B) (fun _ => []) (fun _ => True) [(rs,.cells #[.string ByteArray.empty] 85 (0,0)),(o,.cells #[.string s] 85 (0,0))] [] (by rfl) rfl Tryz.func66 rfl rfl kr (fun w1 h hh hd => bString b (flat id xs) B w1 hB hh hd om)) (fun _ _ => (.cons _ (.cons_cons _ .slnil))) ?_
   rintro ⟨⟩ -
   refine Ae 2 rfl 2  (Eff.buildSlice (e := 9) (cells := #[.string (tx (flat id xs))]) (parts := #[(0,.string (tx (flat id xs)))]) rfl kr (fun _ => kr)) (fun _ _ => (.cons _ (.cons _ (.cons_cons _ .slnil)))) ?_
   rintro x4 ⟨hx4,nx4⟩
   refine Ae 3 rfl 1  (Eff.callA (vs := [.agg #[.string s],.slice (some ⟨x4,0,none⟩) 1 1]) (.agg #[.string (tx (s.data.toList ++ cat [(tx (flat id xs))]))]) rfl Tryz.func65 rfl rfl kr (fun w1 h => wWith s (some ⟨x4,0,none⟩) 1 [(tx (flat id xs))] [(x4,.cells (List.map Value.string [(tx (flat id xs))]).toArray 9 (0,0))] w1 (inS_lit x4 9 (0,0) [(tx (flat id xs))]) (h.has (fun e he => mG 0 (by rw [List.mem_singleton.1 he]; rfl))) (one_len _) (by rw [cat_tx]; omega))) (fun _ _ => (.cons _ (.cons _ (.cons_cons _ .slnil)))) ?_
   rintro ⟨⟩ -
   refine Ae 4 rfl 0  (Eff.storeN (b := rs) (off := 0) (vs := #[.string (tx (s.data.toList ++ cat [(tx (flat id xs))]))]) (n := 1) rfl kr kr kr rfl (by simp [K.one]) 1 (cs := #[.string ByteArray.empty]) (e := 85) kr (by simp)) (fun _ _ => (.cons _ (.cons _ (.cons_cons _ .slnil)))) ?_
   rintro ⟨⟩ -
   refine CfgA.setO (congrArg (fun (xq : Array Value) => ([(x4,.cells #[.string (tx (flat id xs))] 9 (0,0)),(rs,.cells xq 85 (0,0)),(o,.cells #[.string s] 85 (0,0))] : LO)) (show _ = #[.string (tx (s.data.toList ++ cat [(tx (flat id xs))]))] from rfl)) ?_
   refine CfgA.done kr ?_
   refine Cg (Γ' := [(4,[],pT rs)]) ?_
   refine Cfg.ret rfl (rs := [.cell 4 85]) rfl [.agg #[.string (tx (s.data.toList ++ cat [(tx (flat id xs))]))]] ⟨⟨_,by kernel_rfl,(fun w1 h => h.oload 1 rfl Tryz.underlying85 rfl (n := 1) kr rfl)⟩,trivial⟩ (fun w1 hp => ?_)
   exact ⟨by rw [cat_tx]; rfl,hp.ext⟩
set_option maxRecDepth 100000 in
theorem wRaw (s : ByteArray) (la : Option Addr) (cap : Nat) (ss : List ByteArray) (Rl : List (Nat × Obj)) (w : World) (hI : InS Rl la ss.length (fun j => .string (sat ss j))) (hR : Has w Rl) (hn : ss.length ≤ maxLen) (hr : s.size + (cat ss).length ≤ 140737488355328) :
  Calls Tryz.prog 44 #[.agg #[.string s],.slice la ss.length cap] w fun e w' => e = .returned (.agg #[.string (tx (s.data.toList ++ cat ss))]) ∧ Ext [] w w' := by
 refine enter (vs := [.agg #[.string s],.slice la ss.length cap]) [] Rl [] Tryz.func44 rfl kr (HP.ofHas hR) ?_
 refine Cfg.begL rfl ?_
 refine Le (Eff.box (v := .agg #[.string s]) rfl kr) ?_
 rintro o ⟨ho,no⟩
 refine Le (Eff.alloc (z := (.agg #[.string ByteArray.empty])) rfl kr) ?_
 rintro rs ⟨hrs,nrs⟩
 refine CfgL.done rfl ?_
 refine Cg (Γ' := [(4,[],pT rs),(2,[],pT o),(1,[],.slice la ss.length cap)]) ?_
 refine Cfg.begL rfl ?_
 refine Lp 2 [(dS (.agg #[.string s]))] (some [4,5,6]) (fun S => [(∀ w1,S w1 → (loadVar 85 ⟨o,0,none⟩).run Tryz.prog w1 = .ok (.agg #[.string s]) w1)]) ⟨(fun w1 h => h.oload 1 rfl Tryz.underlying85 rfl (n := 1) kr rfl),trivial⟩ ?_
 refine Le (Eff.callA (vs := [.agg #[.string s],.slice la ss.length cap]) (.agg #[.string (tx (s.data.toList ++ cat ss))]) rfl Tryz.func65 rfl rfl kr (fun w1 h => wWith s la cap ss Rl w1 hI (h.hasR (fun _ he => he)) hn hr)) ?_
 rintro ⟨⟩ -
 refine Le (Eff.storeN (b := rs) (off := 0) (vs := #[.string (tx (s.data.toList ++ cat ss))]) (n := 1) rfl kr kr kr rfl (by simp [K.one]) 0 (cs := #[.string ByteArray.empty]) (e := 85) kr (by simp)) ?_
 rintro ⟨⟩ -
 refine CfgL.setO (congrArg (fun (xq : Array Value) => ([(rs,.cells xq 85 (0,0)),(o,.cells #[.string s] 85 (0,0))] : LO)) (show _ = #[.string (tx (s.data.toList ++ cat ss))] from rfl)) ?_
 refine CfgL.done rfl ?_
 refine Cg (Γ' := [(4,[],pT rs)]) ?_
 refine Cfg.ret rfl (rs := [.cell 4 85]) rfl [.agg #[.string (tx (s.data.toList ++ cat ss))]] ⟨⟨_,by kernel_rfl,(fun w1 h => h.oload 0 rfl Tryz.underlying85 rfl (n := 1) kr rfl)⟩,trivial⟩ (fun w1 hp => ?_)
 exact ⟨rfl,hp.ext⟩
set_option maxRecDepth 100000 in
theorem wString (s : ByteArray) (w : World) :
  Calls Tryz.prog 43 #[.agg #[.string s]] w fun e w' => e = .returned (.string s) ∧ Ext [] w w' := by
 refine enter (vs := [.agg #[.string s]]) [] [] [] Tryz.func43 rfl kr (HP.start w) ?_
 refine Cfg.begL rfl ?_
 refine Le (Eff.box (v := .agg #[.string s]) rfl kr) ?_
 rintro o ⟨ho,no⟩
 refine Lp 1 [] (some [1]) n0 trivial ?_
 refine CfgL.done rfl ?_
 refine Rg [2] [dZ,(dS (.string s))] (fun S => [(cE S o 0 (.string s))]) ⟨(oC 0 rfl rfl),trivial⟩ ?_
 refine Cfg.ret rfl (rs := [.tmp 2]) rfl [.string s] ⟨kr,trivial⟩ (fun w1 hp => ?_)
 exact ⟨rfl,hp.ext⟩
end Go.Proofs.YtbeegepcdglcaaaGreatDoor
namespace Go.Proofs.YtbeegepcdglcaaaGreatDoor
open K
set_option linter.unusedVariables false
theorem byteLt (b : UInt8) : b.toNat < 256 := UInt8.toNat_lt b
structure IN where
 er : Int
 rest : List UInt8
def inC (z : IN) : Array Value := #[.int .i64 z.er,.string (tx z.rest)]
def failF (z : IN) (e : Int) : IN := if z.er = 0 then ⟨e,z.rest⟩ else z
def nextF (z : IN) (n : Int) : List UInt8 × IN := if z.er ≠ 0 then ([],z) else if n < 0 ∨ n > (z.rest.length : Int) then ([],⟨3,z.rest⟩) else (z.rest.take n.toNat,⟨z.er,z.rest.drop n.toNat⟩)
theorem tx_take (l : List UInt8) (n : Nat) : (tx l).extract 0 n = tx (l.take n) := by
 apply ByteArray.ext
 apply Array.ext'
 rw [ByteArray.data_extract,Array.toList_extract,List.extract_eq_take_drop]
 simp [tx]
theorem tx_drop (l : List UInt8) (n : Nat) : (tx l).extract n (tx l).size = tx (l.drop n) := by
 apply ByteArray.ext
 apply Array.ext'
 rw [ByteArray.data_extract,Array.toList_extract,List.extract_eq_take_drop,tx_size]
 simp only [tx,List.take_of_length_le (show (l.drop n).length ≤ l.length - n by simp)]
theorem nextF_len (z : IN) (n : Nat) : (nextF z n).1.length ≤ n := by
 unfold nextF
 split
 ·simp
 ·split
  ·simp
  ·simp; omega
def vf (n : Nat) (b : UInt8) : Nat := n * 256 % 18446744073709551616 + b.toNat
def valF (l : List UInt8) : Nat := l.foldl vf 0
theorem vf_lt (n : Nat) (b : UInt8) : vf n b < 18446744073709551616 := by have := byteLt b; unfold vf; omega
theorem foldl_lt : ∀ (l : List UInt8) (n : Nat),n < 18446744073709551616 → l.foldl vf n < 18446744073709551616
 | [],n,h => h
 | b :: l,n,_ => foldl_lt l (vf n b) (vf_lt n b)
theorem valF_lt (l : List UInt8) : valF l < 18446744073709551616 := foldl_lt l 0 (by decide)
theorem or256 (a b : Nat) (hb : b < 256) : 256 * a ||| b = 256 * a + b := by
 have := Nat.two_pow_add_eq_or_of_lt (i := 8) (b := b) (by simpa using hb) a
 simpa using this.symm
theorem vf_or (n : Nat) (b : UInt8) : ((((n : Int) * 256) % 18446744073709551616).toNat ||| b.toNat) = vf n b := by
 have := byteLt b
 rw [show (((n : Int) * 256) % 18446744073709551616).toNat = 256 * (n % 72057594037927936) by omega,or256 _ _ this]
 unfold vf; omega
def gb (l : List UInt8) (i : Nat) : UInt8 := l.getD i 0
theorem val_succ {l : List UInt8} {i : Nat} (h : i < l.length) : valF (l.take (i + 1)) = vf (valF (l.take i)) (gb l i) := by
 unfold valF
 rw [List.take_succ_eq_append_getElem h,List.foldl_append]
 simp [gb,List.getElem?_eq_getElem h]
def byteF (z : IN) : Nat × IN := (valF (nextF z 1).1 % 256,(nextF z 1).2)
def fourF (z : IN) : Nat × IN := (valF (nextF z 4).1 % 4294967296,(nextF z 4).2)
def boundF (z : IN) (most e : Int) : Nat × IN := if (fourF z).1 > (if 0 > most then 0 else most).toNat then (0,failF (fourF z).2 e) else fourF z
theorem fourF_lt (z : IN) : (fourF z).1 < 4294967296 := Nat.mod_lt _ (by decide)
theorem boundF_lt (z : IN) (most e : Int) : (boundF z most e).1 < 4294967296 := by
 have h1 := fourF_lt z
 unfold boundF
 generalize (if 0 > most then 0 else most) = m
 split
 ·show 0 < 4294967296; decide
 ·exact h1
def textF (z : IN) (most : Int) : List UInt8 × IN := nextF (boundF z most 5).2 ((boundF z most 5).1 : Nat)
def dig32 (l : List UInt8) : List UInt8 := if l.length = 32 then l else List.replicate 32 0
theorem dig32_len (l : List UInt8) : (dig32 l).length = 32 := by unfold dig32; split <;> simp_all
def digF (z : IN) : List UInt8 × IN := (dig32 (nextF z 32).1,(nextF z 32).2)
def endF (z : IN) : Int := if z.er ≠ 0 then z.er else if (z.rest.length : Int) > 0 then 4 else 0
theorem next_none (z : IN) (n : Int) : (nextF z n).1 = [] ∨ (nextF z n).1.length = n.toNat := by
 unfold nextF
 split
 ·exact .inl rfl
 ·split
  ·exact .inl rfl
  ·right; simp; omega
theorem dig_spl {l : List UInt8} (h : l = [] ∨ l.length = 32) {m : Nat} (hm : m = min l.length 32) : spl (bv (List.replicate 32 0)) 0 (bv (l.take m)).toList = bv (dig32 l) := by
 rcases h with h | h
 ·subst h; simp [dig32,bv,spl]
 ·rw [hm,h,Nat.min_self,List.take_of_length_le om,show dig32 l = l from if_pos h]
  exact spl_all (by rw [bv_size,bv_size,h]; rfl)
theorem sbyte_gb (l : List UInt8) (i : Nat) : sbyte (tx l) (i : Int) = ((gb l i).toNat : Int) := rfl
set_option maxRecDepth 100000 in
theorem wOf (l : List UInt8) (w : World) :
  Calls Tryz.prog 55 #[.string (tx l)] w fun e w' => ∃ b : Nat,True ∧ e = .returned (.pointer (some ⟨b,0,none⟩)) ∧ w.heap.size ≤ b ∧ w'.heap[b]? = some (.cells (inC ⟨0,l⟩) 140 (0,0)) ∧ Ext [] w w' := by
 refine enter (vs := [.string (tx l)]) [] [] [] Tryz.func55 rfl kr (HP.start w) ?_
 refine Rg [0] [] n0 trivial ?_
 refine Cfg.begL rfl ?_
 refine Lp 2 [dZ,(dS (.agg (inC ⟨0,l⟩)))] (some [4]) (fun S => [(∀ w1,S w1 → (Instr.build 140 #[(1,.string (tx l))]).run Tryz.prog w1 = .ok (.agg (inC ⟨0,l⟩)) w1)]) ⟨(fun _ _ => kr),trivial⟩ ?_
 refine Le (Eff.box (v := .agg (inC ⟨0,l⟩)) rfl kr) ?_
 rintro b1 ⟨hb1,nb1⟩
 refine Lp 1 [] (some [2]) n0 trivial ?_
 refine CfgL.done rfl ?_
 refine Cfg.ret rfl (rs := [.tmp 2]) rfl [pT b1] ⟨kr,trivial⟩ (fun w1 hp => ?_)
 exact ⟨b1,trivial,rfl,hb1,hp.own (b1,_) mH,hp.ext⟩
set_option maxRecDepth 100000 in
theorem wFailed (b : Nat) (z : IN) (w : World) (hB : w.heap[b]? = some (.cells (inC z) 140 (0,0))) :
  Calls Tryz.prog 102 #[.pointer (some ⟨b,0,none⟩)] w fun e w' => e = .returned (.bool (z.er != (0 : Int))) ∧ Ext [] w w' := by
 refine enter (vs := [pT b]) [] [(b,.cells (inC z) 140 (0,0))] [] Tryz.func102 rfl kr (HP.ofHas (fun e he => by rw [List.mem_singleton.1 he]; exact hB)) ?_
 refine Rg [0] [] n0 trivial ?_
 refine Rg [2] [dZ,dZ,dZ,(dS (.int .i64 z.er))] (fun S => [(cE S b 0 (.int .i64 z.er))]) ⟨(rC 0 rfl rfl),trivial⟩ ?_
 refine Cfg.ret rfl (rs := [.tmp 2]) rfl [.bool (z.er != (0 : Int))] ⟨kr,trivial⟩ (fun w1 hp => ?_)
 exact ⟨rfl,hp.ext⟩
set_option maxRecDepth 100000 in
theorem wNote (b : Nat) (z : IN) (x : Int) (w : World) (hB : w.heap[b]? = some (.cells (inC z) 140 (0,0))) :
  Calls Tryz.prog 103 #[.pointer (some ⟨b,0,none⟩),.int .i64 x] w fun e w' => e = .returned (.tuple #[]) ∧ Ext [b] w w' ∧ w'.heap[b]? = some (.cells (inC (failF z x)) 140 (0,0)) := by
 refine enter (vs := [pT b,.int .i64 x]) [b] [] [(b,.cells (inC z) 140 (0,0))] Tryz.func103 rfl kr (HP.startM (R := []) (fun _ h => by cases h) hB (by simp)) ?_
 refine Rg [0,1,8] [dZ,dZ,dZ,(dS (.int .i64 z.er))] (fun S => [(cE S b 0 (.int .i64 z.er))]) ⟨(oC 0 rfl rfl),trivial⟩ ?_
 refine Cfg.cond rfl (b := (z.er == (0 : Int))) kr (fun c1r => ?_) (fun c1r => ?_)
 ·have c1 := (beq_iff_eq.1 c1r)
  refine Cfg.begL rfl ?_
  refine Lp 4 [] (some [10,12]) n0 trivial ?_
  refine Le (Eff.store1 (b := b) (off := 0) (v := .int .i64 x) rfl kr kr rfl kr 0 (cs := (inC z)) (e := 140) kr (by simp [inC])) ?_
  rintro ⟨⟩ -
  refine CfgL.done rfl ?_
  refine Cg (Γ' := []) ?_
  refine Cfg.fin rfl (rs := []) rfl [] trivial (fun w1 hp => ?_)
  exact ⟨rfl,hp.ext,(show failF z x = ⟨x,z.rest⟩ from if_pos c1).symm ▸ hp.own (b,_) mH⟩
 ·have c1 := (beq_eq_false_iff_ne.1 c1r)
  refine Cfg.fin rfl (rs := []) rfl [] trivial (fun w1 hp => ?_)
  exact ⟨rfl,hp.ext,(show failF z x = z from if_neg c1).symm ▸ hp.own (b,_) mH⟩
set_option maxRecDepth 100000 in
theorem wNext (b : Nat) (z : IN) (n : Int) (w : World) (hB : w.heap[b]? = some (.cells (inC z) 140 (0,0))) :
  Calls Tryz.prog 76 #[.pointer (some ⟨b,0,none⟩),.int .i64 n] w fun e w' => e = .returned (.string (tx (nextF z n).1)) ∧ Ext [b] w w' ∧ w'.heap[b]? = some (.cells (inC (nextF z n).2) 140 (0,0)) := by
 have hts := tx_size z.rest
 refine enter (vs := [pT b,.int .i64 n]) [b] [] [(b,.cells (inC z) 140 (0,0))] Tryz.func76 rfl kr (HP.startM (R := []) (fun _ h => by cases h) hB (by simp)) ?_
 refine Rg [0,1] [] n0 trivial ?_
 refine Cfg.begL rfl ?_
 refine Lp 6 [dZ,dZ,dZ,(1,false,none),(1,false,none),(1,false,none)] (some [0,1,8,11]) (fun _ => [((.bool false : Value) = .bool false),((.bool false : Value) = .bool false),((.bool false : Value) = .bool false)]) ⟨rfl,rfl,rfl,trivial⟩ ?_
 refine Le (Eff.callA (vs := [pT b]) (.bool (z.er != (0 : Int))) rfl Tryz.func102 rfl rfl kr (fun w1 h => wFailed b z w1 (h.own (b,_) (mG 0 rfl)))) ?_
 rintro ⟨⟩ -
 refine Lp 1 [] (some [0,1,13]) n0 trivial ?_
 refine CfgL.done rfl ?_
 refine Cfg.cond rfl (b := (z.er != (0 : Int))) kr (fun c1r => ?_) (fun c1r => ?_)
 ·have c1 := (bne_iff_ne.1 c1r)
  refine Rg [4] [] n0 trivial ?_
  refine Cfg.ret rfl (rs := [.tmp 4]) rfl [.string ⟨#[]⟩] ⟨kr,trivial⟩ (fun w1 hp => ?_)
  have hx : nextF z n = ([],z) := if_pos c1
  rw [hx]
  exact ⟨rfl,hp.ext,hp.own (b,_) mH⟩
 ·have c1 := (bne_eq_false_iff_eq.1 c1r)
  refine Rg [0,1,24] [dZ,dZ,dZ,dZ,dZ,dZ,dZ,(dS (.string (tx z.rest)))] (fun S => [((.bool (decide (n < (0 : Int))) : Value) = .bool false → (cE S b 1 (.string (tx z.rest))))]) ⟨(fun g0 => have q0 : (¬ (n < (0 : Int))) := (dF (boolV g0)); (oC 0 rfl rfl)),trivial⟩ ?_
  refine Cfg.cond rfl (b := ((decide (n < (0 : Int))) || (decide (n > ((tx z.rest).size : Int))))) kr (fun c2r => ?_) (fun c2r => ?_)
  ·have c2 : ((n < (0 : Int)) ∨ (n > ((tx z.rest).size : Int))) := ((orT c2r).elim (fun h => Or.inl (dT h)) (fun h => Or.inr (dT h)))
   refine Cfg.begL rfl ?_
   refine Lp 3 [] (some [27]) n0 trivial ?_
   refine Le (Eff.callM (vs := [pT b,.int .i64 3]) (.tuple #[]) 0 (b := b) (ob := .cells (inC z) 140 (0,0)) (.cells (inC (failF z (3 : Int))) 140 (0,0)) rfl Tryz.func103 rfl rfl kr kr (fun w1 h => wNote b z (3 : Int) w1 (h.own (b,_) (mG 0 rfl)))) ?_
   rintro ⟨⟩ -
   refine CfgL.done rfl ?_
   refine Cg (Γ' := []) ?_
   refine Rg [4] [] n0 trivial ?_
   refine Cfg.ret rfl (rs := [.tmp 4]) rfl [.string ⟨#[]⟩] ⟨kr,trivial⟩ (fun w1 hp => ?_)
   have hx : nextF z n = ([],⟨3,z.rest⟩) := (if_neg om).trans (if_pos om)
   have hf : failF z (3 : Int) = ⟨3,z.rest⟩ := if_pos om
   rw [hx]
   exact ⟨rfl,hp.ext,hf ▸ hp.own (b,_) mH⟩
  ·have c2 : ((¬ (n < (0 : Int))) ∧ (¬ (n > ((tx z.rest).size : Int)))) := ⟨(dF (orF1 c2r)),(dF (orF2 c2r))⟩
   refine Rg [0,1,5] [dZ,dZ,dZ,(dS (.string (tx z.rest)))] (fun S => [(cE S b 1 (.string (tx z.rest))),(0 ≤ n),(0 ≤ (n).toNat ∧ (n).toNat ≤ (tx z.rest).size)]) ⟨(oC 0 rfl rfl),om,om,trivial⟩ ?_
   refine Cfg.begL rfl ?_
   refine Lp 9 [dZ,dZ,dZ,dZ,(dS (.string (tx z.rest)))] (some [5,41,43]) (fun S => [(cE S b 1 (.string (tx z.rest))),(0 ≤ n),((n).toNat ≤ (tx z.rest).size ∧ (tx z.rest).size ≤ (tx z.rest).size)]) ⟨(oC 0 rfl rfl),om,om,trivial⟩ ?_
   refine Le (Eff.store1 (b := b) (off := 1) (v := .string ((tx z.rest).extract ((n).toNat) ((tx z.rest).size))) rfl kr kr rfl kr 0 (cs := (inC z)) (e := 140) kr (by simp [inC])) ?_
   rintro ⟨⟩ -
   refine CfgL.done rfl ?_
   refine Cg (Γ' := [(5,[],.string ((tx z.rest).extract 0 ((n).toNat)))]) ?_
   refine Rg [4] [] n0 trivial ?_
   refine Cfg.ret rfl (rs := [.tmp 4]) rfl [.string ((tx z.rest).extract 0 ((n).toNat))] ⟨kr,trivial⟩ (fun w1 hp => ?_)
   have hx : nextF z n = (z.rest.take n.toNat,⟨z.er,z.rest.drop n.toNat⟩) := (if_neg om).trans (if_neg om)
   rw [hx]
   exact ⟨by rw [tx_take]; rfl,hp.ext,by show w1.heap[b]? = some (.cells #[.int .i64 z.er,.string (tx (z.rest.drop n.toNat))] 140 (0,0)); rw [← tx_drop]; exact hp.own (b,_) mH⟩
set_option maxRecDepth 100000 in
theorem wValue (l : List UInt8) (w : World) (hl : l.length ≤ 9223372036854775807) :
  Calls Tryz.prog 105 #[.string (tx l)] w fun e w' => e = .returned (.int .u64 (valF l : Int)) ∧ Ext [] w w' := by
 have hts := tx_size l
 refine enter (vs := [.string (tx l)]) [] [] [] Tryz.func105 rfl kr (HP.start w) ?_
 refine Rg [0] [] n0 trivial ?_
 refine Rg [0,3] [] n0 trivial ?_
 refine Rg [0,3,6,7] [] n0 trivial ?_
 refine Cfg.loop rfl (ι := Nat) (fun (i : Nat) => [(7,[],.int .i64 (i : Int)),(6,[],.int .i64 ((tx l).size : Int)),(3,[],.int .u64 ((valF (l.take i)) : Int)),(0,[],.string (tx l))]) (fun (i : Nat) => []) (fun (i : Nat) => (i ≤ l.length)) (fun (i : Nat) => l.length - i) 0 ?_ (Conv.mk kr) .slnil ?_
 ·exact Nat.zero_le _
 ·rintro i hi
  refine Rg [0,3,6,7,8] [] n0 trivial ?_
  refine Cfg.cond rfl (b := (decide ((i : Int) < ((tx l).size : Int)))) kr (fun c1r => ?_) (fun c1r => ?_)
  ·have c1 := (dT c1r)
   refine Rg [0,3,4,6,7] [] n0 trivial ?_
   refine Rg [0,3,6,7] [] (fun _ => [(0 ≤ (8 : Int) ∧ 8 ≤ 64),(0 ≤ (i : Int) ∧ (i : Int) < ((tx l).size : Int)),((0 : Int) ≤ (sbyte (tx l) (i : Int)) ∧ (sbyte (tx l) (i : Int)) ≤ 18446744073709551615),((0 ≤ ((((valF (l.take i)) : Int) * 256) % 18446744073709551616) ∧ ((((valF (l.take i)) : Int) * 256) % 18446744073709551616) ≤ 18446744073709551615) ∧ 0 ≤ (sbyte (tx l) (i : Int)) ∧ (sbyte (tx l) (i : Int)) ≤ 18446744073709551615)]) ⟨om,om,(by have := byteLt (gb l i); have := valF_lt (l.take i); have := sbyte_gb l i; omega),(by have := byteLt (gb l i); have := valF_lt (l.take i); have := sbyte_gb l i; omega),trivial⟩ ?_
   refine Rg [0,3,6,7] [] (fun _ => [(i6 ((i : Int) + 1))]) ⟨om,trivial⟩ ?_
   refine Cfg.setS 3 (congrArg (fun (xq : Int) => (.int .u64 xq : Value)) (show (((((((valF (l.take i)) : Int) * 256) % 18446744073709551616)).toNat ||| ((sbyte (tx l) (i : Int))).toNat : Nat) : Int) = ((valF (l.take (i + 1))) : Int) from by rw [val_succ om,← vf_or,sbyte_gb]; rfl)) ?_
   refine Cfg.again rfl (i + 1) (show i + 1 ≤ l.length by omega) om (Conv.mk kr) .slnil
  ·have c1 := (dF c1r)
   refine Rg [2] [] n0 trivial ?_
   refine Cfg.ret rfl (rs := [.tmp 2]) rfl [.int .u64 ((valF (l.take i)) : Int)] ⟨kr,trivial⟩ (fun w1 hp => ?_)
   exact ⟨by rw [show l.take i = l from List.take_of_length_le om]; rfl,hp.ext⟩
set_option maxRecDepth 100000 in
theorem wTByte (b : Nat) (z : IN) (w : World) (hB : w.heap[b]? = some (.cells (inC z) 140 (0,0))) :
  Calls Tryz.prog 80 #[.pointer (some ⟨b,0,none⟩)] w fun e w' => e = .returned (.int .u8 ((byteF z).1 : Int)) ∧ Ext [b] w w' ∧ w'.heap[b]? = some (.cells (inC (byteF z).2) 140 (0,0)) := by
 refine enter (vs := [pT b]) [b] [] [(b,.cells (inC z) 140 (0,0))] Tryz.func80 rfl kr (HP.startM (R := []) (fun _ h => by cases h) hB (by simp)) ?_
 refine Rg [0] [] n0 trivial ?_
 refine Cfg.begL rfl ?_
 refine Lp 1 [] (some [3]) n0 trivial ?_
 refine Le (Eff.callM (vs := [pT b,.int .i64 1]) (.string (tx (nextF z (1 : Int)).1)) 0 (b := b) (ob := .cells (inC z) 140 (0,0)) (.cells (inC ((nextF z (1 : Int)).2)) 140 (0,0)) rfl Tryz.func76 rfl rfl kr kr (fun w1 h => wNext b z (1 : Int) w1 (h.own (b,_) (mG 0 rfl)))) ?_
 rintro ⟨⟩ -
 refine Le (Eff.callA (vs := [.string (tx (nextF z (1 : Int)).1)]) (.int .u64 ((valF ((nextF z (1 : Int)).1)) : Int)) rfl Tryz.func105 rfl rfl kr (fun w1 _ => wValue ((nextF z (1 : Int)).1) w1 (Nat.le_trans (nextF_len _ _) (by decide)))) ?_
 rintro ⟨⟩ -
 refine Lp 2 [] (some [2]) n0 trivial ?_
 refine CfgL.done rfl ?_
 refine Cfg.ret rfl (rs := [.tmp 2]) rfl [.int .u8 (((valF ((nextF z (1 : Int)).1)) : Int) % 256)] ⟨kr,trivial⟩ (fun w1 hp => ?_)
 exact ⟨rfl,hp.ext,hp.own (b,_) mH⟩
set_option maxRecDepth 100000 in
theorem wTFour (b : Nat) (z : IN) (w : World) (hB : w.heap[b]? = some (.cells (inC z) 140 (0,0))) :
  Calls Tryz.prog 84 #[.pointer (some ⟨b,0,none⟩)] w fun e w' => e = .returned (.int .u32 ((fourF z).1 : Int)) ∧ Ext [b] w w' ∧ w'.heap[b]? = some (.cells (inC (fourF z).2) 140 (0,0)) := by
 refine enter (vs := [pT b]) [b] [] [(b,.cells (inC z) 140 (0,0))] Tryz.func84 rfl kr (HP.startM (R := []) (fun _ h => by cases h) hB (by simp)) ?_
 refine Rg [0] [] n0 trivial ?_
 refine Cfg.begL rfl ?_
 refine Lp 1 [] (some [3]) n0 trivial ?_
 refine Le (Eff.callM (vs := [pT b,.int .i64 4]) (.string (tx (nextF z (4 : Int)).1)) 0 (b := b) (ob := .cells (inC z) 140 (0,0)) (.cells (inC ((nextF z (4 : Int)).2)) 140 (0,0)) rfl Tryz.func76 rfl rfl kr kr (fun w1 h => wNext b z (4 : Int) w1 (h.own (b,_) (mG 0 rfl)))) ?_
 rintro ⟨⟩ -
 refine Le (Eff.callA (vs := [.string (tx (nextF z (4 : Int)).1)]) (.int .u64 ((valF ((nextF z (4 : Int)).1)) : Int)) rfl Tryz.func105 rfl rfl kr (fun w1 _ => wValue ((nextF z (4 : Int)).1) w1 (Nat.le_trans (nextF_len _ _) (by decide)))) ?_
 rintro ⟨⟩ -
 refine Lp 2 [] (some [2]) n0 trivial ?_
 refine CfgL.done rfl ?_
 refine Cfg.ret rfl (rs := [.tmp 2]) rfl [.int .u32 (((valF ((nextF z (4 : Int)).1)) : Int) % 4294967296)] ⟨kr,trivial⟩ (fun w1 hp => ?_)
 exact ⟨rfl,hp.ext,hp.own (b,_) mH⟩
set_option maxRecDepth 100000 in
theorem wFail (b : Nat) (z : IN) (x : Int) (w : World) (hB : w.heap[b]? = some (.cells (inC z) 140 (0,0))) :
  Calls Tryz.prog 82 #[.pointer (some ⟨b,0,none⟩),.int .i64 x] w fun e w' => e = .returned (.tuple #[]) ∧ Ext [b] w w' ∧ w'.heap[b]? = some (.cells (inC (failF z x)) 140 (0,0)) := by
 refine enter (vs := [pT b,.int .i64 x]) [b] [] [(b,.cells (inC z) 140 (0,0))] Tryz.func82 rfl kr (HP.startM (R := []) (fun _ h => by cases h) hB (by simp)) ?_
 refine Rg [0,1,5] [] n0 trivial ?_
 refine Cfg.condT rfl (b := true) kr rfl ?_
 refine Cfg.begL rfl ?_
 refine Lp 4 [] (some [8,9]) n0 trivial ?_
 refine Le (Eff.callM (vs := [pT b,.int .i64 x]) (.tuple #[]) 0 (b := b) (ob := .cells (inC z) 140 (0,0)) (.cells (inC (failF z x)) 140 (0,0)) rfl Tryz.func103 rfl rfl kr kr (fun w1 h => wNote b z x w1 (h.own (b,_) (mG 0 rfl)))) ?_
 rintro ⟨⟩ -
 refine CfgL.done rfl ?_
 refine Cg (Γ' := []) ?_
 refine Cfg.fin rfl (rs := []) rfl [] trivial (fun w1 hp => ?_)
 exact ⟨rfl,hp.ext,hp.own (b,_) mH⟩
set_option maxRecDepth 100000 in
theorem wBounded (b : Nat) (z : IN) (most x : Int) (w : World) (hB : w.heap[b]? = some (.cells (inC z) 140 (0,0))) (hm : most ≤ 9223372036854775807) :
  Calls Tryz.prog 104 #[.pointer (some ⟨b,0,none⟩),.int .i64 most,.int .i64 x] w fun e w' => e = .returned (.int .i64 ((boundF z most x).1 : Int)) ∧ Ext [b] w w' ∧ w'.heap[b]? = some (.cells (inC (boundF z most x).2) 140 (0,0)) := by
 have hfl := fourF_lt z
 have hmx : (if (0 : Int) > most then (0 : Int) else most) ≤ 9223372036854775807 ∧ 0 ≤ (if (0 : Int) > most then (0 : Int) else most) := by split <;> omega
 refine enter (vs := [pT b,.int .i64 most,.int .i64 x]) [b] [] [(b,.cells (inC z) 140 (0,0))] Tryz.func104 rfl kr (HP.startM (R := []) (fun _ h => by cases h) hB (by simp)) ?_
 refine Rg [0,1,2] [] n0 trivial ?_
 refine Cfg.begL rfl ?_
 refine Lp 1 [] none n0 trivial ?_
 refine Le (Eff.callM (vs := [pT b]) (.int .u32 ((fourF z).1 : Int)) 0 (b := b) (ob := .cells (inC z) 140 (0,0)) (.cells (inC ((fourF z).2)) 140 (0,0)) rfl Tryz.func84 rfl rfl kr kr (fun w1 h => wTFour b z w1 (h.own (b,_) (mG 0 rfl)))) ?_
 rintro ⟨⟩ -
 refine Lp 1 [] (some [0,1,2,7]) n0 trivial ?_
 refine CfgL.done rfl ?_
 refine Cfg.begL rfl ?_
 refine Lp 3 [] (some [0,2,7,11,12]) (fun _ => [((0 : Int) ≤ ((fourF z).1 : Int) ∧ ((fourF z).1 : Int) ≤ 18446744073709551615)]) ⟨om,trivial⟩ ?_
 refine Le (Eff.maxI (k := .i64) (a := most) (b := 0) rfl kr kr) ?_
 rintro ⟨⟩ -
 refine Lp 2 [] (some [0,2,7,15]) n0 trivial ?_
 refine CfgL.done rfl ?_
 refine Cfg.cond rfl (b := (decide (((fourF z).1 : Int) > ((if (0 : Int) > most then (0 : Int) else most) % 18446744073709551616)))) kr (fun c1r => ?_) (fun c1r => ?_)
 ·have c1 := (dT c1r)
  refine Cfg.begL rfl ?_
  refine Lp 2 [] (some [16,17]) n0 trivial ?_
  refine Le (Eff.callM (vs := [pT b,.int .i64 x]) (.tuple #[]) 0 (b := b) (ob := .cells (inC ((fourF z).2)) 140 (0,0)) (.cells (inC (failF ((fourF z).2) x)) 140 (0,0)) rfl Tryz.func82 rfl rfl kr kr (fun w1 h => wFail b ((fourF z).2) x w1 (h.own (b,_) (mG 0 rfl)))) ?_
  rintro ⟨⟩ -
  refine CfgL.done rfl ?_
  refine Cg (Γ' := []) ?_
  refine Rg [6] [] n0 trivial ?_
  refine Cfg.ret rfl (rs := [.tmp 6]) rfl [.int .i64 0] ⟨kr,trivial⟩ (fun w1 hp => ?_)
  have hx : boundF z most x = (0,failF (fourF z).2 x) := if_pos om
  rw [hx]
  exact ⟨rfl,hp.ext,hp.own (b,_) mH⟩
 ·have c1 := (dF c1r)
  refine Rg [6] [] (fun _ => [(i6 ((fourF z).1 : Int))]) ⟨om,trivial⟩ ?_
  refine Cfg.ret rfl (rs := [.tmp 6]) rfl [.int .i64 ((fourF z).1 : Int)] ⟨kr,trivial⟩ (fun w1 hp => ?_)
  have hx : boundF z most x = fourF z := if_neg om
  rw [hx]
  exact ⟨rfl,hp.ext,hp.own (b,_) mH⟩
set_option maxRecDepth 100000 in
theorem wCount (b : Nat) (z : IN) (most : Int) (w : World) (hB : w.heap[b]? = some (.cells (inC z) 140 (0,0))) (hm : most ≤ 9223372036854775807) :
  Calls Tryz.prog 77 #[.pointer (some ⟨b,0,none⟩),.int .i64 most] w fun e w' => e = .returned (.int .i64 ((boundF z most 6).1 : Int)) ∧ Ext [b] w w' ∧ w'.heap[b]? = some (.cells (inC (boundF z most 6).2) 140 (0,0)) := by
 refine enter (vs := [pT b,.int .i64 most]) [b] [] [(b,.cells (inC z) 140 (0,0))] Tryz.func77 rfl kr (HP.startM (R := []) (fun _ h => by cases h) hB (by simp)) ?_
 refine Rg [0,1] [] n0 trivial ?_
 refine Cfg.begL rfl ?_
 refine Lp 2 [] (some [5,6]) n0 trivial ?_
 refine Le (Eff.callM (vs := [pT b,.int .i64 most,.int .i64 6]) (.int .i64 ((boundF z most (6 : Int)).1 : Int)) 0 (b := b) (ob := .cells (inC z) 140 (0,0)) (.cells (inC ((boundF z most (6 : Int)).2)) 140 (0,0)) rfl Tryz.func104 rfl rfl kr kr (fun w1 h => wBounded b z most (6 : Int) w1 (h.own (b,_) (mG 0 rfl)) om)) ?_
 rintro ⟨⟩ -
 refine Lp 1 [] (some [4]) n0 trivial ?_
 refine CfgL.done rfl ?_
 refine Cfg.ret rfl (rs := [.tmp 4]) rfl [.int .i64 ((boundF z most (6 : Int)).1 : Int)] ⟨kr,trivial⟩ (fun w1 hp => ?_)
 exact ⟨rfl,hp.ext,hp.own (b,_) mH⟩
set_option maxRecDepth 100000 in
theorem wTText (b : Nat) (z : IN) (most : Int) (w : World) (hB : w.heap[b]? = some (.cells (inC z) 140 (0,0))) (hm : most ≤ 9223372036854775807) :
  Calls Tryz.prog 81 #[.pointer (some ⟨b,0,none⟩),.int .i64 most] w fun e w' => e = .returned (.string (tx (textF z most).1)) ∧ Ext [b] w w' ∧ w'.heap[b]? = some (.cells (inC (textF z most).2) 140 (0,0)) := by
 refine enter (vs := [pT b,.int .i64 most]) [b] [] [(b,.cells (inC z) 140 (0,0))] Tryz.func81 rfl kr (HP.startM (R := []) (fun _ h => by cases h) hB (by simp)) ?_
 refine Rg [0,1] [] n0 trivial ?_
 refine Cfg.begL rfl ?_
 refine Lp 3 [] (some [5,6,7]) n0 trivial ?_
 refine Le (Eff.callM (vs := [pT b,.int .i64 most,.int .i64 5]) (.int .i64 ((boundF z most (5 : Int)).1 : Int)) 0 (b := b) (ob := .cells (inC z) 140 (0,0)) (.cells (inC ((boundF z most (5 : Int)).2)) 140 (0,0)) rfl Tryz.func104 rfl rfl kr kr (fun w1 h => wBounded b z most (5 : Int) w1 (h.own (b,_) (mG 0 rfl)) om)) ?_
 rintro ⟨⟩ -
 refine Le (Eff.callM (vs := [pT b,.int .i64 ((boundF z most (5 : Int)).1 : Int)]) (.string (tx (nextF ((boundF z most (5 : Int)).2) ((boundF z most (5 : Int)).1 : Int)).1)) 0 (b := b) (ob := .cells (inC ((boundF z most (5 : Int)).2)) 140 (0,0)) (.cells (inC ((nextF ((boundF z most (5 : Int)).2) ((boundF z most (5 : Int)).1 : Int)).2)) 140 (0,0)) rfl Tryz.func76 rfl rfl kr kr (fun w1 h => wNext b ((boundF z most (5 : Int)).2) ((boundF z most (5 : Int)).1 : Int) w1 (h.own (b,_) (mG 0 rfl)))) ?_
 rintro ⟨⟩ -
 refine Lp 1 [] (some [4]) n0 trivial ?_
 refine CfgL.done rfl ?_
 refine Cfg.ret rfl (rs := [.tmp 4]) rfl [.string (tx (nextF ((boundF z most (5 : Int)).2) ((boundF z most (5 : Int)).1 : Int)).1)] ⟨kr,trivial⟩ (fun w1 hp => ?_)
 exact ⟨rfl,hp.ext,hp.own (b,_) mH⟩
set_option maxRecDepth 100000 in
theorem wTRaw (b : Nat) (z : IN) (n : Int) (w : World) (hB : w.heap[b]? = some (.cells (inC z) 140 (0,0))) :
  Calls Tryz.prog 56 #[.pointer (some ⟨b,0,none⟩),.int .i64 n] w fun e w' => e = .returned (.string (tx (nextF z n).1)) ∧ Ext [b] w w' ∧ w'.heap[b]? = some (.cells (inC (nextF z n).2) 140 (0,0)) := by
 refine enter (vs := [pT b,.int .i64 n]) [b] [] [(b,.cells (inC z) 140 (0,0))] Tryz.func56 rfl kr (HP.startM (R := []) (fun _ h => by cases h) hB (by simp)) ?_
 refine Rg [0,1] [] n0 trivial ?_
 refine Cfg.begL rfl ?_
 refine Lp 2 [] (some [5,6]) n0 trivial ?_
 refine Le (Eff.callM (vs := [pT b,.int .i64 n]) (.string (tx (nextF z n).1)) 0 (b := b) (ob := .cells (inC z) 140 (0,0)) (.cells (inC ((nextF z n).2)) 140 (0,0)) rfl Tryz.func76 rfl rfl kr kr (fun w1 h => wNext b z n w1 (h.own (b,_) (mG 0 rfl)))) ?_
 rintro ⟨⟩ -
 refine Lp 1 [] (some [4]) n0 trivial ?_
 refine CfgL.done rfl ?_
 refine Cfg.ret rfl (rs := [.tmp 4]) rfl [.string (tx (nextF z n).1)] ⟨kr,trivial⟩ (fun w1 hp => ?_)
 exact ⟨rfl,hp.ext,hp.own (b,_) mH⟩
set_option maxRecDepth 100000 in
theorem wLeft (b : Nat) (z : IN) (w : World) (hB : w.heap[b]? = some (.cells (inC z) 140 (0,0))) :
  Calls Tryz.prog 83 #[.pointer (some ⟨b,0,none⟩)] w fun e w' => e = .returned (.int .i64 (z.rest.length : Int)) ∧ Ext [] w w' := by
 refine enter (vs := [pT b]) [] [(b,.cells (inC z) 140 (0,0))] [] Tryz.func83 rfl kr (HP.ofHas (fun e he => by rw [List.mem_singleton.1 he]; exact hB)) ?_
 refine Rg [0] [] n0 trivial ?_
 refine Rg [0,4] [] n0 trivial ?_
 refine Cfg.condF rfl (b := false) kr rfl ?_
 refine Rg [2] [dZ,dZ,dZ,(dS (.string (tx z.rest)))] (fun S => [(cE S b 1 (.string (tx z.rest)))]) ⟨(rC 0 rfl rfl),trivial⟩ ?_
 refine Cfg.ret rfl (rs := [.tmp 2]) rfl [.int .i64 ((tx z.rest).size : Int)] ⟨kr,trivial⟩ (fun w1 hp => ?_)
 exact ⟨by rw [tx_size]; rfl,hp.ext⟩
set_option maxRecDepth 100000 in
theorem wErr (b : Nat) (z : IN) (w : World) (hB : w.heap[b]? = some (.cells (inC z) 140 (0,0))) :
  Calls Tryz.prog 78 #[.pointer (some ⟨b,0,none⟩)] w fun e w' => e = .returned (.int .i64 z.er) ∧ Ext [] w w' := by
 refine enter (vs := [pT b]) [] [(b,.cells (inC z) 140 (0,0))] [] Tryz.func78 rfl kr (HP.ofHas (fun e he => by rw [List.mem_singleton.1 he]; exact hB)) ?_
 refine Rg [0] [] n0 trivial ?_
 refine Rg [0,4] [] n0 trivial ?_
 refine Cfg.condF rfl (b := false) kr rfl ?_
 refine Rg [2] [dZ,dZ,dZ,dZ,(dS (.int .i64 z.er))] (fun S => [(cE S b 0 (.int .i64 z.er))]) ⟨(rC 0 rfl rfl),trivial⟩ ?_
 refine Cfg.ret rfl (rs := [.tmp 2]) rfl [.int .i64 z.er] ⟨kr,trivial⟩ (fun w1 hp => ?_)
 exact ⟨rfl,hp.ext⟩
set_option maxRecDepth 100000 in
theorem wEnd (b : Nat) (z : IN) (w : World) (hB : w.heap[b]? = some (.cells (inC z) 140 (0,0))) :
  Calls Tryz.prog 59 #[.pointer (some ⟨b,0,none⟩)] w fun e w' => e = .returned (.int .i64 (endF z)) ∧ Ext [] w w' := by
 refine enter (vs := [pT b]) [] [(b,.cells (inC z) 140 (0,0))] [] Tryz.func59 rfl kr (HP.ofHas (fun e he => by rw [List.mem_singleton.1 he]; exact hB)) ?_
 refine Rg [0] [] n0 trivial ?_
 refine Cfg.begL rfl ?_
 refine Lp 1 [] none n0 trivial ?_
 refine Le (Eff.callA (vs := [pT b]) (.int .i64 z.er) rfl Tryz.func78 rfl rfl kr (fun w1 h => wErr b z w1 (h.ro (b,_) mH))) ?_
 rintro ⟨⟩ -
 refine Lp 1 [] (some [0,3]) n0 trivial ?_
 refine CfgL.done rfl ?_
 refine Rg [0,3,7] [] n0 trivial ?_
 refine Cfg.cond rfl (b := (z.er != (0 : Int))) kr (fun c1r => ?_) (fun c1r => ?_)
 ·have c1 := (bne_iff_ne.1 c1r)
  refine Rg [2] [] n0 trivial ?_
  refine Cfg.ret rfl (rs := [.tmp 2]) rfl [.int .i64 z.er] ⟨kr,trivial⟩ (fun w1 hp => ?_)
  exact ⟨by rw [show endF z = z.er from if_pos c1]; rfl,hp.ext⟩
 ·have c1 := (bne_eq_false_iff_eq.1 c1r)
  refine Cfg.begL rfl ?_
  refine Lp 1 [] (some [9]) n0 trivial ?_
  refine Le (Eff.callA (vs := [pT b]) (.int .i64 (z.rest.length : Int)) rfl Tryz.func83 rfl rfl kr (fun w1 h => wLeft b z w1 (h.ro (b,_) mH))) ?_
  rintro ⟨⟩ -
  refine Lp 1 [] (some [11]) n0 trivial ?_
  refine CfgL.done rfl ?_
  refine Cfg.cond rfl (b := (decide ((z.rest.length : Int) > (0 : Int)))) kr (fun c2r => ?_) (fun c2r => ?_)
  ·have c2 := (dT c2r)
   refine Cfg.reg rfl [2] [] (Γ' := [(2,[],.int .i64 4)]) (nd := (fun _ => [])) (fun _ => kr) trivial ?_
   refine Cfg.ret rfl (rs := [.tmp 2]) rfl [.int .i64 4] ⟨kr,trivial⟩ (fun w1 hp => ?_)
   exact ⟨by rw [show endF z = 4 from (if_neg om).trans (if_pos om)]; rfl,hp.ext⟩
  ·have c2 := (dF c2r)
   refine Rg [2] [] n0 trivial ?_
   refine Cfg.ret rfl (rs := [.tmp 2]) rfl [.int .i64 0] ⟨kr,trivial⟩ (fun w1 hp => ?_)
   exact ⟨by rw [show endF z = 0 from (if_neg om).trans (if_neg om)]; rfl,hp.ext⟩
set_option maxRecDepth 100000 in
theorem wTDigest (b : Nat) (z : IN) (w : World) (hB : w.heap[b]? = some (.cells (inC z) 140 (0,0))) :
  Calls Tryz.prog 79 #[.pointer (some ⟨b,0,none⟩)] w fun e w' => e = .returned (.agg (bv (digF z).1)) ∧ Ext [b] w w' ∧ w'.heap[b]? = some (.cells (inC (digF z).2) 140 (0,0)) := by
 have hnn := next_none z 32
 refine enter (vs := [pT b]) [b] [] [(b,.cells (inC z) 140 (0,0))] Tryz.func79 rfl kr (HP.startM (R := []) (fun _ h => by cases h) hB (by simp)) ?_
 refine Cfg.begL rfl ?_
 refine Le (Eff.alloc (z := (.agg (bv (List.replicate 32 0)))) rfl kr) ?_
 rintro rs ⟨hrs,nrs⟩
 refine CfgL.done rfl ?_
 refine Cfg.begL rfl ?_
 refine Le (Eff.alloc (z := (.agg (bv (List.replicate 32 0)))) rfl kr) ?_
 rintro d ⟨hd,nd⟩
 refine CfgL.done rfl ?_
 refine Cfg.begA rfl kr [(rs,.cells (bv (List.replicate 32 0)) 36 (0,0))] ?_
 refine Ap [0,1] [] (some [2,3,4,5]) (tF 2 2) (.cons _ (.cons_cons _ (.cons _ .slnil))) 2 (fun _ => [(32 ≤ 32)]) ⟨om,trivial⟩ ?_
 refine Ae 2 rfl 1  (Eff.callM (vs := [pT b,.int .i64 32]) (.string (tx (nextF z (32 : Int)).1)) 2 (b := b) (ob := .cells (inC z) 140 (0,0)) (.cells (inC ((nextF z (32 : Int)).2)) 140 (0,0)) rfl Tryz.func76 rfl rfl kr kr (fun w1 h => wNext b z (32 : Int) w1 (h.own (b,_) (mG 2 rfl)))) (fun _ _ => (.cons _ (.cons_cons _ (.cons _ .slnil)))) ?_
 rintro ⟨⟩ -
 refine Ae 3 rfl 0  (Eff.copyS rfl Tryz.underlying53 kr (b := d) (off := 0) (dl := 32) (c := 32) kr (s := (tx (nextF z (32 : Int)).1)) kr 0 (cs := (bv (List.replicate 32 0))) (te := 36) kr (min (tx (nextF z (32 : Int)).1).size 32) rfl (by rw [bv_size,List.length_replicate]; omega)) (fun _ _ => (.cons _ (.cons_cons _ (.cons _ .slnil)))) ?_
 rintro ⟨⟩ -
 refine CfgA.done kr ?_
 refine Cg (Γ' := [(3,[],pT d),(2,[],pT rs)]) ?_
 refine Cfg.setO (congrArg (fun (xq : Array Value) => ([(d,.cells xq 36 (0,0)),(rs,.cells (bv (List.replicate 32 0)) 36 (0,0)),(b,.cells (inC ((nextF z (32 : Int)).2)) 140 (0,0))] : LO)) (show _ = (bv (dig32 (nextF z (32 : Int)).1)) from dig_spl hnn (by rw [tx_size]))) ?_
 refine Cfg.begL rfl ?_
 refine Lp 1 [(dS (.agg (bv (dig32 (nextF z (32 : Int)).1))))] (some [2,8]) (fun S => [(∀ w1,S w1 → (loadVar 36 ⟨d,0,none⟩).run Tryz.prog w1 = .ok (.agg (bv (dig32 (nextF z (32 : Int)).1))) w1)]) ⟨(fun w1 h => h.oload 0 rfl Tryz.underlying36 rfl (n := 32) kr ((bv_size _).trans (dig32_len _))),trivial⟩ ?_
 refine Le (Eff.storeN (b := rs) (off := 0) (vs := (bv (dig32 (nextF z (32 : Int)).1))) (n := 32) rfl kr kr kr ((bv_size _).trans (dig32_len _)) (all_bv _) 1 (cs := (bv (List.replicate 32 0))) (e := 36) kr (by rw [zsz32]; omega)) ?_
 rintro ⟨⟩ -
 refine CfgL.setO (congrArg (fun (xq : Array Value) => ([(d,.cells (bv (dig32 (nextF z (32 : Int)).1)) 36 (0,0)),(rs,.cells xq 36 (0,0)),(b,.cells (inC ((nextF z (32 : Int)).2)) 140 (0,0))] : LO)) (show _ = (bv (dig32 (nextF z (32 : Int)).1)) from spl_all (((bv_size _).trans (dig32_len _)).trans zsz32.symm))) ?_
 refine CfgL.done rfl ?_
 refine Cg (Γ' := [(2,[],pT rs)]) ?_
 refine Cfg.ret rfl (rs := [.cell 2 36]) rfl [.agg (bv (dig32 (nextF z (32 : Int)).1))] ⟨⟨_,by kernel_rfl,(fun w1 h => h.oload 1 rfl Tryz.underlying36 rfl (n := 32) kr ((bv_size _).trans (dig32_len _)))⟩,trivial⟩ (fun w1 hp => ?_)
 exact ⟨rfl,hp.ext,hp.own (b,_) (mG 2 rfl)⟩
end Go.Proofs.YtbeegepcdglcaaaGreatDoor
namespace Go.Proofs.YtbeegepcdglcaaaGreatDoor
open K
set_option linter.unusedVariables false
def nd (n i : Nat) : Nat := n / 256 ^ i
theorem nd_zero (n : Nat) : nd n 0 = n := by simp [nd]
theorem nd_succ (n i : Nat) : nd n i / 256 = nd n (i + 1) := by unfold nd; rw [Nat.pow_succ,Nat.div_div_eq_div_mul]
theorem str1 {P : Program} {w0 w : World} {M : List Nat} {R O : List (Nat × Obj)} (h : HP w0 M R O w) (i : Nat) {b : Nat} {t : TypeId} {x : Int} (ho : O[i]? = some (b,.cells #[.int .u8 x] t (0,0))) (h0 : 0 ≤ x ∧ x ≤ 255) :
  (Conv.bytesToString (.slice (some ⟨b,0,none⟩) 1 1)).run P w = .ok (.string (tx [UInt8.ofNat x.toNat])) w := by
 have e1 : (#[.int .u8 x] : Array Value) = bv [UInt8.ofNat x.toNat] := by
  simp only [bv,List.map_cons,List.map_nil]
  rw [show ((UInt8.ofNat x.toNat).toNat : Int) = x by simp; omega]
 rw [e1] at ho
 exact h.ostr i ho rfl
theorem be_step (n i : Nat) : tx [UInt8.ofNat (((nd n i : Int) % 256) % 256).toNat] ++ beS n i = beS n (i + 1) := by
 apply ByteArray.ext
 rw [ByteArray.data_append]
 apply Array.ext'
 rw [show (((nd n i : Int) % 256) % 256).toNat = nd n i % 256 by omega,u8_mod]
 simp [tx,beS,be,nd]
theorem tx_app (a b : List UInt8) : tx a ++ tx b = tx (a ++ b) := by
 apply ByteArray.ext
 rw [ByteArray.data_append]
 apply Array.ext'
 simp [tx]
theorem take_one {l : List UInt8} {i : Nat} (h : i < l.length) : l.take i ++ [l.getD i 0] = l.take (i + 1) := by
 rw [List.take_succ_eq_append_getElem h]; simp [List.getElem?_eq_getElem h]
theorem u8_same (b : UInt8) : UInt8.ofNat ((b.toNat : Int)).toNat = b := by simp
theorem ba_tx (s : ByteArray) : s = tx s.data.toList := (tx_back s).symm
theorem inS_num (bk : Nat) (t : TypeId) (fr : Nat × Nat) (k : IntKind) (n : Nat) : InS [(bk,.cells #[.int k (n : Int)] t fr)] (some ⟨bk,0,none⟩) [n].length (fun j => .int k (([n].getD j 0 : Nat) : Int)) := by
 intro _
 refine ⟨bk,0,_,t,fr,rfl,List.mem_singleton.2 rfl,fun j hj => ?_⟩
 obtain rfl : j = 0 := by simpa using hj
 rfl
theorem one_get {n m : Nat} (h : n < m) (hm : 0 < m) (i : Nat) : [n].getD i 0 < m := by
 cases i with
 | zero => exact h
 | succ i => exact hm
theorem flat_one {α : Type} (f : α → List UInt8) (x : α) : flat f [x] = f x := by simp [flat]
theorem text4_len (s : ByteArray) : (text4 s).length = 4 + s.size := by unfold text4; rw [List.length_append,be_len,ba_len]
theorem inS_text (bk : Nat) (t : TypeId) (fr : Nat × Nat) (s : ByteArray) : InS [(bk,.cells #[.string s] t fr)] (some ⟨bk,0,none⟩) [s].length (fun j => .string ([s].getD j ByteArray.empty)) := by
 intro _
 refine ⟨bk,0,_,t,fr,rfl,List.mem_singleton.2 rfl,fun j hj => ?_⟩
 obtain rfl : j = 0 := by simpa using hj
 rfl
def rowsF {β : Type} (tk : IN → β × IN) : Nat → IN → List β → List β × IN
 | 0,z,acc => (acc,z)
 | k + 1,z,acc => if (tk z).2.er ≠ 0 then ([],(tk z).2) else rowsF tk k (tk z).2 (acc ++ [(tk z).1])
set_option maxRecDepth 100000 in
theorem rNum (n k : Nat) (w : World) (hn : n < 18446744073709551616) (hk : k ≤ 8) :
  Calls Tryz.prog 20 #[.int .u64 (n : Int),.int .i64 (k : Int)] w fun e w' => e = .returned (.string (beS n k)) ∧ Ext [] w w' := by
 refine enter (vs := [.int .u64 (n : Int),.int .i64 (k : Int)]) [] [] [] Tryz.func20 rfl kr (HP.start w) ?_
 refine Rg [0,1] [] n0 trivial ?_
 refine Rg [0,1,5] [] n0 trivial ?_
 refine Rg [0,1,5,6] [] n0 trivial ?_
 refine Cfg.setS 0 (congrArg (fun (xq : Int) => (.int .u64 xq : Value)) (show (n : Int) = ((nd n 0) : Int) from by rw [nd_zero])) ?_
 refine Cfg.loop rfl (ι := Nat) (fun (i : Nat) => [(6,[],.int .i64 (i : Int)),(5,[],.string (beS n i)),(0,[],.int .u64 ((nd n i) : Int)),(1,[],.int .i64 (k : Int))]) (fun (i : Nat) => []) (fun (i : Nat) => (i ≤ k)) (fun (i : Nat) => k - i) 0 ?_ (Conv.mk kr) .slnil ?_
 ·exact Nat.zero_le _
 ·rintro i hi
  refine Rg [0,1,5,6,9] [] n0 trivial ?_
  refine Cfg.cond rfl (b := (decide ((i : Int) < (k : Int)))) kr (fun c1r => ?_) (fun c1r => ?_)
  ·have c1 := (dT c1r)
   refine Cfg.begL rfl ?_
   refine Lp 3 [] (some [0,1,5,6,14]) (fun _ => [(0 ≤ ((nd n i) : Int) ∧ 0 < (256 : Int))]) ⟨(by have : nd n i ≤ n := Nat.div_le_self _ _; omega),trivial⟩ ?_
   refine Le (Eff.buildSlice (e := 5) (cells := #[.int .u8 ((((nd n i) : Int) % 256) % 256)]) (parts := #[(0,.int .u8 ((((nd n i) : Int) % 256) % 256))]) rfl kr (fun _ => kr)) ?_
   rintro x1 ⟨hx1,nx1⟩
   refine Lp 4 [(dS (.string (tx [UInt8.ofNat (((((nd n i) : Int) % 256) % 256)).toNat])))] (some [0,1,5,6]) (fun S => [(∀ w1,S w1 → (Conv.bytesToString (.slice (some ⟨x1,0,none⟩) 1 1)).run Tryz.prog w1 = .ok (.string (tx [UInt8.ofNat (((((nd n i) : Int) % 256) % 256)).toNat])) w1),((tx [UInt8.ofNat (((((nd n i) : Int) % 256) % 256)).toNat]).size + (beS n i).size ≤ 9223372036854775807)]) ⟨(fun w1 h => str1 h 0 rfl om),(by rw [beS_size,tx_size]; simp only [List.length_cons,List.length_nil]; omega),trivial⟩ ?_
   refine CfgL.done rfl ?_
   refine Rg [0,1,5,6] [] (fun _ => [(0 ≤ ((nd n i) : Int) ∧ ((nd n i) : Int) ≤ 18446744073709551615 ∧ 0 < (256 : Int))]) ⟨(by have : nd n i ≤ n := Nat.div_le_self _ _; omega),trivial⟩ ?_
   refine Rg [0,1,5,6] [] (fun _ => [(i6 ((i : Int) + 1))]) ⟨om,trivial⟩ ?_
   refine Cfg.setS 5 (congrArg Value.string (show ((tx [UInt8.ofNat (((((nd n i) : Int) % 256) % 256)).toNat]) ++ (beS n i)) = (beS n (i + 1)) from be_step n i)) ?_
   refine Cfg.setS 0 (congrArg (fun (xq : Int) => (.int .u64 xq : Value)) (show (((nd n i) : Int) / 256) = ((nd n (i + 1)) : Int) from by rw [← nd_succ]; rfl)) ?_
   refine Cfg.again rfl (i + 1) (show i + 1 ≤ k by omega) om (Conv.mk kr) (.cons _ .slnil)
  ·have c1 := (dF c1r)
   refine Rg [4] [] n0 trivial ?_
   refine Cfg.ret rfl (rs := [.tmp 4]) rfl [.string (beS n i)] ⟨kr,trivial⟩ (fun w1 hp => ?_)
   obtain rfl : i = k := by omega
   exact ⟨rfl,hp.ext⟩
set_option maxRecDepth 100000 in
theorem rText (s : ByteArray) (w : World) (hs : s.size ≤ 9223372036854775000) :
  Calls Tryz.prog 22 #[.string s] w fun e w' => e = .returned (.string (tx (text4 s))) ∧ Ext [] w w' := by
 refine enter (vs := [.string s]) [] [] [] Tryz.func22 rfl kr (HP.start w) ?_
 refine Rg [0] [] n0 trivial ?_
 refine Cfg.begL rfl ?_
 refine Lp 3 [] (some [0,5]) n0 trivial ?_
 refine Le (Eff.callA (vs := [.int .u64 ((s.size : Int) % 18446744073709551616),.int .i64 4]) (.string (beS s.size 4)) rfl Tryz.func20 rfl rfl kr (fun w1 _ => by rw [show ((s.size : Int) % 18446744073709551616) = (s.size : Int) by omega]; exact rNum s.size 4 w1 om (by decide))) ?_
 rintro ⟨⟩ -
 refine Lp 3 [] (some [2]) (fun _ => [((beS s.size 4).size + s.size ≤ 9223372036854775807)]) ⟨(by rw [beS_size]; omega),trivial⟩ ?_
 refine CfgL.done rfl ?_
 refine Cfg.ret rfl (rs := [.tmp 2]) rfl [.string ((beS s.size 4) ++ s)] ⟨kr,trivial⟩ (fun w1 hp => ?_)
 exact ⟨congrArg (fun x => Ending.returned (.string x)) (show beS s.size 4 ++ s = tx (text4 s) by rw [ba_tx s]; exact (tx_app (be s.size 4) s.data.toList).trans (by rw [tx_back]; rfl)),hp.ext⟩
set_option maxRecDepth 100000 in
theorem rDigest (l : List UInt8) (w : World) (hl : l.length = 32) :
  Calls Tryz.prog 11 #[.agg (bv l)] w fun e w' => e = .returned (.string (tx l)) ∧ Ext [] w w' := by
 refine enter (vs := [.agg (bv l)]) [] [] [] Tryz.func11 rfl kr (HP.start w) ?_
 refine Cfg.begL rfl ?_
 refine Le (Eff.box (v := .agg (bv l)) rfl kr) ?_
 rintro d ⟨hd,nd⟩
 refine Lp 1 [] (some [1]) n0 trivial ?_
 refine CfgL.done rfl ?_
 refine Rg [1,3] [] n0 trivial ?_
 refine Rg [1,3,4] [] n0 trivial ?_
 refine Cfg.loop rfl (ι := Nat) (fun (i : Nat) => [(4,[],.int .i64 (i : Int)),(3,[],.string (tx (l.take i))),(1,[],pT d)]) (fun (i : Nat) => [(d,.cells (bv l) 36 (0,0))]) (fun (i : Nat) => (i ≤ 32)) (fun (i : Nat) => 32 - i) 0 ?_ (Conv.mk kr) (.cons_cons _ .slnil) ?_
 ·exact Nat.zero_le _
 ·rintro i hi
  refine Rg [1,3,4,6] [] n0 trivial ?_
  refine Cfg.cond rfl (b := (decide ((i : Int) < (32 : Int)))) kr (fun c1r => ?_) (fun c1r => ?_)
  ·have c1 := (dT c1r)
   refine Cfg.begL rfl ?_
   refine Lp 4 [dZ,dZ,dZ,(dS (.int .u8 ((l.getD i 0).toNat : Int)))] (some [1,3,4,9,12]) (fun S => [(iL (i : Int) 32),(cE S d i (.int .u8 ((l.getD i 0).toNat : Int)))]) ⟨(by have := byteLt (l.getD i 0); omega),(fun w1 h => h.ocell 0 rfl (bv_get hl om)),trivial⟩ ?_
   refine Le (Eff.buildSlice (e := 5) (cells := #[.int .u8 ((l.getD i 0).toNat : Int)]) (parts := #[(0,.int .u8 ((l.getD i 0).toNat : Int))]) rfl kr (fun _ => kr)) ?_
   rintro x ⟨hx,nx⟩
   refine Lp 3 [(dS (.string (tx [UInt8.ofNat (((l.getD i 0).toNat : Int)).toNat])))] (some [1,3,4]) (fun S => [(∀ w1,S w1 → (Conv.bytesToString (.slice (some ⟨x,0,none⟩) 1 1)).run Tryz.prog w1 = .ok (.string (tx [UInt8.ofNat (((l.getD i 0).toNat : Int)).toNat])) w1),((tx (l.take i)).size + (tx [UInt8.ofNat (((l.getD i 0).toNat : Int)).toNat]).size ≤ 9223372036854775807)]) ⟨(fun w1 h => str1 h 0 rfl (by have := byteLt (l.getD i 0); omega)),(by rw [tx_size,tx_size]; simp only [List.length_cons,List.length_nil,List.length_take]; omega),trivial⟩ ?_
   refine CfgL.done rfl ?_
   refine Rg [1,3,4] [] (fun _ => [(i6 ((i : Int) + 1))]) ⟨(by have := byteLt (l.getD i 0); omega),trivial⟩ ?_
   refine Cfg.setS 3 (congrArg Value.string (show ((tx (l.take i)) ++ (tx [UInt8.ofNat (((l.getD i 0).toNat : Int)).toNat])) = (tx (l.take (i + 1))) from by rw [u8_same,tx_app,take_one om])) ?_
   refine Cfg.again rfl (i + 1) (show i + 1 ≤ 32 by omega) om (Conv.mk kr) (.cons _ (.cons_cons _ .slnil))
  ·have c1 := (dF c1r)
   refine Rg [2] [] n0 trivial ?_
   refine Cfg.ret rfl (rs := [.tmp 2]) rfl [.string (tx (l.take i))] ⟨kr,trivial⟩ (fun w1 hp => ?_)
   exact ⟨by rw [show l.take i = l from List.take_of_length_le om]; rfl,hp.ext⟩
end Go.Proofs.YtbeegepcdglcaaaGreatDoor
namespace Go.Proofs.YtbeegepcdglcaaaGreatDoor
open K
set_option linter.unusedVariables false
def cnt (p : Nat → Bool) (n : Nat) : Nat := ((List.range n).takeWhile p).length
theorem cnt_eq {p : Nat → Bool} {n i : Nat} (hi : i ≤ n) (h : ∀ j,j < i → p j = true) (hx : i < n → p i = false) : cnt p n = i := by
 obtain ⟨m,rfl⟩ : ∃ m,n = i + m := ⟨n - i,by omega⟩
 unfold cnt
 rw [List.range_add,List.takeWhile_append_of_pos (fun a ha => h a (List.mem_range.1 ha))]
 cases m with
 | zero => simp
 | succ m =>
  have := hx om
  rw [List.range_succ_eq_map,List.map_cons,List.takeWhile_cons,Nat.add_zero,this]
  simp
theorem cnt_le (p : Nat → Bool) (n : Nat) : cnt p n ≤ n := by
 unfold cnt
 have := (List.takeWhile_sublist (p := p) (l := List.range n)).length_le
 simpa using this
theorem cnt_all {p : Nat → Bool} {n j : Nat} (h : j < cnt p n) : p j = true := by
 unfold cnt at h
 have hp : ((List.range n).takeWhile p) <+: List.range n := List.takeWhile_prefix p
 have h1 : ((List.range n).takeWhile p)[j]? = (List.range n)[j]? := by
  obtain ⟨t,ht⟩ := hp
  have h2 := List.getElem?_append_left (l₂ := t) h
  rw [ht] at h2
  exact h2.symm
 have hl : j < n := Nat.lt_of_lt_of_le h (cnt_le p n)
 rw [List.getElem?_range hl] at h1
 have hm : j ∈ (List.range n).takeWhile p := List.mem_of_getElem? h1
 exact List.all_eq_true.1 (List.all_takeWhile (p := p) (l := List.range n)) j hm
def mn (a b : ByteArray) : Nat := min a.size b.size
theorem min_if (a b : ByteArray) : (if (b.size : Int) < (a.size : Int) then (b.size : Int) else (a.size : Int)) = (mn a b : Int) := by unfold mn; split <;> omega
def pF (a b : ByteArray) (j : Nat) : Bool := sbyte a (j : Int) == sbyte b (j : Int)
def qB (a b : ByteArray) (j : Nat) : Bool := sbyte a (((a.size : Int) - 1) - (j : Int)) == sbyte b (((b.size : Int) - 1) - (j : Int))
def frN (a b : ByteArray) : Nat := cnt (pF a b) (mn a b)
def bkN (a b : ByteArray) : Nat := cnt (qB a b) (mn a b - frN a b)
theorem fb_le (a b : ByteArray) : frN a b + bkN a b ≤ a.size ∧ frN a b + bkN a b ≤ b.size := by
 have h1 := cnt_le (pF a b) (mn a b)
 have h2 := cnt_le (qB a b) (mn a b - frN a b)
 have h3 : mn a b ≤ a.size ∧ mn a b ≤ b.size := by unfold mn; omega
 unfold bkN
 unfold frN at *
 omega
structure PT where
 kind : Nat
 pat : Nat
 n : Nat
 text : ByteArray
structure PT.Ok (p : PT) : Prop where
 kind : p.kind < 256
 pat : p.pat < 4294967296
 n : p.n < 4294967296
def PT0 : PT := ⟨0,0,0,ByteArray.empty⟩
def pA (p : PT) : Array Value := #[.int .u8 p.kind,.int .u32 p.pat,.int .u32 p.n,.string p.text]
theorem pA_size (p : PT) : (pA p).size = 4 := rfl
def pcells (ps : List PT) : List Value := ps.flatMap fun p => (pA p).toList
theorem pcells_snoc (ps : List PT) (p : PT) : pcells ps ++ (pA p).toList = pcells (ps ++ [p]) := by simp [pcells]
theorem pcells_len (ps : List PT) : (pcells ps).length = ps.length * 4 := by
 induction ps with
 | nil => rfl
 | cons p ps ih =>
  rw [show pcells (p :: ps) = (pA p).toList ++ pcells ps by simp [pcells],List.length_append,ih,List.length_cons]
  show 4 + _ = _
  omega
theorem pcells_get : ∀ (ps : List PT) (j : Nat),j < ps.length * 4 → (pcells ps)[j]? = some ((pA (ps.getD (j / 4) PT0)).getD (j % 4) undef)
 | [],j,h => by simp at h
 | p :: ps,j,h => by
  rw [show pcells (p :: ps) = (pA p).toList ++ pcells ps by simp [pcells]]
  by_cases hj : j < 4
  ·rw [List.getElem?_append_left (by show j < 4; exact hj),show j / 4 = 0 by omega,show j % 4 = j by omega]
   rcases j with _ | _ | _ | _ | j
   ·rfl
   ·rfl
   ·rfl
   ·rfl
   ·omega
  ·obtain ⟨i,rfl⟩ : ∃ i,j = i + 4 := ⟨j - 4,by omega⟩
   rw [List.getElem?_append_right (by show 4 ≤ i + 4; omega),show i + 4 - (pA p).toList.length = i from (by show i + 4 - 4 = i; omega),pcells_get ps i (by rw [List.length_cons] at h; omega),show (i + 4) / 4 = i / 4 + 1 by omega,show (i + 4) % 4 = i % 4 by omega,List.getD_cons_succ]
theorem own_ins4 {o : K.Own} {e : TypeId} {ps : List PT} (hok : OwnOk o 4 ps.length (pcells ps)) : InS (o.o e (pcells ps)) o.a (ps.length * 4) (fun j => (pA (ps.getD (j / 4) PT0)).getD (j % 4) undef) := by
 intro hn
 obtain ⟨p,rfl⟩ := own_some hok om
 refine ⟨p.1,0,_,e,(0,0),rfl,mH,fun j hj => ?_⟩
 rw [Nat.zero_add]
 simp only [List.getElem?_toArray]
 rw [List.getElem?_append_left (by rw [pcells_len]; exact hj)]
 exact pcells_get ps j hj
def isAggB : TypeDesc → Bool
 | .struct _ | .array _ _ => true
 | _ => false
theorem load_part {P : Program} {w : World} {b off : Nat} {ty : TypeId} {d : TypeDesc} {p : PT} (hu : P.underlying ty = some d) (hd : isAggB d = true) (hi : (P.info? ty).map (·.size) = some 4)
  (h : ∀ j,j < 4 → w.cell? ⟨b,off + j,none⟩ = some ((pA p).getD j undef)) : (loadVar ty ⟨b,off,none⟩).run P w = .ok (.agg (pA p)) w := by
 obtain ⟨inf,hinf,hs⟩ := Option.map_eq_some_iff.1 hi
 have h1 := K.run_loadCells (P := P) (w := w) (b := b) (off := off) (n := 4) (fun j => (pA p).getD j undef) h
 have h2 : ((List.range 4).map fun j => (pA p).getD j undef).toArray = pA p := rfl
 rw [h2] at h1
 have h3 : (isAgg ty).run P w = .ok true w := by
  simp only [isAgg,Sem.run_bind,run_underlying' hu,Result.andThen_ok]
  cases d <;> simp_all [isAggB]
 have h4 : (sizeOf ty).run P w = .ok 4 w := by rw [run_sizeOf' hinf,hs]
 simp [loadVar,h3,h4,h1]
theorem all_pA (p : PT) : ∀ v ∈ (pA p).toList,K.one v = true := by
 intro v hv
 simp only [pA,List.mem_cons,List.not_mem_nil,or_false] at hv
 rcases hv with rfl | rfl | rfl | rfl <;> rfl
def layP (p : PT) : List UInt8 := be p.kind 1 ++ (if p.kind = 0 then four p.pat ++ four p.n else text4 p.text)
theorem layP_le (p : PT) : (layP p).length ≤ 9 + p.text.size := by
 unfold layP
 rw [List.length_append,be_len]
 split
 ·rw [List.length_append,show (four p.pat).length = 4 from be_len _ _,show (four p.n).length = 4 from be_len _ _]; omega
 ·rw [text4_len]; omega
theorem flat_two {α : Type} (f : α → List UInt8) (x y : α) : flat f [x,y] = f x ++ f y := by simp [flat]
theorem inS_num2 (bk : Nat) (t : TypeId) (fr : Nat × Nat) (k : IntKind) (n m : Nat) : InS [(bk,.cells #[.int k (n : Int),.int k (m : Int)] t fr)] (some ⟨bk,0,none⟩) [n,m].length (fun j => .int k (([n,m].getD j 0 : Nat) : Int)) := by
 intro _
 refine ⟨bk,0,_,t,fr,rfl,List.mem_singleton.2 rfl,fun j hj => ?_⟩
 have hj2 : j < 2 := hj
 rcases j with _ | _ | j
 ·rfl
 ·rfl
 ·omega
theorem two_get {n m k : Nat} (h : n < k) (h' : m < k) (i : Nat) : [n,m].getD i 0 < k := by
 rcases i with _ | _ | i
 ·exact h
 ·exact h'
 ·exact Nat.lt_of_le_of_lt (Nat.zero_le _) h
theorem wFour2 (l : List UInt8) (x y : Nat) (bk : Nat) (t : TypeId) (w : World) (hx : x < 4294967296) (hy : y < 4294967296) (hr : l.length + 8 ≤ 140737488355328) (hh : Has w [(bk,.cells #[.int .u32 (x : Int),.int .u32 (y : Int)] t (0,0))]) :
  Calls Tryz.prog 45 #[.agg #[.string (tx l)],.slice (some ⟨bk,0,none⟩) 2 2] w fun e w' => e = .returned (.agg #[.string (tx (l ++ (four x ++ four y)))]) ∧ Ext [] w w' := by
 have := wFour (tx l) (some ⟨bk,0,none⟩) 2 [x,y] [(bk,.cells #[.int .u32 (x : Int),.int .u32 (y : Int)] t (0,0))] w (inS_num2 bk t (0,0) .u32 x y) hh (by simp [maxLen]) (by rw [flat_two,tx_size,List.length_append,show (four x).length = 4 from be_len _ _,show (four y).length = 4 from be_len _ _]; omega) (two_get hx hy)
 rw [flat_two] at this
 exact this
theorem wFour1 (l : List UInt8) (x : Nat) (bk : Nat) (t : TypeId) (w : World) (hx : x < 4294967296) (hr : l.length + 4 ≤ 140737488355328) (hh : Has w [(bk,.cells #[.int .u32 (x : Int)] t (0,0))]) :
  Calls Tryz.prog 45 #[.agg #[.string (tx l)],.slice (some ⟨bk,0,none⟩) 1 1] w fun e w' => e = .returned (.agg #[.string (tx (l ++ four x))]) ∧ Ext [] w w' := by
 have := wFour (tx l) (some ⟨bk,0,none⟩) 1 [x] [(bk,.cells #[.int .u32 (x : Int)] t (0,0))] w (inS_num bk t (0,0) .u32 x) hh (by simp [maxLen]) (by rw [flat_one,tx_size,show (four x).length = 4 from be_len _ _]; omega) (one_get hx (by decide))
 rw [flat_one] at this
 exact this
theorem wText1 (l : List UInt8) (s : ByteArray) (bk : Nat) (t : TypeId) (w : World) (hr : l.length + (4 + s.size) ≤ 140737488355328) (hh : Has w [(bk,.cells #[.string s] t (0,0))]) :
  Calls Tryz.prog 42 #[.agg #[.string (tx l)],.slice (some ⟨bk,0,none⟩) 1 1] w fun e w' => e = .returned (.agg #[.string (tx (l ++ text4 s))]) ∧ Ext [] w w' := by
 have := wText (tx l) (some ⟨bk,0,none⟩) 1 [s] [(bk,.cells #[.string s] t (0,0))] w (inS_text bk t (0,0) s) hh (by simp [maxLen]) (by rw [flat_one,tx_size,text4_len]; omega)
 rw [flat_one] at this
 exact this
def rowP (ps : List PT) : List UInt8 := four ps.length ++ flat layP ps
theorem lay_le : ∀ (ps : List PT),(flat layP ps).length ≤ (flat (fun p => be 0 9 ++ p.text.data.toList) ps).length
 | [] => Nat.le_refl _
 | p :: ps => by
  have h1 := lay_le ps
  have h2 := layP_le p
  rw [show flat layP (p :: ps) = layP p ++ flat layP ps by simp [flat],show flat (fun p : PT => be 0 9 ++ p.text.data.toList) (p :: ps) = (be 0 9 ++ p.text.data.toList) ++ flat (fun p : PT => be 0 9 ++ p.text.data.toList) ps by simp [flat],List.length_append,List.length_append,List.length_append,be_len,ba_len]
  omega
set_option maxRecDepth 100000 in
theorem dAlike (a b : ByteArray) (w : World) (ha : a.size ≤ maxLen) (hb : b.size ≤ maxLen) :
  Calls Tryz.prog 72 #[.string a,.string b] w fun e w' => e = .returned (.tuple #[.int .i64 (frN a b : Int),.int .i64 (bkN a b : Int)]) ∧ Ext [] w w' := by
 unfold maxLen at ha hb
 have hmn : mn a b ≤ a.size ∧ mn a b ≤ b.size := by unfold mn; omega
 refine enter (vs := [.string a,.string b]) [] [] [] Tryz.func72 rfl kr (HP.start w) ?_
 refine Rg [0,1,4,5] [] n0 trivial ?_
 refine Cfg.begL rfl ?_
 refine Lp 4 [] (some [0,1,4,5,8,10]) n0 trivial ?_
 refine Le (Eff.minI (k := .i64) (a := (a.size : Int)) (b := (b.size : Int)) rfl kr kr) ?_
 rintro ⟨⟩ -
 refine Lp 1 [] (some [0,1,4,5,6]) n0 trivial ?_
 refine CfgL.done rfl ?_
 refine Cfg.setS 6 (congrArg (fun (xq : Int) => (.int .i64 xq : Value)) (show (if (b.size : Int) < (a.size : Int) then (b.size : Int) else (a.size : Int)) = ((mn a b) : Int) from min_if a b)) ?_
 refine Cfg.loop rfl (ι := Nat) (fun (f : Nat) => [(6,[],.int .i64 ((mn a b) : Int)),(5,[],.int .i64 0),(4,[],.int .i64 (f : Int)),(0,[],.string a),(1,[],.string b)]) (fun (f : Nat) => []) (fun (f : Nat) => (f ≤ mn a b) ∧ (∀ j,j < f → pF a b j = true)) (fun (f : Nat) => mn a b - f) 0 ?_ (Conv.mk kr) .slnil ?_
 ·exact ⟨Nat.zero_le _,fun j h => absurd h (Nat.not_lt_zero j)⟩
 ·rintro f ⟨hf,hfa⟩
  refine Cfg.regD rfl kr [0,1,4,5,6,23] [] (Γ' := [(23,[],.bool ((decide ((f : Int) < ((mn a b) : Int))) && ((sbyte a (f : Int)) == (sbyte b (f : Int))))),(6,[],.int .i64 ((mn a b) : Int)),(5,[],.int .i64 0),(4,[],.int .i64 (f : Int)),(0,[],.string a),(1,[],.string b)]) (nd := (fun _ => [((.bool (decide ((f : Int) < ((mn a b) : Int))) : Value) = .bool true → (0 ≤ (f : Int) ∧ (f : Int) < (a.size : Int))),((.bool (decide ((f : Int) < ((mn a b) : Int))) : Value) = .bool true → (0 ≤ (f : Int) ∧ (f : Int) < (b.size : Int)))])) kr kr (fun _ => kr) ⟨(fun g0 => have q0 : ((f : Int) < ((mn a b) : Int)) := (dT (boolV g0)); om),(fun g0 => have q0 : ((f : Int) < ((mn a b) : Int)) := (dT (boolV g0)); om),trivial⟩ ?_
  refine Cfg.cond rfl (b := ((decide ((f : Int) < ((mn a b) : Int))) && ((sbyte a (f : Int)) == (sbyte b (f : Int))))) kr (fun c1r => ?_) (fun c1r => ?_)
  ·have c1 : (((f : Int) < ((mn a b) : Int)) ∧ ((sbyte a (f : Int)) = (sbyte b (f : Int)))) := ⟨(dT (andT1 c1r)),(beq_iff_eq.1 (andT2 c1r))⟩
   refine Rg [0,1,4,5,6] [] (fun _ => [(i6 ((f : Int) + 1))]) ⟨om,trivial⟩ ?_
   refine Cfg.again rfl (f + 1) ⟨by omega,fun j hj => by
  rcases Nat.lt_or_ge j f with hh | hh
  ·exact hfa j hh
  ·rw [show j = f by omega]; exact beq_iff_eq.2 c1.2⟩ (by show mn a b - (f + 1) < mn a b - f; omega) (Conv.mk kr) .slnil
  ·have c1 : ((¬ ((f : Int) < ((mn a b) : Int))) ∨ ((sbyte a (f : Int)) ≠ (sbyte b (f : Int)))) := ((andF c1r).elim (fun h => Or.inl (dF h)) (fun h => Or.inr (beq_eq_false_iff_ne.1 h)))
   have hfr : frN a b = f := cnt_eq hf hfa (fun hlt => by
     rcases c1 with h | h
     ·omega
     ·exact beq_eq_false_iff_ne.2 h)
   subst hfr
   refine Conv.cfg (Γ' := [(6,[],.int .i64 ((mn a b) : Int)),(5,[],.int .i64 0),(4,[],.int .i64 ((frN a b) : Int)),(0,[],.string a),(1,[],.string b)]) (Conv.mk kr) ?_
   refine Cfg.loop rfl (ι := Nat) (fun (k : Nat) => [(6,[],.int .i64 ((mn a b) : Int)),(5,[],.int .i64 (k : Int)),(4,[],.int .i64 ((frN a b) : Int)),(0,[],.string a),(1,[],.string b)]) (fun (k : Nat) => []) (fun (k : Nat) => (k ≤ mn a b - frN a b) ∧ (∀ j,j < k → qB a b j = true)) (fun (k : Nat) => mn a b - frN a b - k) 0 ?_ (Conv.mk kr) .slnil ?_
   ·exact ⟨Nat.zero_le _,fun j h => absurd h (Nat.not_lt_zero j)⟩
   ·rintro k ⟨hk,hka⟩
    refine Cfg.regD rfl kr [0,1,4,5,6,47] [] (Γ' := [(47,[],.bool ((decide ((k : Int) < (((mn a b) : Int) - ((frN a b) : Int)))) && ((sbyte a (((a.size : Int) - 1) - (k : Int))) == (sbyte b (((b.size : Int) - 1) - (k : Int)))))),(6,[],.int .i64 ((mn a b) : Int)),(5,[],.int .i64 (k : Int)),(4,[],.int .i64 ((frN a b) : Int)),(0,[],.string a),(1,[],.string b)]) (nd := (fun _ => [(i6 (((mn a b) : Int) - ((frN a b) : Int))),((.bool (decide ((k : Int) < (((mn a b) : Int) - ((frN a b) : Int)))) : Value) = .bool true → (i6 ((a.size : Int) - 1))),((.bool (decide ((k : Int) < (((mn a b) : Int) - ((frN a b) : Int)))) : Value) = .bool true → (i6 (((a.size : Int) - 1) - (k : Int)))),((.bool (decide ((k : Int) < (((mn a b) : Int) - ((frN a b) : Int)))) : Value) = .bool true → (0 ≤ (((a.size : Int) - 1) - (k : Int)) ∧ (((a.size : Int) - 1) - (k : Int)) < (a.size : Int))),((.bool (decide ((k : Int) < (((mn a b) : Int) - ((frN a b) : Int)))) : Value) = .bool true → (i6 ((b.size : Int) - 1))),((.bool (decide ((k : Int) < (((mn a b) : Int) - ((frN a b) : Int)))) : Value) = .bool true → (i6 (((b.size : Int) - 1) - (k : Int)))),((.bool (decide ((k : Int) < (((mn a b) : Int) - ((frN a b) : Int)))) : Value) = .bool true → (0 ≤ (((b.size : Int) - 1) - (k : Int)) ∧ (((b.size : Int) - 1) - (k : Int)) < (b.size : Int)))])) kr kr (fun _ => kr) ⟨om,(fun g0 => have q0 : ((k : Int) < (((mn a b) : Int) - ((frN a b) : Int))) := (dT (boolV g0)); om),(fun g0 => have q0 : ((k : Int) < (((mn a b) : Int) - ((frN a b) : Int))) := (dT (boolV g0)); om),(fun g0 => have q0 : ((k : Int) < (((mn a b) : Int) - ((frN a b) : Int))) := (dT (boolV g0)); om),(fun g0 => have q0 : ((k : Int) < (((mn a b) : Int) - ((frN a b) : Int))) := (dT (boolV g0)); om),(fun g0 => have q0 : ((k : Int) < (((mn a b) : Int) - ((frN a b) : Int))) := (dT (boolV g0)); om),(fun g0 => have q0 : ((k : Int) < (((mn a b) : Int) - ((frN a b) : Int))) := (dT (boolV g0)); om),trivial⟩ ?_
    refine Cfg.cond rfl (b := ((decide ((k : Int) < (((mn a b) : Int) - ((frN a b) : Int)))) && ((sbyte a (((a.size : Int) - 1) - (k : Int))) == (sbyte b (((b.size : Int) - 1) - (k : Int)))))) kr (fun c2r => ?_) (fun c2r => ?_)
    ·have c2 : (((k : Int) < (((mn a b) : Int) - ((frN a b) : Int))) ∧ ((sbyte a (((a.size : Int) - 1) - (k : Int))) = (sbyte b (((b.size : Int) - 1) - (k : Int))))) := ⟨(dT (andT1 c2r)),(beq_iff_eq.1 (andT2 c2r))⟩
     refine Rg [0,1,4,5,6] [] (fun _ => [(i6 ((k : Int) + 1))]) ⟨om,trivial⟩ ?_
     refine Cfg.again rfl (k + 1) ⟨by omega,fun j hj => by
  rcases Nat.lt_or_ge j k with hh | hh
  ·exact hka j hh
  ·rw [show j = k by omega]; exact beq_iff_eq.2 c2.2⟩ (by show mn a b - frN a b - (k + 1) < mn a b - frN a b - k; omega) (Conv.mk kr) .slnil
    ·have c2 : ((¬ ((k : Int) < (((mn a b) : Int) - ((frN a b) : Int)))) ∨ ((sbyte a (((a.size : Int) - 1) - (k : Int))) ≠ (sbyte b (((b.size : Int) - 1) - (k : Int))))) := ((andF c2r).elim (fun h => Or.inl (dF h)) (fun h => Or.inr (beq_eq_false_iff_ne.1 h)))
     have hbk : bkN a b = k := cnt_eq hk hka (fun hlt => by
       rcases c2 with h | h
       ·omega
       ·exact beq_eq_false_iff_ne.2 h)
     refine Rg [4,5] [] n0 trivial ?_
     refine Cfg.ret rfl (rs := [.tmp 4,.tmp 5]) rfl [.int .i64 ((frN a b) : Int),.int .i64 (k : Int)] ⟨kr,by kernel_rfl,trivial⟩ (fun w1 hp => ?_)
     exact ⟨by rw [hbk]; rfl,hp.ext⟩
set_option maxRecDepth 100000 in
theorem rAlike (a b : ByteArray) (w : World) (ha : a.size ≤ maxLen) (hb : b.size ≤ maxLen) :
  Calls Tryz.prog 51 #[.string a,.string b] w fun e w' => e = .returned (.tuple #[.int .i64 (frN a b : Int),.int .i64 (bkN a b : Int)]) ∧ Ext [] w w' := by
 unfold maxLen at ha hb
 have hmn : mn a b ≤ a.size ∧ mn a b ≤ b.size := by unfold mn; omega
 have hmn2 : ∀ x,x < a.size → x < b.size → x < mn a b := fun x h1 h2 => by unfold mn; omega
 refine enter (vs := [.string a,.string b]) [] [] [] Tryz.func51 rfl kr (HP.start w) ?_
 refine Rg [0,1] [] n0 trivial ?_
 refine Rg [0,1,6] [] n0 trivial ?_
 refine Cfg.loop rfl (ι := Nat) (fun (f : Nat) => [(6,[],.int .i64 (f : Int)),(0,[],.string a),(1,[],.string b)]) (fun (f : Nat) => []) (fun (f : Nat) => (f ≤ mn a b) ∧ (∀ j,j < f → pF a b j = true)) (fun (f : Nat) => mn a b - f) 0 ?_ (Conv.mk kr) .slnil ?_
 ·exact ⟨Nat.zero_le _,fun j h => absurd h (Nat.not_lt_zero j)⟩
 ·rintro f ⟨hf,hfa⟩
  refine Cfg.regD rfl kr [0,1,6,26] [] (Γ' := [(26,[],.bool (((decide ((f : Int) < (a.size : Int))) && (decide ((f : Int) < (b.size : Int)))) && ((sbyte a (f : Int)) == (sbyte b (f : Int))))),(6,[],.int .i64 (f : Int)),(0,[],.string a),(1,[],.string b)]) (nd := (fun _ => [((.bool ((decide ((f : Int) < (a.size : Int))) && (decide ((f : Int) < (b.size : Int)))) : Value) = .bool true → (0 ≤ (f : Int) ∧ (f : Int) < (a.size : Int))),((.bool ((decide ((f : Int) < (a.size : Int))) && (decide ((f : Int) < (b.size : Int)))) : Value) = .bool true → (0 ≤ (f : Int) ∧ (f : Int) < (b.size : Int)))])) kr kr (fun _ => kr) ⟨(fun g0 => have q0 : (((f : Int) < (a.size : Int)) ∧ ((f : Int) < (b.size : Int))) := ⟨(dT (andT1 (boolV g0))),(dT (andT2 (boolV g0)))⟩; om),(fun g0 => have q0 : (((f : Int) < (a.size : Int)) ∧ ((f : Int) < (b.size : Int))) := ⟨(dT (andT1 (boolV g0))),(dT (andT2 (boolV g0)))⟩; om),trivial⟩ ?_
  refine Cfg.cond rfl (b := (((decide ((f : Int) < (a.size : Int))) && (decide ((f : Int) < (b.size : Int)))) && ((sbyte a (f : Int)) == (sbyte b (f : Int))))) kr (fun c1r => ?_) (fun c1r => ?_)
  ·have c1 : ((((f : Int) < (a.size : Int)) ∧ ((f : Int) < (b.size : Int))) ∧ ((sbyte a (f : Int)) = (sbyte b (f : Int)))) := ⟨⟨(dT (andT1 (andT1 c1r))),(dT (andT2 (andT1 c1r)))⟩,(beq_iff_eq.1 (andT2 c1r))⟩
   refine Rg [0,1,6] [] (fun _ => [(i6 ((f : Int) + 1))]) ⟨om,trivial⟩ ?_
   refine Cfg.again rfl (f + 1) ⟨(have := hmn2 f om om; by omega),fun j hj => by
  rcases Nat.lt_or_ge j f with hh | hh
  ·exact hfa j hh
  ·rw [show j = f by omega]; exact beq_iff_eq.2 c1.2⟩ (by show mn a b - (f + 1) < mn a b - f; have := hmn2 f om om; omega) (Conv.mk kr) .slnil
  ·have c1 : (((¬ ((f : Int) < (a.size : Int))) ∨ (¬ ((f : Int) < (b.size : Int)))) ∨ ((sbyte a (f : Int)) ≠ (sbyte b (f : Int)))) := ((andF c1r).elim (fun h => Or.inl ((andF h).elim (fun h => Or.inl (dF h)) (fun h => Or.inr (dF h)))) (fun h => Or.inr (beq_eq_false_iff_ne.1 h)))
   have hfr : frN a b = f := cnt_eq hf hfa (fun hlt => by
     rcases c1 with (h | h) | h
     ·omega
     ·omega
     ·exact beq_eq_false_iff_ne.2 h)
   subst hfr
   refine Conv.cfg (Γ' := [(6,[],.int .i64 ((frN a b) : Int)),(0,[],.string a),(1,[],.string b)]) (Conv.mk kr) ?_
   refine Rg [0,1,6,7] [] n0 trivial ?_
   refine Cfg.loop rfl (ι := Nat) (fun (k : Nat) => [(7,[],.int .i64 (k : Int)),(6,[],.int .i64 ((frN a b) : Int)),(0,[],.string a),(1,[],.string b)]) (fun (k : Nat) => []) (fun (k : Nat) => (k ≤ mn a b - frN a b) ∧ (∀ j,j < k → qB a b j = true)) (fun (k : Nat) => mn a b - frN a b - k) 0 ?_ (Conv.mk kr) .slnil ?_
   ·exact ⟨Nat.zero_le _,fun j h => absurd h (Nat.not_lt_zero j)⟩
   ·rintro k ⟨hk,hka⟩
    refine Cfg.regD rfl kr [0,1,6,7,59] [] (Γ' := [(59,[],.bool (((decide ((k : Int) < ((a.size : Int) - ((frN a b) : Int)))) && (decide ((k : Int) < ((b.size : Int) - ((frN a b) : Int))))) && ((sbyte a (((a.size : Int) - 1) - (k : Int))) == (sbyte b (((b.size : Int) - 1) - (k : Int)))))),(7,[],.int .i64 (k : Int)),(6,[],.int .i64 ((frN a b) : Int)),(0,[],.string a),(1,[],.string b)]) (nd := (fun _ => [(i6 ((a.size : Int) - ((frN a b) : Int))),((.bool (decide ((k : Int) < ((a.size : Int) - ((frN a b) : Int)))) : Value) = .bool true → (i6 ((b.size : Int) - ((frN a b) : Int)))),((.bool ((decide ((k : Int) < ((a.size : Int) - ((frN a b) : Int)))) && (decide ((k : Int) < ((b.size : Int) - ((frN a b) : Int))))) : Value) = .bool true → (i6 ((a.size : Int) - 1))),((.bool ((decide ((k : Int) < ((a.size : Int) - ((frN a b) : Int)))) && (decide ((k : Int) < ((b.size : Int) - ((frN a b) : Int))))) : Value) = .bool true → (i6 (((a.size : Int) - 1) - (k : Int)))),((.bool ((decide ((k : Int) < ((a.size : Int) - ((frN a b) : Int)))) && (decide ((k : Int) < ((b.size : Int) - ((frN a b) : Int))))) : Value) = .bool true → (0 ≤ (((a.size : Int) - 1) - (k : Int)) ∧ (((a.size : Int) - 1) - (k : Int)) < (a.size : Int))),((.bool ((decide ((k : Int) < ((a.size : Int) - ((frN a b) : Int)))) && (decide ((k : Int) < ((b.size : Int) - ((frN a b) : Int))))) : Value) = .bool true → (i6 ((b.size : Int) - 1))),((.bool ((decide ((k : Int) < ((a.size : Int) - ((frN a b) : Int)))) && (decide ((k : Int) < ((b.size : Int) - ((frN a b) : Int))))) : Value) = .bool true → (i6 (((b.size : Int) - 1) - (k : Int)))),((.bool ((decide ((k : Int) < ((a.size : Int) - ((frN a b) : Int)))) && (decide ((k : Int) < ((b.size : Int) - ((frN a b) : Int))))) : Value) = .bool true → (0 ≤ (((b.size : Int) - 1) - (k : Int)) ∧ (((b.size : Int) - 1) - (k : Int)) < (b.size : Int)))])) kr kr (fun _ => kr) ⟨om,(fun g0 => have q0 : ((k : Int) < ((a.size : Int) - ((frN a b) : Int))) := (dT (boolV g0)); om),(fun g0 => have q0 : (((k : Int) < ((a.size : Int) - ((frN a b) : Int))) ∧ ((k : Int) < ((b.size : Int) - ((frN a b) : Int)))) := ⟨(dT (andT1 (boolV g0))),(dT (andT2 (boolV g0)))⟩; om),(fun g0 => have q0 : (((k : Int) < ((a.size : Int) - ((frN a b) : Int))) ∧ ((k : Int) < ((b.size : Int) - ((frN a b) : Int)))) := ⟨(dT (andT1 (boolV g0))),(dT (andT2 (boolV g0)))⟩; om),(fun g0 => have q0 : (((k : Int) < ((a.size : Int) - ((frN a b) : Int))) ∧ ((k : Int) < ((b.size : Int) - ((frN a b) : Int)))) := ⟨(dT (andT1 (boolV g0))),(dT (andT2 (boolV g0)))⟩; om),(fun g0 => have q0 : (((k : Int) < ((a.size : Int) - ((frN a b) : Int))) ∧ ((k : Int) < ((b.size : Int) - ((frN a b) : Int)))) := ⟨(dT (andT1 (boolV g0))),(dT (andT2 (boolV g0)))⟩; om),(fun g0 => have q0 : (((k : Int) < ((a.size : Int) - ((frN a b) : Int))) ∧ ((k : Int) < ((b.size : Int) - ((frN a b) : Int)))) := ⟨(dT (andT1 (boolV g0))),(dT (andT2 (boolV g0)))⟩; om),(fun g0 => have q0 : (((k : Int) < ((a.size : Int) - ((frN a b) : Int))) ∧ ((k : Int) < ((b.size : Int) - ((frN a b) : Int)))) := ⟨(dT (andT1 (boolV g0))),(dT (andT2 (boolV g0)))⟩; om),trivial⟩ ?_
    refine Cfg.cond rfl (b := (((decide ((k : Int) < ((a.size : Int) - ((frN a b) : Int)))) && (decide ((k : Int) < ((b.size : Int) - ((frN a b) : Int))))) && ((sbyte a (((a.size : Int) - 1) - (k : Int))) == (sbyte b (((b.size : Int) - 1) - (k : Int)))))) kr (fun c2r => ?_) (fun c2r => ?_)
    ·have c2 : ((((k : Int) < ((a.size : Int) - ((frN a b) : Int))) ∧ ((k : Int) < ((b.size : Int) - ((frN a b) : Int)))) ∧ ((sbyte a (((a.size : Int) - 1) - (k : Int))) = (sbyte b (((b.size : Int) - 1) - (k : Int))))) := ⟨⟨(dT (andT1 (andT1 c2r))),(dT (andT2 (andT1 c2r)))⟩,(beq_iff_eq.1 (andT2 c2r))⟩
     refine Rg [0,1,6,7] [] (fun _ => [(i6 ((k : Int) + 1))]) ⟨om,trivial⟩ ?_
     refine Cfg.again rfl (k + 1) ⟨(have := hmn2 (frN a b + k) om om; by omega),fun j hj => by
  rcases Nat.lt_or_ge j k with hh | hh
  ·exact hka j hh
  ·rw [show j = k by omega]; exact beq_iff_eq.2 c2.2⟩ (by show mn a b - frN a b - (k + 1) < mn a b - frN a b - k; have := hmn2 (frN a b + k) om om; omega) (Conv.mk kr) .slnil
    ·have c2 : (((¬ ((k : Int) < ((a.size : Int) - ((frN a b) : Int)))) ∨ (¬ ((k : Int) < ((b.size : Int) - ((frN a b) : Int))))) ∨ ((sbyte a (((a.size : Int) - 1) - (k : Int))) ≠ (sbyte b (((b.size : Int) - 1) - (k : Int))))) := ((andF c2r).elim (fun h => Or.inl ((andF h).elim (fun h => Or.inl (dF h)) (fun h => Or.inr (dF h)))) (fun h => Or.inr (beq_eq_false_iff_ne.1 h)))
     have hbk : bkN a b = k := cnt_eq hk hka (fun hlt => by
       rcases c2 with (h | h) | h
       ·omega
       ·omega
       ·exact beq_eq_false_iff_ne.2 h)
     refine Rg [4,5] [] n0 trivial ?_
     refine Cfg.ret rfl (rs := [.tmp 4,.tmp 5]) rfl [.int .i64 ((frN a b) : Int),.int .i64 (k : Int)] ⟨kr,by kernel_rfl,trivial⟩ (fun w1 hp => ?_)
     exact ⟨by rw [hbk]; rfl,hp.ext⟩
set_option maxRecDepth 100000 in
theorem layPt (s : ByteArray) (p : PT) (w : World) (hk : p.Ok) (hr : s.size + (9 + p.text.size) ≤ 140737488355328) :
  Calls Tryz.prog 74 #[.agg #[.string s],.agg (pA p)] w fun e w' => e = .returned (.agg #[.string (tx (s.data.toList ++ layP p))]) ∧ Ext [] w w' := by
 have hk1 := hk.kind
 have hk2 := hk.pat
 have hk3 := hk.n
 have hl1 : (s.data.toList ++ be p.kind 1).length = s.size + 1 := by rw [List.length_append,be_len,ba_len]
 refine enter (vs := [.agg #[.string s],.agg (pA p)]) [] [] [] Tryz.func74 rfl kr (HP.start w) ?_
 refine Cfg.begL rfl ?_
 refine Le (Eff.box (v := .agg #[.string s]) rfl kr) ?_
 rintro o ⟨ho,no⟩
 refine Le (Eff.box (v := .agg (pA p)) rfl kr) ?_
 rintro pt ⟨hpt,npt⟩
 refine Le (Eff.alloc (z := (.agg #[.string ByteArray.empty])) rfl kr) ?_
 rintro rs ⟨hrs,nrs⟩
 refine CfgL.done rfl ?_
 refine Cg (Γ' := [(4,[],pT rs),(3,[],pT pt),(2,[],pT o)]) ?_
 refine Cfg.begL rfl ?_
 refine Lp 3 [(dS (.agg #[.string s])),dZ,(dS (.int .u8 (p.kind : Int)))] (some [2,3,4,5,7]) (fun S => [(∀ w1,S w1 → (loadVar 85 ⟨o,0,none⟩).run Tryz.prog w1 = .ok (.agg #[.string s]) w1),(cE S pt 0 (.int .u8 (p.kind : Int)))]) ⟨(fun w1 h => h.oload 2 rfl Tryz.underlying85 rfl (n := 1) kr rfl),(oC 1 rfl rfl),trivial⟩ ?_
 refine Le (Eff.callA (vs := [.agg #[.string s],.int .u8 (p.kind : Int)]) (.agg #[.string (tx (s.data.toList ++ be p.kind 1))]) rfl Tryz.func41 rfl rfl kr (fun w1 _ => wByte s p.kind w1 hk1 om)) ?_
 rintro ⟨⟩ -
 refine Le (Eff.storeN (b := o) (off := 0) (vs := #[.string (tx (s.data.toList ++ be p.kind 1))]) (n := 1) rfl kr kr kr rfl (by simp [K.one]) 2 (cs := #[.string s]) (e := 85) kr (by simp)) ?_
 rintro ⟨⟩ -
 refine CfgL.setO (congrArg (fun (xq : Array Value) => ([(rs,.cells #[.string ByteArray.empty] 85 (0,0)),(pt,.cells (pA p) 129 (0,0)),(o,.cells xq 85 (0,0))] : LO)) (show _ = #[.string (tx (s.data.toList ++ be p.kind 1))] from rfl)) ?_
 refine CfgL.done rfl ?_
 refine Cg (Γ' := [(4,[],pT rs),(3,[],pT pt),(2,[],pT o)]) ?_
 refine Rg [2,3,4,11] [dZ,(dS (.int .u8 (p.kind : Int)))] (fun S => [(cE S pt 0 (.int .u8 (p.kind : Int)))]) ⟨(oC 1 rfl rfl),trivial⟩ ?_
 refine Cfg.cond rfl (b := ((p.kind : Int) == (0 : Int))) kr (fun c1r => ?_) (fun c1r => ?_)
 ·have c1 := (beq_iff_eq.1 c1r)
  refine Cfg.begL rfl ?_
  refine Lp 5 [(dS (.agg #[.string (tx (s.data.toList ++ be p.kind 1))])),dZ,(dS (.int .u32 (p.pat : Int))),dZ,(dS (.int .u32 (p.n : Int)))] (some [4,12,14,16]) (fun S => [(∀ w1,S w1 → (loadVar 85 ⟨o,0,none⟩).run Tryz.prog w1 = .ok (.agg #[.string (tx (s.data.toList ++ be p.kind 1))]) w1),(cE S pt 1 (.int .u32 (p.pat : Int))),(cE S pt 2 (.int .u32 (p.n : Int)))]) ⟨(fun w1 h => h.oload 2 rfl Tryz.underlying85 rfl (n := 1) kr rfl),(oC 1 rfl rfl),(oC 1 rfl rfl),trivial⟩ ?_
  refine Le (Eff.buildSlice (e := 69) (cells := #[.int .u32 (p.pat : Int),.int .u32 (p.n : Int)]) (parts := #[(0,.int .u32 (p.pat : Int)),(1,.int .u32 (p.n : Int))]) rfl kr (fun _ => kr)) ?_
  rintro bk4 ⟨hbk4,nbk4⟩
  refine Le (Eff.callA (vs := [.agg #[.string (tx (s.data.toList ++ be p.kind 1))],.slice (some ⟨bk4,0,none⟩) 2 2]) (.agg #[.string (tx ((s.data.toList ++ be p.kind 1) ++ (four p.pat ++ four p.n)))]) rfl Tryz.func45 rfl rfl kr (fun w1 h => wFour2 (s.data.toList ++ be p.kind 1) p.pat p.n bk4 69 w1 hk2 hk3 om (h.has (fun e he => mG 0 (by rw [List.mem_singleton.1 he]; rfl))))) ?_
  rintro ⟨⟩ -
  refine Le (Eff.storeN (b := rs) (off := 0) (vs := #[.string (tx ((s.data.toList ++ be p.kind 1) ++ (four p.pat ++ four p.n)))]) (n := 1) rfl kr kr kr rfl (by simp [K.one]) 1 (cs := #[.string ByteArray.empty]) (e := 85) kr (by simp)) ?_
  rintro ⟨⟩ -
  refine CfgL.setO (congrArg (fun (xq : Array Value) => ([(bk4,.cells #[.int .u32 (p.pat : Int),.int .u32 (p.n : Int)] 69 (0,0)),(rs,.cells xq 85 (0,0)),(pt,.cells (pA p) 129 (0,0)),(o,.cells #[.string (tx (s.data.toList ++ be p.kind 1))] 85 (0,0))] : LO)) (show _ = #[.string (tx ((s.data.toList ++ be p.kind 1) ++ (four p.pat ++ four p.n)))] from rfl)) ?_
  refine CfgL.done rfl ?_
  refine Cg (Γ' := [(4,[],pT rs)]) ?_
  refine Cfg.ret rfl (rs := [.cell 4 85]) rfl [.agg #[.string (tx ((s.data.toList ++ be p.kind 1) ++ (four p.pat ++ four p.n)))]] ⟨⟨_,by kernel_rfl,(fun w1 h => h.oload 1 rfl Tryz.underlying85 rfl (n := 1) kr rfl)⟩,trivial⟩ (fun w1 hp => ?_)
  exact ⟨congrArg (fun x => Ending.returned (.agg #[.string (tx x)])) (by unfold layP; rw [if_pos om,List.append_assoc]),hp.ext⟩
 ·have c1 := (beq_eq_false_iff_ne.1 c1r)
  refine Cfg.begL rfl ?_
  refine Lp 3 [(dS (.agg #[.string (tx (s.data.toList ++ be p.kind 1))])),dZ,(dS (.string p.text))] (some [4,19,21]) (fun S => [(∀ w1,S w1 → (loadVar 85 ⟨o,0,none⟩).run Tryz.prog w1 = .ok (.agg #[.string (tx (s.data.toList ++ be p.kind 1))]) w1),(cE S pt 3 (.string p.text))]) ⟨(fun w1 h => h.oload 2 rfl Tryz.underlying85 rfl (n := 1) kr rfl),(oC 1 rfl rfl),trivial⟩ ?_
  refine Le (Eff.buildSlice (e := 9) (cells := #[.string p.text]) (parts := #[(0,.string p.text)]) rfl kr (fun _ => kr)) ?_
  rintro bk5 ⟨hbk5,nbk5⟩
  refine Le (Eff.callA (vs := [.agg #[.string (tx (s.data.toList ++ be p.kind 1))],.slice (some ⟨bk5,0,none⟩) 1 1]) (.agg #[.string (tx ((s.data.toList ++ be p.kind 1) ++ text4 p.text))]) rfl Tryz.func42 rfl rfl kr (fun w1 h => wText1 (s.data.toList ++ be p.kind 1) p.text bk5 9 w1 om (h.has (fun e he => mG 0 (by rw [List.mem_singleton.1 he]; rfl))))) ?_
  rintro ⟨⟩ -
  refine Le (Eff.storeN (b := rs) (off := 0) (vs := #[.string (tx ((s.data.toList ++ be p.kind 1) ++ text4 p.text))]) (n := 1) rfl kr kr kr rfl (by simp [K.one]) 1 (cs := #[.string ByteArray.empty]) (e := 85) kr (by simp)) ?_
  rintro ⟨⟩ -
  refine CfgL.setO (congrArg (fun (xq : Array Value) => ([(bk5,.cells #[.string p.text] 9 (0,0)),(rs,.cells xq 85 (0,0)),(pt,.cells (pA p) 129 (0,0)),(o,.cells #[.string (tx (s.data.toList ++ be p.kind 1))] 85 (0,0))] : LO)) (show _ = #[.string (tx ((s.data.toList ++ be p.kind 1) ++ text4 p.text))] from rfl)) ?_
  refine CfgL.done rfl ?_
  refine Cg (Γ' := [(4,[],pT rs)]) ?_
  refine Cfg.ret rfl (rs := [.cell 4 85]) rfl [.agg #[.string (tx ((s.data.toList ++ be p.kind 1) ++ text4 p.text))]] ⟨⟨_,by kernel_rfl,(fun w1 h => h.oload 1 rfl Tryz.underlying85 rfl (n := 1) kr rfl)⟩,trivial⟩ (fun w1 hp => ?_)
  exact ⟨congrArg (fun x => Ending.returned (.agg #[.string (tx x)])) (by unfold layP; rw [if_neg om,List.append_assoc]),hp.ext⟩
set_option maxRecDepth 100000 in
theorem wRowP (l : List UInt8) (la : Option Addr) (cap : Nat) (ps : List PT) (Rl : List (Nat × Obj)) (w : World) (hI : InS Rl la (ps.length * 4) (fun j => (pA (ps.getD (j / 4) PT0)).getD (j % 4) undef)) (hR : Has w Rl) (hn : ps.length ≤ maxLen) (h32 : ps.length < 4294967296) (hok : ∀ i,i < ps.length → (ps.getD i PT0).Ok) (hr : l.length + (4 + (flat (fun p => be 0 9 ++ p.text.data.toList) ps).length) ≤ 140737488355328) :
  Calls Tryz.prog 73 #[.agg #[.string (tx l)],.slice la ps.length cap,.func (.func 74) #[] #[]] w fun e w' => e = .returned (.agg #[.string (tx (l ++ rowP ps))]) ∧ Ext [] w w' := by
 unfold maxLen at hn
 have hrl : (rowP ps).length = 4 + (flat layP ps).length := by unfold rowP; rw [List.length_append,show (four ps.length).length = 4 from be_len _ _]
 refine enter (vs := [.agg #[.string (tx l)],.slice la ps.length cap,.func (.func 74) #[] #[]]) [] Rl [] Tryz.func73 rfl kr (HP.ofHas hR) ?_
 refine Cfg.begL rfl ?_
 refine Le (Eff.box (v := .agg #[.string (tx l)]) rfl kr) ?_
 rintro o ⟨ho,no⟩
 refine Le (Eff.alloc (z := (.agg #[.string ByteArray.empty])) rfl kr) ?_
 rintro rs ⟨hrs,nrs⟩
 refine CfgL.done rfl ?_
 refine Cg (Γ' := [(6,[],pT rs),(3,[],pT o),(1,[],.slice la ps.length cap),(2,[],.func (.func 74) #[] #[])]) ?_
 have hmod : ((ps.length : Int) % 4294967296) = (ps.length : Int) := by omega
 refine Cfg.begL rfl ?_
 refine Lp 4 [(dS (.agg #[.string (tx l)]))] (some [1,2,3,6,9,12]) (fun S => [(∀ w1,S w1 → (loadVar 85 ⟨o,0,none⟩).run Tryz.prog w1 = .ok (.agg #[.string (tx l)]) w1)]) ⟨(fun w1 h => h.oload 1 rfl Tryz.underlying85 rfl (n := 1) kr rfl),trivial⟩ ?_
 refine Le (Eff.buildSlice (e := 69) (cells := #[.int .u32 ((ps.length : Int) % 4294967296)]) (parts := #[(0,.int .u32 ((ps.length : Int) % 4294967296))]) rfl kr (fun _ => kr)) ?_
 rintro bk3 ⟨hbk3,nbk3⟩
 refine Le (Eff.callA (vs := [.agg #[.string (tx l)],.slice (some ⟨bk3,0,none⟩) 1 1]) (.agg #[.string (tx (l ++ four ps.length))]) rfl Tryz.func45 rfl rfl kr (fun w1 h => wFour1 l ps.length bk3 69 w1 h32 om (by have hq := h.own (bk3,.cells #[.int .u32 ((ps.length : Int) % 4294967296)] 69 (0,0)) (mG 0 rfl); rw [hmod] at hq; intro e he; rw [List.mem_singleton.1 he]; exact hq))) ?_
 rintro ⟨⟩ -
 refine Le (Eff.storeN (b := o) (off := 0) (vs := #[.string (tx (l ++ four ps.length))]) (n := 1) rfl kr kr kr rfl (by simp [K.one]) 2 (cs := #[.string (tx l)]) (e := 85) kr (by simp)) ?_
 rintro ⟨⟩ -
 refine CfgL.setO (congrArg (fun (xq : Array Value) => ([(bk3,.cells #[.int .u32 ((ps.length : Int) % 4294967296)] 69 (0,0)),(rs,.cells #[.string ByteArray.empty] 85 (0,0)),(o,.cells xq 85 (0,0))] : LO)) (show _ = #[.string (tx (l ++ four ps.length))] from rfl)) ?_
 refine CfgL.done rfl ?_
 refine Cg (Γ' := [(6,[],pT rs),(3,[],pT o),(1,[],.slice la ps.length cap),(2,[],.func (.func 74) #[] #[])]) ?_
 refine Rg [2,3,6,15,16,17] [] n0 trivial ?_
 refine Cfg.setO (congrArg (fun (xq : Array Value) => ([(bk3,.cells #[.int .u32 ((ps.length : Int) % 4294967296)] 69 (0,0)),(rs,.cells #[.string ByteArray.empty] 85 (0,0)),(o,.cells xq 85 (0,0))] : LO)) (show _ = #[.string (tx (l ++ (four ps.length ++ flat layP (ps.take 0))))] from by rw [List.take_zero,flat_nil,List.append_nil])) ?_
 refine Cfg.loop rfl (ι := Nat) (fun (i : Nat) => [(17,[],.int .i64 (i : Int)),(16,[],.int .i64 (ps.length : Int)),(15,[],.slice la ps.length cap),(6,[],pT rs),(3,[],pT o),(2,[],.func (.func 74) #[] #[])]) (fun (i : Nat) => [(rs,.cells #[.string ByteArray.empty] 85 (0,0)),(o,.cells #[.string (tx (l ++ (four ps.length ++ flat layP (ps.take i))))] 85 (0,0))]) (fun (i : Nat) => (i ≤ ps.length)) (fun (i : Nat) => ps.length - i) 0 ?_ (Conv.mk kr) (.cons _ (.cons_cons _ (.cons_cons _ .slnil))) ?_
 ·exact Nat.zero_le _
 ·rintro i hi
  refine Rg [2,3,6,15,16,17,18] [] n0 trivial ?_
  refine Cfg.cond rfl (b := (decide ((i : Int) < (ps.length : Int)))) kr (fun c1r => ?_) (fun c1r => ?_)
  ·have c1 := (dT c1r)
   have hpt := flat_part (f := fun p : PT => be 0 9 ++ p.text.data.toList) (l := ps) (i := i) PT0 om
   have hle := lay_le (ps.take i)
   have hroom : (tx (l ++ (four ps.length ++ flat layP (ps.take i)))).size + (9 + (ps.getD i PT0).text.size) ≤ 140737488355328 := by
    rw [tx_size,List.length_append,List.length_append,show (four ps.length).length = 4 from be_len _ _]
    rw [List.length_append,be_len,ba_len] at hpt
    omega
   obtain ⟨sb,off,cs,te,fre,rfl,hmem,hcs⟩ := hI om
   refine Conv.cfg (Γ' := [(18,[],.bool (decide ((i : Int) < (ps.length : Int)))),(17,[],.int .i64 (i : Int)),(16,[],.int .i64 (ps.length : Int)),(15,[],.slice (some ⟨sb,off,none⟩) ps.length cap),(6,[],pT rs),(3,[],pT o),(2,[],.func (.func 74) #[] #[])]) (Conv.mk kr) ?_
   refine Cfg.begL rfl ?_
   refine Lp 2 [dZ,(dS (.agg (pA (ps.getD i PT0))))] (some [2,3,6,15,16,17,20]) (fun S => [(0 ≤ (i : Int) ∧ (i : Int) < (ps.length : Int)),(∀ w1,S w1 → (loadVar 129 ⟨sb,(addO off (i * 4)),none⟩).run Tryz.prog w1 = .ok (.agg (pA (ps.getD i PT0))) w1)]) ⟨om,(fun w1 h => load_part Tryz.underlying129 rfl kr (fun j hj => by rw [addO_eq]; exact (cell_cells (h.ro _ hmem)).trans ((congrArg (fun z => cs[z]?) (show off + i * 4 + j = off + (i * 4 + j) by omega)).trans ((hcs (i * 4 + j) om).trans (by simp only [show (i * 4 + j) / 4 = i by omega,show (i * 4 + j) % 4 = j by omega]))))),trivial⟩ ?_
   refine Le (Eff.alloc (z := (.agg (pA PT0))) rfl kr) ?_
   rintro el ⟨hel,nel⟩
   refine Le (Eff.storeN (b := el) (off := 0) (vs := (pA (ps.getD i PT0))) (n := 4) rfl kr kr kr rfl (all_pA _) 0 (cs := (pA PT0)) (e := 129) kr (by rw [pA_size]; omega)) ?_
   rintro ⟨⟩ -
   refine CfgL.setO (congrArg (fun (xq : Array Value) => ([(el,.cells xq 129 (0,0)),(rs,.cells #[.string ByteArray.empty] 85 (0,0)),(o,.cells #[.string (tx (l ++ (four ps.length ++ flat layP (ps.take i))))] 85 (0,0))] : LO)) (show _ = (pA (ps.getD i PT0)) from spl_all rfl)) ?_
   refine CfgL.done rfl ?_
   refine Cg (Γ' := [(8,[],pT el),(17,[],.int .i64 (i : Int)),(16,[],.int .i64 (ps.length : Int)),(15,[],.slice (some ⟨sb,off,none⟩) ps.length cap),(6,[],pT rs),(3,[],pT o),(2,[],.func (.func 74) #[] #[])]) ?_
   refine Cfg.begL rfl ?_
   refine Lp 3 [dZ,(dS (.agg #[.string (tx (l ++ (four ps.length ++ flat layP (ps.take i))))])),(dS (.agg (pA (ps.getD i PT0))))] (some [2,3,6,15,16,17,21,22,23]) (fun S => [(∀ w1,S w1 → (loadVar 85 ⟨o,0,none⟩).run Tryz.prog w1 = .ok (.agg #[.string (tx (l ++ (four ps.length ++ flat layP (ps.take i))))]) w1),(∀ w1,S w1 → (loadVar 129 ⟨el,0,none⟩).run Tryz.prog w1 = .ok (.agg (pA (ps.getD i PT0))) w1)]) ⟨(fun w1 h => h.oload 2 rfl Tryz.underlying85 rfl (n := 1) kr rfl),(fun w1 h => h.oload 0 rfl Tryz.underlying129 rfl (n := 4) kr rfl),trivial⟩ ?_
   refine Le (Eff.callAV (vs := [.agg #[.string (tx (l ++ (four ps.length ++ flat layP (ps.take i))))],.agg (pA (ps.getD i PT0))]) (.agg #[.string (tx ((l ++ (four ps.length ++ flat layP (ps.take i))) ++ layP (ps.getD i PT0)))]) rfl kr Tryz.func74 rfl rfl kr (fun w1 h => layPt (tx (l ++ (four ps.length ++ flat layP (ps.take i)))) _ w1 (hok i om) hroom)) ?_
   rintro ⟨⟩ -
   refine Le (Eff.storeN (b := o) (off := 0) (vs := #[.string (tx ((l ++ (four ps.length ++ flat layP (ps.take i))) ++ layP (ps.getD i PT0)))]) (n := 1) rfl kr kr kr rfl (by simp [K.one]) 2 (cs := #[.string (tx (l ++ (four ps.length ++ flat layP (ps.take i))))]) (e := 85) kr (by simp)) ?_
   rintro ⟨⟩ -
   refine CfgL.setO (congrArg (fun (xq : Array Value) => ([(el,.cells (pA (ps.getD i PT0)) 129 (0,0)),(rs,.cells #[.string ByteArray.empty] 85 (0,0)),(o,.cells xq 85 (0,0))] : LO)) (show _ = #[.string (tx ((l ++ (four ps.length ++ flat layP (ps.take i))) ++ layP (ps.getD i PT0)))] from rfl)) ?_
   refine CfgL.done rfl ?_
   refine Cg (Γ' := [(17,[],.int .i64 (i : Int)),(16,[],.int .i64 (ps.length : Int)),(15,[],.slice (some ⟨sb,off,none⟩) ps.length cap),(6,[],pT rs),(3,[],pT o),(2,[],.func (.func 74) #[] #[])]) ?_
   refine Rg [2,3,6,15,16,17] [] (fun _ => [(i6 ((i : Int) + 1))]) ⟨om,trivial⟩ ?_
   refine Cfg.setO (congrArg (fun (xq : Array Value) => ([(el,.cells (pA (ps.getD i PT0)) 129 (0,0)),(rs,.cells #[.string ByteArray.empty] 85 (0,0)),(o,.cells xq 85 (0,0))] : LO)) (show _ = #[.string (tx (l ++ (four ps.length ++ flat layP (ps.take (i + 1)))))] from by rw [flat_succ PT0 om,List.append_assoc,List.append_assoc])) ?_
   refine Cfg.again rfl (i + 1) (show i + 1 ≤ ps.length by omega) om (Conv.mk kr) (.cons _ (.cons_cons _ (.cons_cons _ .slnil)))
  ·have c1 := (dF c1r)
   obtain rfl : i = ps.length := by omega
   refine Cfg.setO (congrArg (fun (xq : Array Value) => ([(rs,.cells #[.string ByteArray.empty] 85 (0,0)),(o,.cells xq 85 (0,0))] : LO)) (show _ = #[.string (tx (l ++ rowP ps))] from by rw [List.take_length]; rfl)) ?_
   refine Conv.cfg (Γ' := [(16,[],.int .i64 (ps.length : Int)),(15,[],.slice la ps.length cap),(6,[],pT rs),(3,[],pT o),(2,[],.func (.func 74) #[] #[])]) (Conv.mk kr) ?_
   refine Cfg.begL rfl ?_
   refine Lp 1 [(dS (.agg #[.string (tx (l ++ rowP ps))]))] (some [6,26]) (fun S => [(∀ w1,S w1 → (loadVar 85 ⟨o,0,none⟩).run Tryz.prog w1 = .ok (.agg #[.string (tx (l ++ rowP ps))]) w1)]) ⟨(fun w1 h => h.oload 1 rfl Tryz.underlying85 rfl (n := 1) kr rfl),trivial⟩ ?_
   refine Le (Eff.storeN (b := rs) (off := 0) (vs := #[.string (tx (l ++ rowP ps))]) (n := 1) rfl kr kr kr rfl (by simp [K.one]) 0 (cs := #[.string ByteArray.empty]) (e := 85) kr (by simp)) ?_
   rintro ⟨⟩ -
   refine CfgL.setO (congrArg (fun (xq : Array Value) => ([(rs,.cells xq 85 (0,0)),(o,.cells #[.string (tx (l ++ rowP ps))] 85 (0,0))] : LO)) (show _ = #[.string (tx (l ++ rowP ps))] from rfl)) ?_
   refine CfgL.done rfl ?_
   refine Cg (Γ' := [(6,[],pT rs)]) ?_
   refine Cfg.ret rfl (rs := [.cell 6 85]) rfl [.agg #[.string (tx (l ++ rowP ps))]] ⟨⟨_,by kernel_rfl,(fun w1 h => h.oload 0 rfl Tryz.underlying85 rfl (n := 1) kr rfl)⟩,trivial⟩ (fun w1 hp => ?_)
   exact ⟨rfl,hp.ext⟩
end Go.Proofs.YtbeegepcdglcaaaGreatDoor
