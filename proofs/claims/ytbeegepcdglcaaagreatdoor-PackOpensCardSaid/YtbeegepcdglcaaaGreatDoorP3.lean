/- Texts on which the proof of this claim stands: Dlt2, Dlt3, Dlt4, Hex, Open, Open2, Open3, Open4, K27, K20, K21, K31, K32, PkA. -/
import Derived.Test.YtbeegepcdglcaaaGreatDoorP2
import Derived.Test.YtbeegepcdglcaaaGreatDoorP1
import Derived.Test.YtbeegepcdglcaaaGreatDoorRows
import Derived.Deep.Slices
import Derived.ProofKit
import Derived.OpenShut
import Derived.SizedLaws
import Derived.ChangeArms
import Derived.Deep.Strs
import Derived.Lib.Overlaps
import Derived.MapKept
namespace Go.Proofs.YtbeegepcdglcaaaGreatDoor
open K
set_option linter.unusedVariables false
def md (a t : ByteArray) : ByteArray := t.extract (frN a t) (t.size - bkN a t)
def mdE (a t : ByteArray) : Bool := (md a t).toList == (⟨#[]⟩ : ByteArray).toList
def mkP (a t : ByteArray) : List PT := (if 0 < frN a t then [⟨0,0,frN a t,ByteArray.empty⟩] else []) ++ ((if mdE a t = true then [] else [⟨1,0,0,md a t⟩]) ++ (if 0 < bkN a t then [⟨0,a.size - bkN a t,bkN a t,ByteArray.empty⟩] else []))
def mk (a t : ByteArray) : List UInt8 := (four a.size ++ four t.size) ++ rowP (mkP a t)
theorem baToList (s : ByteArray) : s.toList = s.data.toList := Go.ByteArray.toList_eq s
theorem md_size (a t : ByteArray) : (md a t).size = t.size - (frN a t + bkN a t) := by
 have := fb_le a t
 unfold md
 rw [ByteArray.size_extract]; omega
theorem mdE_eq (a t : ByteArray) : mdE a t = decide (¬ frN a t + bkN a t < t.size) := by
 have h1 := md_size a t
 have h2 := fb_le a t
 unfold mdE
 rw [baToList,baToList]
 have h3 : (md a t).data.toList.length = (md a t).size := ba_len _
 cases h : (md a t).data.toList with
 | nil =>
  rw [h] at h3
  rw [decide_eq_true (by simp at h3; omega)]; rfl
 | cons x l =>
  rw [h,List.length_cons] at h3
  rw [decide_eq_false om]; rfl
theorem md_cut (a t : ByteArray) : t.extract (frN a t) ((t.size : Int) - (bkN a t : Int)).toNat = md a t := by
 unfold md
 rw [show ((t.size : Int) - (bkN a t : Int)).toNat = t.size - bkN a t by omega]
theorem getD_mem {ps : List PT} {i : Nat} (h : i < ps.length) : ps.getD i PT0 ∈ ps := by
 rw [List.getD_eq_getElem?_getD,List.getElem?_eq_getElem h]; exact List.getElem_mem h
def PtOk (m : Nat) (p : PT) : Prop := p.Ok ∧ p.text.size ≤ m
theorem proom {m : Nat} : ∀ (ps : List PT),(∀ p ∈ ps,PtOk m p) → (flat (fun p : PT => be 0 9 ++ p.text.data.toList) ps).length ≤ ps.length * (9 + m)
 | [],_ => Nat.zero_le _
 | p :: ps,h => by
  have h1 := proom ps (fun q hq => h q (List.mem_cons_of_mem _ hq))
  have h2 := (h p mH).2
  rw [show flat (fun p : PT => be 0 9 ++ p.text.data.toList) (p :: ps) = (be 0 9 ++ p.text.data.toList) ++ flat (fun p : PT => be 0 9 ++ p.text.data.toList) ps by simp [flat],List.length_append,List.length_append,be_len,ba_len,List.length_cons,Nat.add_mul]
  omega
theorem wRowM (l : List UInt8) (la : Option Addr) (cap : Nat) (ps : List PT) (Rl : List (Nat × Obj)) (w : World) (hI : InS Rl la (ps.length * 4) (fun j => (pA (ps.getD (j / 4) PT0)).getD (j % 4) undef)) (hR : Has w Rl) (h3 : ps.length ≤ 64) (hps : ∀ p ∈ ps,PtOk 100000000 p) (hl : l.length ≤ 100000000) :
  Calls Tryz.prog 73 #[.agg #[.string (tx l)],.slice la ps.length cap,.func (.func 74) #[] #[]] w fun e w' => e = .returned (.agg #[.string (tx (l ++ rowP ps))]) ∧ Ext [] w w' :=
 wRowP l la cap ps Rl w hI hR (by unfold maxLen; omega) om (fun i hi => (hps _ (getD_mem hi)).1) (by have := proom ps hps; have h4 : ps.length * (9 + 100000000) ≤ 64 * (9 + 100000000) := Nat.mul_le_mul_right _ h3; omega)
theorem be0 : be 0 1 = [0] := by decide
theorem be1 : be 1 1 = [1] := by decide
theorem layP_copy (x y : Nat) (s : ByteArray) : layP ⟨0,x,y,s⟩ = 0 :: (be x 4 ++ be y 4) := by
 unfold layP
 rw [if_pos rfl]
 show be 0 1 ++ (be x 4 ++ be y 4) = _
 rw [be0]; rfl
theorem layP_new (s : ByteArray) : layP ⟨1,0,0,s⟩ = 1 :: text4 s := by
 unfold layP
 rw [if_neg (Nat.one_ne_zero)]
 show be 1 1 ++ text4 s = _
 rw [be1]; rfl
theorem ba_eq {a b : ByteArray} (h : a.data.toList = b.data.toList) : a = b := by rw [ba_tx a,ba_tx b,h]
theorem sz_nil : (⟨#[]⟩ : ByteArray).size = 0 := rfl
theorem sz0 : (⟨#[0]⟩ : ByteArray).size = 1 := rfl
theorem sz1 : (⟨#[1]⟩ : ByteArray).size = 1 := rfl
set_option maxRecDepth 100000 in
theorem dMake (a t : ByteArray) (w : World) (ha : a.size ≤ 10000000) (ht : t.size ≤ 10000000) :
  Calls Tryz.prog 49 #[.string a,.string t] w fun e w' => e = .returned (.string (tx (mk a t))) ∧ Ext [] w w' := by
 have hfb := fb_le a t
 have hmf : ((frN a t : Int) % 4294967296) = (frN a t : Int) := by omega
 have hmk : ((bkN a t : Int) % 4294967296) = (bkN a t : Int) := by omega
 have hma : (((a.size : Int) - (bkN a t : Int)) % 4294967296) = ((a.size - bkN a t : Nat) : Int) := by omega
 have hms := md_size a t
 have hza : ((a.size : Int) % 4294967296) = (a.size : Int) := by omega
 have hzt : ((t.size : Int) % 4294967296) = (t.size : Int) := by omega
 have hP1 : PtOk 100000000 ⟨0,0,frN a t,ByteArray.empty⟩ := ⟨⟨by show 0 < 256; decide,by show 0 < 4294967296; decide,by show frN a t < _; omega⟩,Nat.zero_le _⟩
 have hP2 : PtOk 100000000 ⟨1,0,0,md a t⟩ := ⟨⟨by show 1 < 256; decide,by show 0 < 4294967296; decide,by show 0 < 4294967296; decide⟩,by show (md a t).size ≤ _; omega⟩
 have hP3 : PtOk 100000000 ⟨0,a.size - bkN a t,bkN a t,ByteArray.empty⟩ := ⟨⟨by show 0 < 256; decide,by show a.size - bkN a t < _; omega,by show bkN a t < _; omega⟩,Nat.zero_le _⟩
 refine enter (vs := [.string a,.string t]) [] [] [] Tryz.func49 rfl kr (HP.start w) ?_
 refine Rg [0,1] [] n0 trivial ?_
 refine Cfg.begL rfl ?_
 refine Lp 2 [] none n0 trivial ?_
 refine Le (Eff.callA (vs := [.string a,.string t]) (.tuple #[.int .i64 ((frN a t) : Int),.int .i64 ((bkN a t) : Int)]) rfl Tryz.func72 rfl rfl kr (fun w1 _ => dAlike a t w1 (by unfold maxLen; omega) (by unfold maxLen; omega))) ?_
 rintro ⟨⟩ -
 refine Lp 5 [] (some [0,1,5,6]) n0 trivial ?_
 refine CfgL.done rfl ?_
 refine Rg [0,1,5,6,7] [] n0 trivial ?_
 refine Rg [0,1,5,6,7,17] [] n0 trivial ?_
 refine Cfg.cond rfl (b := (decide (((frN a t) : Int) > (0 : Int)))) kr (fun c1r => ?_) (fun c1r => ?_)
 ·have c1 := (dT c1r)
  refine Cfg.begL rfl ?_
  refine Lp 4 [dZ,dZ,dZ,(dS (.agg (pA ⟨0,0,frN a t,ByteArray.empty⟩)))] (some [0,1,5,6,7,18,21]) (fun S => [(∀ w1,S w1 → (Instr.build 129 #[(0,.int .u8 0),(2,.int .u32 (((frN a t) : Int) % 4294967296))]).run Tryz.prog w1 = .ok (.agg (pA ⟨0,0,frN a t,ByteArray.empty⟩)) w1)]) ⟨(fun _ _ => by rw [hmf]; kernel_rfl),trivial⟩ ?_
  refine Le (Eff.buildAgg (vs := (pA ⟨0,0,frN a t,ByteArray.empty⟩)) (n := 4) rfl kr Tryz.underlying127 kr (z := (.agg #[.int .u8 0,.int .u32 0,.int .u32 0,.string ByteArray.empty])) kr rfl (by decide) (by decide)) ?_
  rintro bk1 ⟨hbk1,nbk1⟩
  refine Le (Eff.appendF rfl 4 32 Tryz.underlying127 kr (z := (.agg #[.int .u8 0,.int .u32 0,.int .u32 0,.string ByteArray.empty])) kr kr none (xs := []) (OwnOk.none _) kr (b2 := bk1) (off2 := 0) (m := 1) (c2 := 1) kr ((pA ⟨0,0,frN a t,ByteArray.empty⟩).toList) rfl (all_pA _) [(bk1,.cells (pA ⟨0,0,frN a t,ByteArray.empty⟩) 129 (0,0))] [] (by rfl) (fun w1 h j v hj => by rw [Nat.zero_add]; exact h.ocell 0 rfl (by rw [← Array.getElem?_toList]; exact hj)) om om) ?_
  rintro o2 ko2
  refine Lp 1 [] (some [0,1,5,6,7]) n0 trivial ?_
  refine CfgL.done rfl ?_
  refine Cfg.reg rfl [0,1,6,7,8] [] (Γ' := [(8,[],.string (t.extract (((frN a t))) ((((t.size : Int) - ((bkN a t) : Int))).toNat))),(7,[],.slice (Own.a o2) ((0 + 1)) (Own.c o2)),(6,[],.int .i64 ((bkN a t) : Int)),(0,[],.string a),(1,[],.string t)]) (nd := (fun _ => [(i6 ((t.size : Int) - ((bkN a t) : Int))),(0 ≤ ((frN a t) : Int)),(0 ≤ ((t.size : Int) - ((bkN a t) : Int))),(((frN a t)) ≤ (((t.size : Int) - ((bkN a t) : Int))).toNat ∧ (((t.size : Int) - ((bkN a t) : Int))).toNat ≤ t.size)])) (fun _ => kr) ⟨om,om,om,om,trivial⟩ ?_
  refine Cfg.setS 8 (congrArg Value.string (show (t.extract (((frN a t))) ((((t.size : Int) - ((bkN a t) : Int))).toNat)) = (md a t) from md_cut a t)) ?_
  refine Rg [0,1,6,7,8,32] [] n0 trivial ?_
  refine Cfg.cond rfl (b := (!((md a t).toList == (⟨#[]⟩ : ByteArray).toList))) kr (fun c2r => ?_) (fun c2r => ?_)
  ·have c2 : (((md a t).toList == (⟨#[]⟩ : ByteArray).toList) = false) := (notT c2r)
   refine Cfg.begL rfl ?_
   refine Lp 3 [dZ,dZ,(dS (.agg (pA ⟨1,0,0,md a t⟩)))] (some [0,1,6,7,33,35]) (fun S => [(∀ w1,S w1 → (Instr.build 129 #[(0,.int .u8 1),(3,.string (md a t))]).run Tryz.prog w1 = .ok (.agg (pA ⟨1,0,0,md a t⟩)) w1)]) ⟨(fun _ _ => kr),trivial⟩ ?_
   refine Le (Eff.buildAgg (vs := (pA ⟨1,0,0,md a t⟩)) (n := 4) rfl kr Tryz.underlying127 kr (z := (.agg #[.int .u8 0,.int .u32 0,.int .u32 0,.string ByteArray.empty])) kr rfl (by decide) (by decide)) ?_
   rintro bk2 ⟨hbk2,nbk2⟩
   refine Le (Eff.appendF rfl 4 32 Tryz.underlying127 kr (z := (.agg #[.int .u8 0,.int .u32 0,.int .u32 0,.string ByteArray.empty])) kr kr o2 (xs := ([] ++ (pA ⟨0,0,frN a t,ByteArray.empty⟩).toList)) ko2 kr (b2 := bk2) (off2 := 0) (m := 1) (c2 := 1) kr ((pA ⟨1,0,0,md a t⟩).toList) rfl (all_pA _) [(bk2,.cells (pA ⟨1,0,0,md a t⟩) 129 (0,0)),(bk1,.cells (pA ⟨0,0,frN a t,ByteArray.empty⟩) 129 (0,0))] [] (by rfl) (fun w1 h j v hj => by rw [Nat.zero_add]; exact h.ocell 0 rfl (by rw [← Array.getElem?_toList]; exact hj)) om om) ?_
   rintro o3 ko3
   refine Lp 1 [] (some [0,1,6,7]) n0 trivial ?_
   refine CfgL.done rfl ?_
   refine Rg [0,1,6,7,39] [] n0 trivial ?_
   refine Cfg.cond rfl (b := (decide (((bkN a t) : Int) > (0 : Int)))) kr (fun c3r => ?_) (fun c3r => ?_)
   ·have c3 := (dT c3r)
    refine Cfg.begL rfl ?_
    refine Lp 9 [dZ,dZ,dZ,dZ,dZ,dZ,dZ,dZ,(dS (.agg (pA ⟨0,a.size - bkN a t,bkN a t,ByteArray.empty⟩)))] (some [0,1,7,40,48]) (fun S => [(i6 ((a.size : Int) - ((bkN a t) : Int))),(∀ w1,S w1 → (Instr.build 129 #[(0,.int .u8 0),(1,.int .u32 (((a.size : Int) - ((bkN a t) : Int)) % 4294967296)),(2,.int .u32 (((bkN a t) : Int) % 4294967296))]).run Tryz.prog w1 = .ok (.agg (pA ⟨0,a.size - bkN a t,bkN a t,ByteArray.empty⟩)) w1)]) ⟨om,(fun _ _ => by rw [hma,hmk]; kernel_rfl),trivial⟩ ?_
    refine Le (Eff.buildAgg (vs := (pA ⟨0,a.size - bkN a t,bkN a t,ByteArray.empty⟩)) (n := 4) rfl kr Tryz.underlying127 kr (z := (.agg #[.int .u8 0,.int .u32 0,.int .u32 0,.string ByteArray.empty])) kr rfl (by decide) (by decide)) ?_
    rintro bk3 ⟨hbk3,nbk3⟩
    refine Le (Eff.appendF rfl 4 32 Tryz.underlying127 kr (z := (.agg #[.int .u8 0,.int .u32 0,.int .u32 0,.string ByteArray.empty])) kr kr o3 (xs := (([] ++ (pA ⟨0,0,frN a t,ByteArray.empty⟩).toList) ++ (pA ⟨1,0,0,md a t⟩).toList)) ko3 kr (b2 := bk3) (off2 := 0) (m := 1) (c2 := 1) kr ((pA ⟨0,a.size - bkN a t,bkN a t,ByteArray.empty⟩).toList) rfl (all_pA _) [(bk3,.cells (pA ⟨0,a.size - bkN a t,bkN a t,ByteArray.empty⟩) 129 (0,0)),(bk2,.cells (pA ⟨1,0,0,md a t⟩) 129 (0,0)),(bk1,.cells (pA ⟨0,0,frN a t,ByteArray.empty⟩) 129 (0,0))] [] (by rfl) (fun w1 h j v hj => by rw [Nat.zero_add]; exact h.ocell 0 rfl (by rw [← Array.getElem?_toList]; exact hj)) om om) ?_
    rintro o4 ko4
    refine Lp 1 [] (some [0,1,7]) n0 trivial ?_
    refine CfgL.done rfl ?_
    refine Cfg.begL rfl ?_
    refine Lp 7 [(dS (.agg #[.string ByteArray.empty]))] (some [7,51,54,57]) (fun S => [(∀ w1,S w1 → (Instr.build 85 #[]).run Tryz.prog w1 = .ok (.agg #[.string ByteArray.empty]) w1)]) ⟨(fun _ _ => kr),trivial⟩ ?_
    refine Le (Eff.buildSlice (e := 69) (cells := #[.int .u32 ((a.size : Int) % 4294967296),.int .u32 ((t.size : Int) % 4294967296)]) (parts := #[(0,.int .u32 ((a.size : Int) % 4294967296)),(1,.int .u32 ((t.size : Int) % 4294967296))]) rfl kr (fun _ => kr)) ?_
    rintro bk4 ⟨hbk4,nbk4⟩
    refine Le (Eff.callA (vs := [.agg #[.string ByteArray.empty],.slice (some ⟨bk4,0,none⟩) 2 2]) (.agg #[.string (tx (four a.size ++ four t.size))]) rfl Tryz.func45 rfl rfl kr (fun w1 h => wFour2 [] a.size t.size bk4 69 w1 om om (by decide) (by have hq := h.own (bk4,.cells #[.int .u32 ((a.size : Int) % 4294967296),.int .u32 ((t.size : Int) % 4294967296)] 69 (0,0)) (mG 0 rfl); rw [hza,hzt] at hq; intro e he; rw [List.mem_singleton.1 he]; exact hq))) ?_
    rintro ⟨⟩ -
    refine Le (Eff.alloc (z := (.agg #[.string ByteArray.empty])) rfl kr) ?_
    rintro ob ⟨hob,nob⟩
    refine Le (Eff.storeN (b := ob) (off := 0) (vs := #[.string (tx (four a.size ++ four t.size))]) (n := 1) rfl kr kr kr rfl (by simp [K.one]) 0 (cs := #[.string ByteArray.empty]) (e := 85) kr (by simp)) ?_
    rintro ⟨⟩ -
    refine CfgL.setO (congrArg (fun (xq : Array Value) => (([(ob,.cells xq 85 (0,0)),(bk4,.cells #[.int .u32 ((a.size : Int) % 4294967296),.int .u32 ((t.size : Int) % 4294967296)] 69 (0,0)),(bk3,.cells (pA ⟨0,a.size - bkN a t,bkN a t,ByteArray.empty⟩) 129 (0,0)),(bk2,.cells (pA ⟨1,0,0,md a t⟩) 129 (0,0)),(bk1,.cells (pA ⟨0,0,frN a t,ByteArray.empty⟩) 129 (0,0))] ++ (Own.o 129 ((([] ++ (pA ⟨0,0,frN a t,ByteArray.empty⟩).toList) ++ (pA ⟨1,0,0,md a t⟩).toList) ++ (pA ⟨0,a.size - bkN a t,bkN a t,ByteArray.empty⟩).toList) o4 ++ [])) : LO)) (show _ = #[.string (tx (four a.size ++ four t.size))] from rfl)) ?_
    refine CfgL.done rfl ?_
    refine Cg (Γ' := [(9,[],pT ob),(7,[],.slice (Own.a o4) ((((0 + 1) + 1) + 1)) (Own.c o4))]) ?_
    refine Cfg.begL rfl ?_
    refine Lp 2 [(dS (.agg #[.string (tx (four a.size ++ four t.size))]))] (some [60,61]) (fun S => [(∀ w1,S w1 → (loadVar 85 ⟨ob,0,none⟩).run Tryz.prog w1 = .ok (.agg #[.string (tx (four a.size ++ four t.size))]) w1)]) ⟨(fun w1 h => h.oload 0 rfl Tryz.underlying85 rfl (n := 1) kr rfl),trivial⟩ ?_
    refine Le (Eff.callA (vs := [.agg #[.string (tx (four a.size ++ four t.size))],.slice (Own.a o4) ((((0 + 1) + 1) + 1)) (Own.c o4),.func (.func 74) #[] #[]]) (.agg #[.string (tx ((four a.size ++ four t.size) ++ rowP [⟨0,0,frN a t,ByteArray.empty⟩,⟨1,0,0,md a t⟩,⟨0,a.size - bkN a t,bkN a t,ByteArray.empty⟩]))]) rfl Tryz.func73 rfl rfl kr (fun w1 h => wRowM (four a.size ++ four t.size) (Own.a o4) (Own.c o4) [⟨0,0,frN a t,ByteArray.empty⟩,⟨1,0,0,md a t⟩,⟨0,a.size - bkN a t,bkN a t,ByteArray.empty⟩] (Own.o 129 (pcells [⟨0,0,frN a t,ByteArray.empty⟩,⟨1,0,0,md a t⟩,⟨0,a.size - bkN a t,bkN a t,ByteArray.empty⟩]) o4) w1 (own_ins4 (ps := [⟨0,0,frN a t,ByteArray.empty⟩,⟨1,0,0,md a t⟩,⟨0,a.size - bkN a t,bkN a t,ByteArray.empty⟩]) ko4) (fun x hx => h.own x (show x ∈ ([(ob,.cells #[.string (tx (four a.size ++ four t.size))] 85 (0,0)),(bk4,.cells #[.int .u32 ((a.size : Int) % 4294967296),.int .u32 ((t.size : Int) % 4294967296)] 69 (0,0)),(bk3,.cells (pA ⟨0,a.size - bkN a t,bkN a t,ByteArray.empty⟩) 129 (0,0)),(bk2,.cells (pA ⟨1,0,0,md a t⟩) 129 (0,0)),(bk1,.cells (pA ⟨0,0,frN a t,ByteArray.empty⟩) 129 (0,0))] ++ (Own.o 129 ((([] ++ (pA ⟨0,0,frN a t,ByteArray.empty⟩).toList) ++ (pA ⟨1,0,0,md a t⟩).toList) ++ (pA ⟨0,a.size - bkN a t,bkN a t,ByteArray.empty⟩).toList) o4 ++ [])) from mR (mL hx))) (by simp) (List.forall_mem_cons.2 ⟨hP1,List.forall_mem_cons.2 ⟨hP2,List.forall_mem_cons.2 ⟨hP3,fun _ h => by cases h⟩⟩⟩) (by rw [List.length_append,show (four a.size).length = 4 from be_len _ _,show (four t.size).length = 4 from be_len _ _]; decide))) ?_
    rintro ⟨⟩ -
    refine Le (Eff.callA (vs := [.agg #[.string (tx ((four a.size ++ four t.size) ++ rowP [⟨0,0,frN a t,ByteArray.empty⟩,⟨1,0,0,md a t⟩,⟨0,a.size - bkN a t,bkN a t,ByteArray.empty⟩]))]]) (.string (tx ((four a.size ++ four t.size) ++ rowP [⟨0,0,frN a t,ByteArray.empty⟩,⟨1,0,0,md a t⟩,⟨0,a.size - bkN a t,bkN a t,ByteArray.empty⟩]))) rfl Tryz.func43 rfl rfl kr (fun w1 _ => wString (tx ((four a.size ++ four t.size) ++ rowP [⟨0,0,frN a t,ByteArray.empty⟩,⟨1,0,0,md a t⟩,⟨0,a.size - bkN a t,bkN a t,ByteArray.empty⟩])) w1)) ?_
    rintro ⟨⟩ -
    refine Lp 1 [] (some [4]) n0 trivial ?_
    refine CfgL.done rfl ?_
    refine Cfg.ret rfl (rs := [.tmp 4]) rfl [.string (tx ((four a.size ++ four t.size) ++ rowP [⟨0,0,frN a t,ByteArray.empty⟩,⟨1,0,0,md a t⟩,⟨0,a.size - bkN a t,bkN a t,ByteArray.empty⟩]))] ⟨kr,trivial⟩ (fun w1 hp => ?_)
    have hmp : mkP a t = [⟨0,0,frN a t,ByteArray.empty⟩,⟨1,0,0,md a t⟩,⟨0,a.size - bkN a t,bkN a t,ByteArray.empty⟩] := by unfold mkP; rw [if_pos om,if_neg (by unfold mdE; rw [c2]; exact Bool.false_ne_true),if_pos om]; rfl
    exact ⟨by unfold mk; rw [hmp]; rfl,hp.ext⟩
   ·have c3 := (dF c3r)
    refine Cfg.begL rfl ?_
    refine Lp 7 [(dS (.agg #[.string ByteArray.empty]))] (some [7,51,54,57]) (fun S => [(∀ w1,S w1 → (Instr.build 85 #[]).run Tryz.prog w1 = .ok (.agg #[.string ByteArray.empty]) w1)]) ⟨(fun _ _ => kr),trivial⟩ ?_
    refine Le (Eff.buildSlice (e := 69) (cells := #[.int .u32 ((a.size : Int) % 4294967296),.int .u32 ((t.size : Int) % 4294967296)]) (parts := #[(0,.int .u32 ((a.size : Int) % 4294967296)),(1,.int .u32 ((t.size : Int) % 4294967296))]) rfl kr (fun _ => kr)) ?_
    rintro bk6 ⟨hbk6,nbk6⟩
    refine Le (Eff.callA (vs := [.agg #[.string ByteArray.empty],.slice (some ⟨bk6,0,none⟩) 2 2]) (.agg #[.string (tx (four a.size ++ four t.size))]) rfl Tryz.func45 rfl rfl kr (fun w1 h => wFour2 [] a.size t.size bk6 69 w1 om om (by decide) (by have hq := h.own (bk6,.cells #[.int .u32 ((a.size : Int) % 4294967296),.int .u32 ((t.size : Int) % 4294967296)] 69 (0,0)) (mG 0 rfl); rw [hza,hzt] at hq; intro e he; rw [List.mem_singleton.1 he]; exact hq))) ?_
    rintro ⟨⟩ -
    refine Le (Eff.alloc (z := (.agg #[.string ByteArray.empty])) rfl kr) ?_
    rintro ob ⟨hob,nob⟩
    refine Le (Eff.storeN (b := ob) (off := 0) (vs := #[.string (tx (four a.size ++ four t.size))]) (n := 1) rfl kr kr kr rfl (by simp [K.one]) 0 (cs := #[.string ByteArray.empty]) (e := 85) kr (by simp)) ?_
    rintro ⟨⟩ -
    refine CfgL.setO (congrArg (fun (xq : Array Value) => (([(ob,.cells xq 85 (0,0)),(bk6,.cells #[.int .u32 ((a.size : Int) % 4294967296),.int .u32 ((t.size : Int) % 4294967296)] 69 (0,0)),(bk2,.cells (pA ⟨1,0,0,md a t⟩) 129 (0,0)),(bk1,.cells (pA ⟨0,0,frN a t,ByteArray.empty⟩) 129 (0,0))] ++ (Own.o 129 (([] ++ (pA ⟨0,0,frN a t,ByteArray.empty⟩).toList) ++ (pA ⟨1,0,0,md a t⟩).toList) o3 ++ [])) : LO)) (show _ = #[.string (tx (four a.size ++ four t.size))] from rfl)) ?_
    refine CfgL.done rfl ?_
    refine Cg (Γ' := [(9,[],pT ob),(7,[],.slice (Own.a o3) (((0 + 1) + 1)) (Own.c o3))]) ?_
    refine Cfg.begL rfl ?_
    refine Lp 2 [(dS (.agg #[.string (tx (four a.size ++ four t.size))]))] (some [60,61]) (fun S => [(∀ w1,S w1 → (loadVar 85 ⟨ob,0,none⟩).run Tryz.prog w1 = .ok (.agg #[.string (tx (four a.size ++ four t.size))]) w1)]) ⟨(fun w1 h => h.oload 0 rfl Tryz.underlying85 rfl (n := 1) kr rfl),trivial⟩ ?_
    refine Le (Eff.callA (vs := [.agg #[.string (tx (four a.size ++ four t.size))],.slice (Own.a o3) (((0 + 1) + 1)) (Own.c o3),.func (.func 74) #[] #[]]) (.agg #[.string (tx ((four a.size ++ four t.size) ++ rowP [⟨0,0,frN a t,ByteArray.empty⟩,⟨1,0,0,md a t⟩]))]) rfl Tryz.func73 rfl rfl kr (fun w1 h => wRowM (four a.size ++ four t.size) (Own.a o3) (Own.c o3) [⟨0,0,frN a t,ByteArray.empty⟩,⟨1,0,0,md a t⟩] (Own.o 129 (pcells [⟨0,0,frN a t,ByteArray.empty⟩,⟨1,0,0,md a t⟩]) o3) w1 (own_ins4 (ps := [⟨0,0,frN a t,ByteArray.empty⟩,⟨1,0,0,md a t⟩]) ko3) (fun x hx => h.own x (show x ∈ ([(ob,.cells #[.string (tx (four a.size ++ four t.size))] 85 (0,0)),(bk6,.cells #[.int .u32 ((a.size : Int) % 4294967296),.int .u32 ((t.size : Int) % 4294967296)] 69 (0,0)),(bk2,.cells (pA ⟨1,0,0,md a t⟩) 129 (0,0)),(bk1,.cells (pA ⟨0,0,frN a t,ByteArray.empty⟩) 129 (0,0))] ++ (Own.o 129 (([] ++ (pA ⟨0,0,frN a t,ByteArray.empty⟩).toList) ++ (pA ⟨1,0,0,md a t⟩).toList) o3 ++ [])) from mR (mL hx))) (by simp) (List.forall_mem_cons.2 ⟨hP1,List.forall_mem_cons.2 ⟨hP2,fun _ h => by cases h⟩⟩) (by rw [List.length_append,show (four a.size).length = 4 from be_len _ _,show (four t.size).length = 4 from be_len _ _]; decide))) ?_
    rintro ⟨⟩ -
    refine Le (Eff.callA (vs := [.agg #[.string (tx ((four a.size ++ four t.size) ++ rowP [⟨0,0,frN a t,ByteArray.empty⟩,⟨1,0,0,md a t⟩]))]]) (.string (tx ((four a.size ++ four t.size) ++ rowP [⟨0,0,frN a t,ByteArray.empty⟩,⟨1,0,0,md a t⟩]))) rfl Tryz.func43 rfl rfl kr (fun w1 _ => wString (tx ((four a.size ++ four t.size) ++ rowP [⟨0,0,frN a t,ByteArray.empty⟩,⟨1,0,0,md a t⟩])) w1)) ?_
    rintro ⟨⟩ -
    refine Lp 1 [] (some [4]) n0 trivial ?_
    refine CfgL.done rfl ?_
    refine Cfg.ret rfl (rs := [.tmp 4]) rfl [.string (tx ((four a.size ++ four t.size) ++ rowP [⟨0,0,frN a t,ByteArray.empty⟩,⟨1,0,0,md a t⟩]))] ⟨kr,trivial⟩ (fun w1 hp => ?_)
    have hmp : mkP a t = [⟨0,0,frN a t,ByteArray.empty⟩,⟨1,0,0,md a t⟩] := by unfold mkP; rw [if_pos om,if_neg (by unfold mdE; rw [c2]; exact Bool.false_ne_true),if_neg om]; rfl
    exact ⟨by unfold mk; rw [hmp]; rfl,hp.ext⟩
  ·have c2 : (((md a t).toList == (⟨#[]⟩ : ByteArray).toList) = true) := (notF c2r)
   refine Rg [0,1,6,7,39] [] n0 trivial ?_
   refine Cfg.cond rfl (b := (decide (((bkN a t) : Int) > (0 : Int)))) kr (fun c4r => ?_) (fun c4r => ?_)
   ·have c4 := (dT c4r)
    refine Cfg.begL rfl ?_
    refine Lp 9 [dZ,dZ,dZ,dZ,dZ,dZ,dZ,dZ,(dS (.agg (pA ⟨0,a.size - bkN a t,bkN a t,ByteArray.empty⟩)))] (some [0,1,7,40,48]) (fun S => [(i6 ((a.size : Int) - ((bkN a t) : Int))),(∀ w1,S w1 → (Instr.build 129 #[(0,.int .u8 0),(1,.int .u32 (((a.size : Int) - ((bkN a t) : Int)) % 4294967296)),(2,.int .u32 (((bkN a t) : Int) % 4294967296))]).run Tryz.prog w1 = .ok (.agg (pA ⟨0,a.size - bkN a t,bkN a t,ByteArray.empty⟩)) w1)]) ⟨om,(fun _ _ => by rw [hma,hmk]; kernel_rfl),trivial⟩ ?_
    refine Le (Eff.buildAgg (vs := (pA ⟨0,a.size - bkN a t,bkN a t,ByteArray.empty⟩)) (n := 4) rfl kr Tryz.underlying127 kr (z := (.agg #[.int .u8 0,.int .u32 0,.int .u32 0,.string ByteArray.empty])) kr rfl (by decide) (by decide)) ?_
    rintro bk8 ⟨hbk8,nbk8⟩
    refine Le (Eff.appendF rfl 4 32 Tryz.underlying127 kr (z := (.agg #[.int .u8 0,.int .u32 0,.int .u32 0,.string ByteArray.empty])) kr kr o2 (xs := ([] ++ (pA ⟨0,0,frN a t,ByteArray.empty⟩).toList)) ko2 kr (b2 := bk8) (off2 := 0) (m := 1) (c2 := 1) kr ((pA ⟨0,a.size - bkN a t,bkN a t,ByteArray.empty⟩).toList) rfl (all_pA _) [(bk8,.cells (pA ⟨0,a.size - bkN a t,bkN a t,ByteArray.empty⟩) 129 (0,0)),(bk1,.cells (pA ⟨0,0,frN a t,ByteArray.empty⟩) 129 (0,0))] [] (by rfl) (fun w1 h j v hj => by rw [Nat.zero_add]; exact h.ocell 0 rfl (by rw [← Array.getElem?_toList]; exact hj)) om om) ?_
    rintro o11 ko11
    refine Lp 1 [] (some [0,1,7]) n0 trivial ?_
    refine CfgL.done rfl ?_
    refine Cfg.begL rfl ?_
    refine Lp 7 [(dS (.agg #[.string ByteArray.empty]))] (some [7,51,54,57]) (fun S => [(∀ w1,S w1 → (Instr.build 85 #[]).run Tryz.prog w1 = .ok (.agg #[.string ByteArray.empty]) w1)]) ⟨(fun _ _ => kr),trivial⟩ ?_
    refine Le (Eff.buildSlice (e := 69) (cells := #[.int .u32 ((a.size : Int) % 4294967296),.int .u32 ((t.size : Int) % 4294967296)]) (parts := #[(0,.int .u32 ((a.size : Int) % 4294967296)),(1,.int .u32 ((t.size : Int) % 4294967296))]) rfl kr (fun _ => kr)) ?_
    rintro bk9 ⟨hbk9,nbk9⟩
    refine Le (Eff.callA (vs := [.agg #[.string ByteArray.empty],.slice (some ⟨bk9,0,none⟩) 2 2]) (.agg #[.string (tx (four a.size ++ four t.size))]) rfl Tryz.func45 rfl rfl kr (fun w1 h => wFour2 [] a.size t.size bk9 69 w1 om om (by decide) (by have hq := h.own (bk9,.cells #[.int .u32 ((a.size : Int) % 4294967296),.int .u32 ((t.size : Int) % 4294967296)] 69 (0,0)) (mG 0 rfl); rw [hza,hzt] at hq; intro e he; rw [List.mem_singleton.1 he]; exact hq))) ?_
    rintro ⟨⟩ -
    refine Le (Eff.alloc (z := (.agg #[.string ByteArray.empty])) rfl kr) ?_
    rintro ob ⟨hob,nob⟩
    refine Le (Eff.storeN (b := ob) (off := 0) (vs := #[.string (tx (four a.size ++ four t.size))]) (n := 1) rfl kr kr kr rfl (by simp [K.one]) 0 (cs := #[.string ByteArray.empty]) (e := 85) kr (by simp)) ?_
    rintro ⟨⟩ -
    refine CfgL.setO (congrArg (fun (xq : Array Value) => (([(ob,.cells xq 85 (0,0)),(bk9,.cells #[.int .u32 ((a.size : Int) % 4294967296),.int .u32 ((t.size : Int) % 4294967296)] 69 (0,0)),(bk8,.cells (pA ⟨0,a.size - bkN a t,bkN a t,ByteArray.empty⟩) 129 (0,0)),(bk1,.cells (pA ⟨0,0,frN a t,ByteArray.empty⟩) 129 (0,0))] ++ (Own.o 129 (([] ++ (pA ⟨0,0,frN a t,ByteArray.empty⟩).toList) ++ (pA ⟨0,a.size - bkN a t,bkN a t,ByteArray.empty⟩).toList) o11 ++ [])) : LO)) (show _ = #[.string (tx (four a.size ++ four t.size))] from rfl)) ?_
    refine CfgL.done rfl ?_
    refine Cg (Γ' := [(9,[],pT ob),(7,[],.slice (Own.a o11) (((0 + 1) + 1)) (Own.c o11))]) ?_
    refine Cfg.begL rfl ?_
    refine Lp 2 [(dS (.agg #[.string (tx (four a.size ++ four t.size))]))] (some [60,61]) (fun S => [(∀ w1,S w1 → (loadVar 85 ⟨ob,0,none⟩).run Tryz.prog w1 = .ok (.agg #[.string (tx (four a.size ++ four t.size))]) w1)]) ⟨(fun w1 h => h.oload 0 rfl Tryz.underlying85 rfl (n := 1) kr rfl),trivial⟩ ?_
    refine Le (Eff.callA (vs := [.agg #[.string (tx (four a.size ++ four t.size))],.slice (Own.a o11) (((0 + 1) + 1)) (Own.c o11),.func (.func 74) #[] #[]]) (.agg #[.string (tx ((four a.size ++ four t.size) ++ rowP [⟨0,0,frN a t,ByteArray.empty⟩,⟨0,a.size - bkN a t,bkN a t,ByteArray.empty⟩]))]) rfl Tryz.func73 rfl rfl kr (fun w1 h => wRowM (four a.size ++ four t.size) (Own.a o11) (Own.c o11) [⟨0,0,frN a t,ByteArray.empty⟩,⟨0,a.size - bkN a t,bkN a t,ByteArray.empty⟩] (Own.o 129 (pcells [⟨0,0,frN a t,ByteArray.empty⟩,⟨0,a.size - bkN a t,bkN a t,ByteArray.empty⟩]) o11) w1 (own_ins4 (ps := [⟨0,0,frN a t,ByteArray.empty⟩,⟨0,a.size - bkN a t,bkN a t,ByteArray.empty⟩]) ko11) (fun x hx => h.own x (show x ∈ ([(ob,.cells #[.string (tx (four a.size ++ four t.size))] 85 (0,0)),(bk9,.cells #[.int .u32 ((a.size : Int) % 4294967296),.int .u32 ((t.size : Int) % 4294967296)] 69 (0,0)),(bk8,.cells (pA ⟨0,a.size - bkN a t,bkN a t,ByteArray.empty⟩) 129 (0,0)),(bk1,.cells (pA ⟨0,0,frN a t,ByteArray.empty⟩) 129 (0,0))] ++ (Own.o 129 (([] ++ (pA ⟨0,0,frN a t,ByteArray.empty⟩).toList) ++ (pA ⟨0,a.size - bkN a t,bkN a t,ByteArray.empty⟩).toList) o11 ++ [])) from mR (mL hx))) (by simp) (List.forall_mem_cons.2 ⟨hP1,List.forall_mem_cons.2 ⟨hP3,fun _ h => by cases h⟩⟩) (by rw [List.length_append,show (four a.size).length = 4 from be_len _ _,show (four t.size).length = 4 from be_len _ _]; decide))) ?_
    rintro ⟨⟩ -
    refine Le (Eff.callA (vs := [.agg #[.string (tx ((four a.size ++ four t.size) ++ rowP [⟨0,0,frN a t,ByteArray.empty⟩,⟨0,a.size - bkN a t,bkN a t,ByteArray.empty⟩]))]]) (.string (tx ((four a.size ++ four t.size) ++ rowP [⟨0,0,frN a t,ByteArray.empty⟩,⟨0,a.size - bkN a t,bkN a t,ByteArray.empty⟩]))) rfl Tryz.func43 rfl rfl kr (fun w1 _ => wString (tx ((four a.size ++ four t.size) ++ rowP [⟨0,0,frN a t,ByteArray.empty⟩,⟨0,a.size - bkN a t,bkN a t,ByteArray.empty⟩])) w1)) ?_
    rintro ⟨⟩ -
    refine Lp 1 [] (some [4]) n0 trivial ?_
    refine CfgL.done rfl ?_
    refine Cfg.ret rfl (rs := [.tmp 4]) rfl [.string (tx ((four a.size ++ four t.size) ++ rowP [⟨0,0,frN a t,ByteArray.empty⟩,⟨0,a.size - bkN a t,bkN a t,ByteArray.empty⟩]))] ⟨kr,trivial⟩ (fun w1 hp => ?_)
    have hmp : mkP a t = [⟨0,0,frN a t,ByteArray.empty⟩,⟨0,a.size - bkN a t,bkN a t,ByteArray.empty⟩] := by unfold mkP; rw [if_pos om,if_pos (by unfold mdE; exact c2),if_pos om]; rfl
    exact ⟨by unfold mk; rw [hmp]; rfl,hp.ext⟩
   ·have c4 := (dF c4r)
    refine Cfg.begL rfl ?_
    refine Lp 7 [(dS (.agg #[.string ByteArray.empty]))] (some [7,51,54,57]) (fun S => [(∀ w1,S w1 → (Instr.build 85 #[]).run Tryz.prog w1 = .ok (.agg #[.string ByteArray.empty]) w1)]) ⟨(fun _ _ => kr),trivial⟩ ?_
    refine Le (Eff.buildSlice (e := 69) (cells := #[.int .u32 ((a.size : Int) % 4294967296),.int .u32 ((t.size : Int) % 4294967296)]) (parts := #[(0,.int .u32 ((a.size : Int) % 4294967296)),(1,.int .u32 ((t.size : Int) % 4294967296))]) rfl kr (fun _ => kr)) ?_
    rintro bk11 ⟨hbk11,nbk11⟩
    refine Le (Eff.callA (vs := [.agg #[.string ByteArray.empty],.slice (some ⟨bk11,0,none⟩) 2 2]) (.agg #[.string (tx (four a.size ++ four t.size))]) rfl Tryz.func45 rfl rfl kr (fun w1 h => wFour2 [] a.size t.size bk11 69 w1 om om (by decide) (by have hq := h.own (bk11,.cells #[.int .u32 ((a.size : Int) % 4294967296),.int .u32 ((t.size : Int) % 4294967296)] 69 (0,0)) (mG 0 rfl); rw [hza,hzt] at hq; intro e he; rw [List.mem_singleton.1 he]; exact hq))) ?_
    rintro ⟨⟩ -
    refine Le (Eff.alloc (z := (.agg #[.string ByteArray.empty])) rfl kr) ?_
    rintro ob ⟨hob,nob⟩
    refine Le (Eff.storeN (b := ob) (off := 0) (vs := #[.string (tx (four a.size ++ four t.size))]) (n := 1) rfl kr kr kr rfl (by simp [K.one]) 0 (cs := #[.string ByteArray.empty]) (e := 85) kr (by simp)) ?_
    rintro ⟨⟩ -
    refine CfgL.setO (congrArg (fun (xq : Array Value) => (([(ob,.cells xq 85 (0,0)),(bk11,.cells #[.int .u32 ((a.size : Int) % 4294967296),.int .u32 ((t.size : Int) % 4294967296)] 69 (0,0)),(bk1,.cells (pA ⟨0,0,frN a t,ByteArray.empty⟩) 129 (0,0))] ++ (Own.o 129 ([] ++ (pA ⟨0,0,frN a t,ByteArray.empty⟩).toList) o2 ++ [])) : LO)) (show _ = #[.string (tx (four a.size ++ four t.size))] from rfl)) ?_
    refine CfgL.done rfl ?_
    refine Cg (Γ' := [(9,[],pT ob),(7,[],.slice (Own.a o2) ((0 + 1)) (Own.c o2))]) ?_
    refine Cfg.begL rfl ?_
    refine Lp 2 [(dS (.agg #[.string (tx (four a.size ++ four t.size))]))] (some [60,61]) (fun S => [(∀ w1,S w1 → (loadVar 85 ⟨ob,0,none⟩).run Tryz.prog w1 = .ok (.agg #[.string (tx (four a.size ++ four t.size))]) w1)]) ⟨(fun w1 h => h.oload 0 rfl Tryz.underlying85 rfl (n := 1) kr rfl),trivial⟩ ?_
    refine Le (Eff.callA (vs := [.agg #[.string (tx (four a.size ++ four t.size))],.slice (Own.a o2) ((0 + 1)) (Own.c o2),.func (.func 74) #[] #[]]) (.agg #[.string (tx ((four a.size ++ four t.size) ++ rowP [⟨0,0,frN a t,ByteArray.empty⟩]))]) rfl Tryz.func73 rfl rfl kr (fun w1 h => wRowM (four a.size ++ four t.size) (Own.a o2) (Own.c o2) [⟨0,0,frN a t,ByteArray.empty⟩] (Own.o 129 (pcells [⟨0,0,frN a t,ByteArray.empty⟩]) o2) w1 (own_ins4 (ps := [⟨0,0,frN a t,ByteArray.empty⟩]) ko2) (fun x hx => h.own x (show x ∈ ([(ob,.cells #[.string (tx (four a.size ++ four t.size))] 85 (0,0)),(bk11,.cells #[.int .u32 ((a.size : Int) % 4294967296),.int .u32 ((t.size : Int) % 4294967296)] 69 (0,0)),(bk1,.cells (pA ⟨0,0,frN a t,ByteArray.empty⟩) 129 (0,0))] ++ (Own.o 129 ([] ++ (pA ⟨0,0,frN a t,ByteArray.empty⟩).toList) o2 ++ [])) from mR (mL hx))) (by simp) (List.forall_mem_cons.2 ⟨hP1,fun _ h => by cases h⟩) (by rw [List.length_append,show (four a.size).length = 4 from be_len _ _,show (four t.size).length = 4 from be_len _ _]; decide))) ?_
    rintro ⟨⟩ -
    refine Le (Eff.callA (vs := [.agg #[.string (tx ((four a.size ++ four t.size) ++ rowP [⟨0,0,frN a t,ByteArray.empty⟩]))]]) (.string (tx ((four a.size ++ four t.size) ++ rowP [⟨0,0,frN a t,ByteArray.empty⟩]))) rfl Tryz.func43 rfl rfl kr (fun w1 _ => wString (tx ((four a.size ++ four t.size) ++ rowP [⟨0,0,frN a t,ByteArray.empty⟩])) w1)) ?_
    rintro ⟨⟩ -
    refine Lp 1 [] (some [4]) n0 trivial ?_
    refine CfgL.done rfl ?_
    refine Cfg.ret rfl (rs := [.tmp 4]) rfl [.string (tx ((four a.size ++ four t.size) ++ rowP [⟨0,0,frN a t,ByteArray.empty⟩]))] ⟨kr,trivial⟩ (fun w1 hp => ?_)
    have hmp : mkP a t = [⟨0,0,frN a t,ByteArray.empty⟩] := by unfold mkP; rw [if_pos om,if_pos (by unfold mdE; exact c2),if_neg om]; rfl
    exact ⟨by unfold mk; rw [hmp]; rfl,hp.ext⟩
 ·have c1 := (dF c1r)
  refine Rg [0,1,6,7,8] [] (fun _ => [(i6 ((t.size : Int) - ((bkN a t) : Int))),(0 ≤ ((frN a t) : Int)),(0 ≤ ((t.size : Int) - ((bkN a t) : Int))),(((frN a t)) ≤ (((t.size : Int) - ((bkN a t) : Int))).toNat ∧ (((t.size : Int) - ((bkN a t) : Int))).toNat ≤ t.size)]) ⟨om,om,om,om,trivial⟩ ?_
  refine Cfg.setS 8 (congrArg Value.string (show (t.extract (((frN a t))) ((((t.size : Int) - ((bkN a t) : Int))).toNat)) = (md a t) from md_cut a t)) ?_
  refine Rg [0,1,6,7,8,32] [] n0 trivial ?_
  refine Cfg.cond rfl (b := (!((md a t).toList == (⟨#[]⟩ : ByteArray).toList))) kr (fun c5r => ?_) (fun c5r => ?_)
  ·have c5 : (((md a t).toList == (⟨#[]⟩ : ByteArray).toList) = false) := (notT c5r)
   refine Cfg.begL rfl ?_
   refine Lp 3 [dZ,dZ,(dS (.agg (pA ⟨1,0,0,md a t⟩)))] (some [0,1,6,7,33,35]) (fun S => [(∀ w1,S w1 → (Instr.build 129 #[(0,.int .u8 1),(3,.string (md a t))]).run Tryz.prog w1 = .ok (.agg (pA ⟨1,0,0,md a t⟩)) w1)]) ⟨(fun _ _ => kr),trivial⟩ ?_
   refine Le (Eff.buildAgg (vs := (pA ⟨1,0,0,md a t⟩)) (n := 4) rfl kr Tryz.underlying127 kr (z := (.agg #[.int .u8 0,.int .u32 0,.int .u32 0,.string ByteArray.empty])) kr rfl (by decide) (by decide)) ?_
   rintro bk13 ⟨hbk13,nbk13⟩
   refine Le (Eff.appendF rfl 4 32 Tryz.underlying127 kr (z := (.agg #[.int .u8 0,.int .u32 0,.int .u32 0,.string ByteArray.empty])) kr kr none (xs := []) (OwnOk.none _) kr (b2 := bk13) (off2 := 0) (m := 1) (c2 := 1) kr ((pA ⟨1,0,0,md a t⟩).toList) rfl (all_pA _) [(bk13,.cells (pA ⟨1,0,0,md a t⟩) 129 (0,0))] [] (by rfl) (fun w1 h j v hj => by rw [Nat.zero_add]; exact h.ocell 0 rfl (by rw [← Array.getElem?_toList]; exact hj)) om om) ?_
   rintro o18 ko18
   refine Lp 1 [] (some [0,1,6,7]) n0 trivial ?_
   refine CfgL.done rfl ?_
   refine Rg [0,1,6,7,39] [] n0 trivial ?_
   refine Cfg.cond rfl (b := (decide (((bkN a t) : Int) > (0 : Int)))) kr (fun c6r => ?_) (fun c6r => ?_)
   ·have c6 := (dT c6r)
    refine Cfg.begL rfl ?_
    refine Lp 9 [dZ,dZ,dZ,dZ,dZ,dZ,dZ,dZ,(dS (.agg (pA ⟨0,a.size - bkN a t,bkN a t,ByteArray.empty⟩)))] (some [0,1,7,40,48]) (fun S => [(i6 ((a.size : Int) - ((bkN a t) : Int))),(∀ w1,S w1 → (Instr.build 129 #[(0,.int .u8 0),(1,.int .u32 (((a.size : Int) - ((bkN a t) : Int)) % 4294967296)),(2,.int .u32 (((bkN a t) : Int) % 4294967296))]).run Tryz.prog w1 = .ok (.agg (pA ⟨0,a.size - bkN a t,bkN a t,ByteArray.empty⟩)) w1)]) ⟨om,(fun _ _ => by rw [hma,hmk]; kernel_rfl),trivial⟩ ?_
    refine Le (Eff.buildAgg (vs := (pA ⟨0,a.size - bkN a t,bkN a t,ByteArray.empty⟩)) (n := 4) rfl kr Tryz.underlying127 kr (z := (.agg #[.int .u8 0,.int .u32 0,.int .u32 0,.string ByteArray.empty])) kr rfl (by decide) (by decide)) ?_
    rintro bk14 ⟨hbk14,nbk14⟩
    refine Le (Eff.appendF rfl 4 32 Tryz.underlying127 kr (z := (.agg #[.int .u8 0,.int .u32 0,.int .u32 0,.string ByteArray.empty])) kr kr o18 (xs := ([] ++ (pA ⟨1,0,0,md a t⟩).toList)) ko18 kr (b2 := bk14) (off2 := 0) (m := 1) (c2 := 1) kr ((pA ⟨0,a.size - bkN a t,bkN a t,ByteArray.empty⟩).toList) rfl (all_pA _) [(bk14,.cells (pA ⟨0,a.size - bkN a t,bkN a t,ByteArray.empty⟩) 129 (0,0)),(bk13,.cells (pA ⟨1,0,0,md a t⟩) 129 (0,0))] [] (by rfl) (fun w1 h j v hj => by rw [Nat.zero_add]; exact h.ocell 0 rfl (by rw [← Array.getElem?_toList]; exact hj)) om om) ?_
    rintro o19 ko19
    refine Lp 1 [] (some [0,1,7]) n0 trivial ?_
    refine CfgL.done rfl ?_
    refine Cfg.begL rfl ?_
    refine Lp 7 [(dS (.agg #[.string ByteArray.empty]))] (some [7,51,54,57]) (fun S => [(∀ w1,S w1 → (Instr.build 85 #[]).run Tryz.prog w1 = .ok (.agg #[.string ByteArray.empty]) w1)]) ⟨(fun _ _ => kr),trivial⟩ ?_
    refine Le (Eff.buildSlice (e := 69) (cells := #[.int .u32 ((a.size : Int) % 4294967296),.int .u32 ((t.size : Int) % 4294967296)]) (parts := #[(0,.int .u32 ((a.size : Int) % 4294967296)),(1,.int .u32 ((t.size : Int) % 4294967296))]) rfl kr (fun _ => kr)) ?_
    rintro bk15 ⟨hbk15,nbk15⟩
    refine Le (Eff.callA (vs := [.agg #[.string ByteArray.empty],.slice (some ⟨bk15,0,none⟩) 2 2]) (.agg #[.string (tx (four a.size ++ four t.size))]) rfl Tryz.func45 rfl rfl kr (fun w1 h => wFour2 [] a.size t.size bk15 69 w1 om om (by decide) (by have hq := h.own (bk15,.cells #[.int .u32 ((a.size : Int) % 4294967296),.int .u32 ((t.size : Int) % 4294967296)] 69 (0,0)) (mG 0 rfl); rw [hza,hzt] at hq; intro e he; rw [List.mem_singleton.1 he]; exact hq))) ?_
    rintro ⟨⟩ -
    refine Le (Eff.alloc (z := (.agg #[.string ByteArray.empty])) rfl kr) ?_
    rintro ob ⟨hob,nob⟩
    refine Le (Eff.storeN (b := ob) (off := 0) (vs := #[.string (tx (four a.size ++ four t.size))]) (n := 1) rfl kr kr kr rfl (by simp [K.one]) 0 (cs := #[.string ByteArray.empty]) (e := 85) kr (by simp)) ?_
    rintro ⟨⟩ -
    refine CfgL.setO (congrArg (fun (xq : Array Value) => (([(ob,.cells xq 85 (0,0)),(bk15,.cells #[.int .u32 ((a.size : Int) % 4294967296),.int .u32 ((t.size : Int) % 4294967296)] 69 (0,0)),(bk14,.cells (pA ⟨0,a.size - bkN a t,bkN a t,ByteArray.empty⟩) 129 (0,0)),(bk13,.cells (pA ⟨1,0,0,md a t⟩) 129 (0,0))] ++ (Own.o 129 (([] ++ (pA ⟨1,0,0,md a t⟩).toList) ++ (pA ⟨0,a.size - bkN a t,bkN a t,ByteArray.empty⟩).toList) o19 ++ [])) : LO)) (show _ = #[.string (tx (four a.size ++ four t.size))] from rfl)) ?_
    refine CfgL.done rfl ?_
    refine Cg (Γ' := [(9,[],pT ob),(7,[],.slice (Own.a o19) (((0 + 1) + 1)) (Own.c o19))]) ?_
    refine Cfg.begL rfl ?_
    refine Lp 2 [(dS (.agg #[.string (tx (four a.size ++ four t.size))]))] (some [60,61]) (fun S => [(∀ w1,S w1 → (loadVar 85 ⟨ob,0,none⟩).run Tryz.prog w1 = .ok (.agg #[.string (tx (four a.size ++ four t.size))]) w1)]) ⟨(fun w1 h => h.oload 0 rfl Tryz.underlying85 rfl (n := 1) kr rfl),trivial⟩ ?_
    refine Le (Eff.callA (vs := [.agg #[.string (tx (four a.size ++ four t.size))],.slice (Own.a o19) (((0 + 1) + 1)) (Own.c o19),.func (.func 74) #[] #[]]) (.agg #[.string (tx ((four a.size ++ four t.size) ++ rowP [⟨1,0,0,md a t⟩,⟨0,a.size - bkN a t,bkN a t,ByteArray.empty⟩]))]) rfl Tryz.func73 rfl rfl kr (fun w1 h => wRowM (four a.size ++ four t.size) (Own.a o19) (Own.c o19) [⟨1,0,0,md a t⟩,⟨0,a.size - bkN a t,bkN a t,ByteArray.empty⟩] (Own.o 129 (pcells [⟨1,0,0,md a t⟩,⟨0,a.size - bkN a t,bkN a t,ByteArray.empty⟩]) o19) w1 (own_ins4 (ps := [⟨1,0,0,md a t⟩,⟨0,a.size - bkN a t,bkN a t,ByteArray.empty⟩]) ko19) (fun x hx => h.own x (show x ∈ ([(ob,.cells #[.string (tx (four a.size ++ four t.size))] 85 (0,0)),(bk15,.cells #[.int .u32 ((a.size : Int) % 4294967296),.int .u32 ((t.size : Int) % 4294967296)] 69 (0,0)),(bk14,.cells (pA ⟨0,a.size - bkN a t,bkN a t,ByteArray.empty⟩) 129 (0,0)),(bk13,.cells (pA ⟨1,0,0,md a t⟩) 129 (0,0))] ++ (Own.o 129 (([] ++ (pA ⟨1,0,0,md a t⟩).toList) ++ (pA ⟨0,a.size - bkN a t,bkN a t,ByteArray.empty⟩).toList) o19 ++ [])) from mR (mL hx))) (by simp) (List.forall_mem_cons.2 ⟨hP2,List.forall_mem_cons.2 ⟨hP3,fun _ h => by cases h⟩⟩) (by rw [List.length_append,show (four a.size).length = 4 from be_len _ _,show (four t.size).length = 4 from be_len _ _]; decide))) ?_
    rintro ⟨⟩ -
    refine Le (Eff.callA (vs := [.agg #[.string (tx ((four a.size ++ four t.size) ++ rowP [⟨1,0,0,md a t⟩,⟨0,a.size - bkN a t,bkN a t,ByteArray.empty⟩]))]]) (.string (tx ((four a.size ++ four t.size) ++ rowP [⟨1,0,0,md a t⟩,⟨0,a.size - bkN a t,bkN a t,ByteArray.empty⟩]))) rfl Tryz.func43 rfl rfl kr (fun w1 _ => wString (tx ((four a.size ++ four t.size) ++ rowP [⟨1,0,0,md a t⟩,⟨0,a.size - bkN a t,bkN a t,ByteArray.empty⟩])) w1)) ?_
    rintro ⟨⟩ -
    refine Lp 1 [] (some [4]) n0 trivial ?_
    refine CfgL.done rfl ?_
    refine Cfg.ret rfl (rs := [.tmp 4]) rfl [.string (tx ((four a.size ++ four t.size) ++ rowP [⟨1,0,0,md a t⟩,⟨0,a.size - bkN a t,bkN a t,ByteArray.empty⟩]))] ⟨kr,trivial⟩ (fun w1 hp => ?_)
    have hmp : mkP a t = [⟨1,0,0,md a t⟩,⟨0,a.size - bkN a t,bkN a t,ByteArray.empty⟩] := by unfold mkP; rw [if_neg om,if_neg (by unfold mdE; rw [c5]; exact Bool.false_ne_true),if_pos om]; rfl
    exact ⟨by unfold mk; rw [hmp]; rfl,hp.ext⟩
   ·have c6 := (dF c6r)
    refine Cfg.begL rfl ?_
    refine Lp 7 [(dS (.agg #[.string ByteArray.empty]))] (some [7,51,54,57]) (fun S => [(∀ w1,S w1 → (Instr.build 85 #[]).run Tryz.prog w1 = .ok (.agg #[.string ByteArray.empty]) w1)]) ⟨(fun _ _ => kr),trivial⟩ ?_
    refine Le (Eff.buildSlice (e := 69) (cells := #[.int .u32 ((a.size : Int) % 4294967296),.int .u32 ((t.size : Int) % 4294967296)]) (parts := #[(0,.int .u32 ((a.size : Int) % 4294967296)),(1,.int .u32 ((t.size : Int) % 4294967296))]) rfl kr (fun _ => kr)) ?_
    rintro bk17 ⟨hbk17,nbk17⟩
    refine Le (Eff.callA (vs := [.agg #[.string ByteArray.empty],.slice (some ⟨bk17,0,none⟩) 2 2]) (.agg #[.string (tx (four a.size ++ four t.size))]) rfl Tryz.func45 rfl rfl kr (fun w1 h => wFour2 [] a.size t.size bk17 69 w1 om om (by decide) (by have hq := h.own (bk17,.cells #[.int .u32 ((a.size : Int) % 4294967296),.int .u32 ((t.size : Int) % 4294967296)] 69 (0,0)) (mG 0 rfl); rw [hza,hzt] at hq; intro e he; rw [List.mem_singleton.1 he]; exact hq))) ?_
    rintro ⟨⟩ -
    refine Le (Eff.alloc (z := (.agg #[.string ByteArray.empty])) rfl kr) ?_
    rintro ob ⟨hob,nob⟩
    refine Le (Eff.storeN (b := ob) (off := 0) (vs := #[.string (tx (four a.size ++ four t.size))]) (n := 1) rfl kr kr kr rfl (by simp [K.one]) 0 (cs := #[.string ByteArray.empty]) (e := 85) kr (by simp)) ?_
    rintro ⟨⟩ -
    refine CfgL.setO (congrArg (fun (xq : Array Value) => (([(ob,.cells xq 85 (0,0)),(bk17,.cells #[.int .u32 ((a.size : Int) % 4294967296),.int .u32 ((t.size : Int) % 4294967296)] 69 (0,0)),(bk13,.cells (pA ⟨1,0,0,md a t⟩) 129 (0,0))] ++ (Own.o 129 ([] ++ (pA ⟨1,0,0,md a t⟩).toList) o18 ++ [])) : LO)) (show _ = #[.string (tx (four a.size ++ four t.size))] from rfl)) ?_
    refine CfgL.done rfl ?_
    refine Cg (Γ' := [(9,[],pT ob),(7,[],.slice (Own.a o18) ((0 + 1)) (Own.c o18))]) ?_
    refine Cfg.begL rfl ?_
    refine Lp 2 [(dS (.agg #[.string (tx (four a.size ++ four t.size))]))] (some [60,61]) (fun S => [(∀ w1,S w1 → (loadVar 85 ⟨ob,0,none⟩).run Tryz.prog w1 = .ok (.agg #[.string (tx (four a.size ++ four t.size))]) w1)]) ⟨(fun w1 h => h.oload 0 rfl Tryz.underlying85 rfl (n := 1) kr rfl),trivial⟩ ?_
    refine Le (Eff.callA (vs := [.agg #[.string (tx (four a.size ++ four t.size))],.slice (Own.a o18) ((0 + 1)) (Own.c o18),.func (.func 74) #[] #[]]) (.agg #[.string (tx ((four a.size ++ four t.size) ++ rowP [⟨1,0,0,md a t⟩]))]) rfl Tryz.func73 rfl rfl kr (fun w1 h => wRowM (four a.size ++ four t.size) (Own.a o18) (Own.c o18) [⟨1,0,0,md a t⟩] (Own.o 129 (pcells [⟨1,0,0,md a t⟩]) o18) w1 (own_ins4 (ps := [⟨1,0,0,md a t⟩]) ko18) (fun x hx => h.own x (show x ∈ ([(ob,.cells #[.string (tx (four a.size ++ four t.size))] 85 (0,0)),(bk17,.cells #[.int .u32 ((a.size : Int) % 4294967296),.int .u32 ((t.size : Int) % 4294967296)] 69 (0,0)),(bk13,.cells (pA ⟨1,0,0,md a t⟩) 129 (0,0))] ++ (Own.o 129 ([] ++ (pA ⟨1,0,0,md a t⟩).toList) o18 ++ [])) from mR (mL hx))) (by simp) (List.forall_mem_cons.2 ⟨hP2,fun _ h => by cases h⟩) (by rw [List.length_append,show (four a.size).length = 4 from be_len _ _,show (four t.size).length = 4 from be_len _ _]; decide))) ?_
    rintro ⟨⟩ -
    refine Le (Eff.callA (vs := [.agg #[.string (tx ((four a.size ++ four t.size) ++ rowP [⟨1,0,0,md a t⟩]))]]) (.string (tx ((four a.size ++ four t.size) ++ rowP [⟨1,0,0,md a t⟩]))) rfl Tryz.func43 rfl rfl kr (fun w1 _ => wString (tx ((four a.size ++ four t.size) ++ rowP [⟨1,0,0,md a t⟩])) w1)) ?_
    rintro ⟨⟩ -
    refine Lp 1 [] (some [4]) n0 trivial ?_
    refine CfgL.done rfl ?_
    refine Cfg.ret rfl (rs := [.tmp 4]) rfl [.string (tx ((four a.size ++ four t.size) ++ rowP [⟨1,0,0,md a t⟩]))] ⟨kr,trivial⟩ (fun w1 hp => ?_)
    have hmp : mkP a t = [⟨1,0,0,md a t⟩] := by unfold mkP; rw [if_neg om,if_neg (by unfold mdE; rw [c5]; exact Bool.false_ne_true),if_neg om]; rfl
    exact ⟨by unfold mk; rw [hmp]; rfl,hp.ext⟩
  ·have c5 : (((md a t).toList == (⟨#[]⟩ : ByteArray).toList) = true) := (notF c5r)
   refine Rg [0,1,6,7,39] [] n0 trivial ?_
   refine Cfg.cond rfl (b := (decide (((bkN a t) : Int) > (0 : Int)))) kr (fun c7r => ?_) (fun c7r => ?_)
   ·have c7 := (dT c7r)
    refine Cfg.begL rfl ?_
    refine Lp 9 [dZ,dZ,dZ,dZ,dZ,dZ,dZ,dZ,(dS (.agg (pA ⟨0,a.size - bkN a t,bkN a t,ByteArray.empty⟩)))] (some [0,1,7,40,48]) (fun S => [(i6 ((a.size : Int) - ((bkN a t) : Int))),(∀ w1,S w1 → (Instr.build 129 #[(0,.int .u8 0),(1,.int .u32 (((a.size : Int) - ((bkN a t) : Int)) % 4294967296)),(2,.int .u32 (((bkN a t) : Int) % 4294967296))]).run Tryz.prog w1 = .ok (.agg (pA ⟨0,a.size - bkN a t,bkN a t,ByteArray.empty⟩)) w1)]) ⟨om,(fun _ _ => by rw [hma,hmk]; kernel_rfl),trivial⟩ ?_
    refine Le (Eff.buildAgg (vs := (pA ⟨0,a.size - bkN a t,bkN a t,ByteArray.empty⟩)) (n := 4) rfl kr Tryz.underlying127 kr (z := (.agg #[.int .u8 0,.int .u32 0,.int .u32 0,.string ByteArray.empty])) kr rfl (by decide) (by decide)) ?_
    rintro bk19 ⟨hbk19,nbk19⟩
    refine Le (Eff.appendF rfl 4 32 Tryz.underlying127 kr (z := (.agg #[.int .u8 0,.int .u32 0,.int .u32 0,.string ByteArray.empty])) kr kr none (xs := []) (OwnOk.none _) kr (b2 := bk19) (off2 := 0) (m := 1) (c2 := 1) kr ((pA ⟨0,a.size - bkN a t,bkN a t,ByteArray.empty⟩).toList) rfl (all_pA _) [(bk19,.cells (pA ⟨0,a.size - bkN a t,bkN a t,ByteArray.empty⟩) 129 (0,0))] [] (by rfl) (fun w1 h j v hj => by rw [Nat.zero_add]; exact h.ocell 0 rfl (by rw [← Array.getElem?_toList]; exact hj)) om om) ?_
    rintro o26 ko26
    refine Lp 1 [] (some [0,1,7]) n0 trivial ?_
    refine CfgL.done rfl ?_
    refine Cfg.begL rfl ?_
    refine Lp 7 [(dS (.agg #[.string ByteArray.empty]))] (some [7,51,54,57]) (fun S => [(∀ w1,S w1 → (Instr.build 85 #[]).run Tryz.prog w1 = .ok (.agg #[.string ByteArray.empty]) w1)]) ⟨(fun _ _ => kr),trivial⟩ ?_
    refine Le (Eff.buildSlice (e := 69) (cells := #[.int .u32 ((a.size : Int) % 4294967296),.int .u32 ((t.size : Int) % 4294967296)]) (parts := #[(0,.int .u32 ((a.size : Int) % 4294967296)),(1,.int .u32 ((t.size : Int) % 4294967296))]) rfl kr (fun _ => kr)) ?_
    rintro bk20 ⟨hbk20,nbk20⟩
    refine Le (Eff.callA (vs := [.agg #[.string ByteArray.empty],.slice (some ⟨bk20,0,none⟩) 2 2]) (.agg #[.string (tx (four a.size ++ four t.size))]) rfl Tryz.func45 rfl rfl kr (fun w1 h => wFour2 [] a.size t.size bk20 69 w1 om om (by decide) (by have hq := h.own (bk20,.cells #[.int .u32 ((a.size : Int) % 4294967296),.int .u32 ((t.size : Int) % 4294967296)] 69 (0,0)) (mG 0 rfl); rw [hza,hzt] at hq; intro e he; rw [List.mem_singleton.1 he]; exact hq))) ?_
    rintro ⟨⟩ -
    refine Le (Eff.alloc (z := (.agg #[.string ByteArray.empty])) rfl kr) ?_
    rintro ob ⟨hob,nob⟩
    refine Le (Eff.storeN (b := ob) (off := 0) (vs := #[.string (tx (four a.size ++ four t.size))]) (n := 1) rfl kr kr kr rfl (by simp [K.one]) 0 (cs := #[.string ByteArray.empty]) (e := 85) kr (by simp)) ?_
    rintro ⟨⟩ -
    refine CfgL.setO (congrArg (fun (xq : Array Value) => (([(ob,.cells xq 85 (0,0)),(bk20,.cells #[.int .u32 ((a.size : Int) % 4294967296),.int .u32 ((t.size : Int) % 4294967296)] 69 (0,0)),(bk19,.cells (pA ⟨0,a.size - bkN a t,bkN a t,ByteArray.empty⟩) 129 (0,0))] ++ (Own.o 129 ([] ++ (pA ⟨0,a.size - bkN a t,bkN a t,ByteArray.empty⟩).toList) o26 ++ [])) : LO)) (show _ = #[.string (tx (four a.size ++ four t.size))] from rfl)) ?_
    refine CfgL.done rfl ?_
    refine Cg (Γ' := [(9,[],pT ob),(7,[],.slice (Own.a o26) ((0 + 1)) (Own.c o26))]) ?_
    refine Cfg.begL rfl ?_
    refine Lp 2 [(dS (.agg #[.string (tx (four a.size ++ four t.size))]))] (some [60,61]) (fun S => [(∀ w1,S w1 → (loadVar 85 ⟨ob,0,none⟩).run Tryz.prog w1 = .ok (.agg #[.string (tx (four a.size ++ four t.size))]) w1)]) ⟨(fun w1 h => h.oload 0 rfl Tryz.underlying85 rfl (n := 1) kr rfl),trivial⟩ ?_
    refine Le (Eff.callA (vs := [.agg #[.string (tx (four a.size ++ four t.size))],.slice (Own.a o26) ((0 + 1)) (Own.c o26),.func (.func 74) #[] #[]]) (.agg #[.string (tx ((four a.size ++ four t.size) ++ rowP [⟨0,a.size - bkN a t,bkN a t,ByteArray.empty⟩]))]) rfl Tryz.func73 rfl rfl kr (fun w1 h => wRowM (four a.size ++ four t.size) (Own.a o26) (Own.c o26) [⟨0,a.size - bkN a t,bkN a t,ByteArray.empty⟩] (Own.o 129 (pcells [⟨0,a.size - bkN a t,bkN a t,ByteArray.empty⟩]) o26) w1 (own_ins4 (ps := [⟨0,a.size - bkN a t,bkN a t,ByteArray.empty⟩]) ko26) (fun x hx => h.own x (show x ∈ ([(ob,.cells #[.string (tx (four a.size ++ four t.size))] 85 (0,0)),(bk20,.cells #[.int .u32 ((a.size : Int) % 4294967296),.int .u32 ((t.size : Int) % 4294967296)] 69 (0,0)),(bk19,.cells (pA ⟨0,a.size - bkN a t,bkN a t,ByteArray.empty⟩) 129 (0,0))] ++ (Own.o 129 ([] ++ (pA ⟨0,a.size - bkN a t,bkN a t,ByteArray.empty⟩).toList) o26 ++ [])) from mR (mL hx))) (by simp) (List.forall_mem_cons.2 ⟨hP3,fun _ h => by cases h⟩) (by rw [List.length_append,show (four a.size).length = 4 from be_len _ _,show (four t.size).length = 4 from be_len _ _]; decide))) ?_
    rintro ⟨⟩ -
    refine Le (Eff.callA (vs := [.agg #[.string (tx ((four a.size ++ four t.size) ++ rowP [⟨0,a.size - bkN a t,bkN a t,ByteArray.empty⟩]))]]) (.string (tx ((four a.size ++ four t.size) ++ rowP [⟨0,a.size - bkN a t,bkN a t,ByteArray.empty⟩]))) rfl Tryz.func43 rfl rfl kr (fun w1 _ => wString (tx ((four a.size ++ four t.size) ++ rowP [⟨0,a.size - bkN a t,bkN a t,ByteArray.empty⟩])) w1)) ?_
    rintro ⟨⟩ -
    refine Lp 1 [] (some [4]) n0 trivial ?_
    refine CfgL.done rfl ?_
    refine Cfg.ret rfl (rs := [.tmp 4]) rfl [.string (tx ((four a.size ++ four t.size) ++ rowP [⟨0,a.size - bkN a t,bkN a t,ByteArray.empty⟩]))] ⟨kr,trivial⟩ (fun w1 hp => ?_)
    have hmp : mkP a t = [⟨0,a.size - bkN a t,bkN a t,ByteArray.empty⟩] := by unfold mkP; rw [if_neg om,if_pos (by unfold mdE; exact c5),if_pos om]; rfl
    exact ⟨by unfold mk; rw [hmp]; rfl,hp.ext⟩
   ·have c7 := (dF c7r)
    refine Cfg.begL rfl ?_
    refine Lp 7 [(dS (.agg #[.string ByteArray.empty]))] (some [7,51,54,57]) (fun S => [(∀ w1,S w1 → (Instr.build 85 #[]).run Tryz.prog w1 = .ok (.agg #[.string ByteArray.empty]) w1)]) ⟨(fun _ _ => kr),trivial⟩ ?_
    refine Le (Eff.buildSlice (e := 69) (cells := #[.int .u32 ((a.size : Int) % 4294967296),.int .u32 ((t.size : Int) % 4294967296)]) (parts := #[(0,.int .u32 ((a.size : Int) % 4294967296)),(1,.int .u32 ((t.size : Int) % 4294967296))]) rfl kr (fun _ => kr)) ?_
    rintro bk22 ⟨hbk22,nbk22⟩
    refine Le (Eff.callA (vs := [.agg #[.string ByteArray.empty],.slice (some ⟨bk22,0,none⟩) 2 2]) (.agg #[.string (tx (four a.size ++ four t.size))]) rfl Tryz.func45 rfl rfl kr (fun w1 h => wFour2 [] a.size t.size bk22 69 w1 om om (by decide) (by have hq := h.own (bk22,.cells #[.int .u32 ((a.size : Int) % 4294967296),.int .u32 ((t.size : Int) % 4294967296)] 69 (0,0)) (mG 0 rfl); rw [hza,hzt] at hq; intro e he; rw [List.mem_singleton.1 he]; exact hq))) ?_
    rintro ⟨⟩ -
    refine Le (Eff.alloc (z := (.agg #[.string ByteArray.empty])) rfl kr) ?_
    rintro ob ⟨hob,nob⟩
    refine Le (Eff.storeN (b := ob) (off := 0) (vs := #[.string (tx (four a.size ++ four t.size))]) (n := 1) rfl kr kr kr rfl (by simp [K.one]) 0 (cs := #[.string ByteArray.empty]) (e := 85) kr (by simp)) ?_
    rintro ⟨⟩ -
    refine CfgL.setO (congrArg (fun (xq : Array Value) => ([(ob,.cells xq 85 (0,0)),(bk22,.cells #[.int .u32 ((a.size : Int) % 4294967296),.int .u32 ((t.size : Int) % 4294967296)] 69 (0,0))] : LO)) (show _ = #[.string (tx (four a.size ++ four t.size))] from rfl)) ?_
    refine CfgL.done rfl ?_
    refine Cg (Γ' := [(9,[],pT ob),(7,[],.slice none 0 0)]) ?_
    refine Cfg.begL rfl ?_
    refine Lp 2 [(dS (.agg #[.string (tx (four a.size ++ four t.size))]))] (some [60,61]) (fun S => [(∀ w1,S w1 → (loadVar 85 ⟨ob,0,none⟩).run Tryz.prog w1 = .ok (.agg #[.string (tx (four a.size ++ four t.size))]) w1)]) ⟨(fun w1 h => h.oload 0 rfl Tryz.underlying85 rfl (n := 1) kr rfl),trivial⟩ ?_
    refine Le (Eff.callA (vs := [.agg #[.string (tx (four a.size ++ four t.size))],.slice none 0 0,.func (.func 74) #[] #[]]) (.agg #[.string (tx ((four a.size ++ four t.size) ++ rowP []))]) rfl Tryz.func73 rfl rfl kr (fun w1 h => wRowM (four a.size ++ four t.size) none 0 [] [] w1 (fun h => absurd h (by simp)) (fun _ h => by cases h) (by simp) (fun _ h => by cases h) (by rw [List.length_append,show (four a.size).length = 4 from be_len _ _,show (four t.size).length = 4 from be_len _ _]; decide))) ?_
    rintro ⟨⟩ -
    refine Le (Eff.callA (vs := [.agg #[.string (tx ((four a.size ++ four t.size) ++ rowP []))]]) (.string (tx ((four a.size ++ four t.size) ++ rowP []))) rfl Tryz.func43 rfl rfl kr (fun w1 _ => wString (tx ((four a.size ++ four t.size) ++ rowP [])) w1)) ?_
    rintro ⟨⟩ -
    refine Lp 1 [] (some [4]) n0 trivial ?_
    refine CfgL.done rfl ?_
    refine Cfg.ret rfl (rs := [.tmp 4]) rfl [.string (tx ((four a.size ++ four t.size) ++ rowP []))] ⟨kr,trivial⟩ (fun w1 hp => ?_)
    have hmp : mkP a t = [] := by unfold mkP; rw [if_neg om,if_pos (by unfold mdE; exact c5),if_neg om]; rfl
    exact ⟨by unfold mk; rw [hmp]; rfl,hp.ext⟩
set_option maxRecDepth 100000 in
theorem rMake (a t : ByteArray) (w : World) (ha : a.size ≤ 10000000) (ht : t.size ≤ 10000000) :
  Calls Tryz.prog 21 #[.string a,.string t] w fun e w' => e = .returned (.string (tx (mk a t))) ∧ Ext [] w w' := by
 have hfb := fb_le a t
 have hms := md_size a t
 have hme := mdE_eq a t
 refine enter (vs := [.string a,.string t]) [] [] [] Tryz.func21 rfl kr (HP.start w) ?_
 refine Rg [0,1] [] n0 trivial ?_
 refine Cfg.begL rfl ?_
 refine Lp 2 [] none n0 trivial ?_
 refine Le (Eff.callA (vs := [.string a,.string t]) (.tuple #[.int .i64 ((frN a t) : Int),.int .i64 ((bkN a t) : Int)]) rfl Tryz.func51 rfl rfl kr (fun w1 _ => rAlike a t w1 (by unfold maxLen; omega) (by unfold maxLen; omega))) ?_
 rintro ⟨⟩ -
 refine Lp 5 [] (some [0,1,5,6]) n0 trivial ?_
 refine CfgL.done rfl ?_
 refine Rg [0,1,5,6,7] [] n0 trivial ?_
 refine Rg [0,1,5,6,7,8] [] n0 trivial ?_
 refine Rg [0,1,5,6,7,8,16] [] n0 trivial ?_
 refine Cfg.cond rfl (b := (decide (((frN a t) : Int) > (0 : Int)))) kr (fun c1r => ?_) (fun c1r => ?_)
 ·have c1 := (dT c1r)
  refine Cfg.begL rfl ?_
  refine Lp 2 [] (some [0,1,5,6,7,8,18]) (fun _ => [(0 + 1 ≤ 9223372036854775807)]) ⟨om,trivial⟩ ?_
  refine Le (Eff.callA (vs := [.int .u64 0,.int .i64 4]) (.string (beS 0 4)) rfl Tryz.func20 rfl rfl kr (fun w1 _ => rNum 0 4 w1 (by decide) (by decide))) ?_
  rintro ⟨⟩ -
  refine CfgL.pure 3 [] (some [0,1,5,6,7,8,20,22]) (Γ' := [(22,[],.int .u64 (((frN a t) : Int) % 18446744073709551616)),(20,[],.string (((⟨#[]⟩ : ByteArray) ++ (⟨#[0]⟩ : ByteArray)) ++ (beS 0 4))),(8,[],.string ⟨#[]⟩),(7,[],.int .i64 0),(6,[],.int .i64 ((bkN a t) : Int)),(5,[],.int .i64 ((frN a t) : Int)),(0,[],.string a),(1,[],.string t)]) (nd := (fun _ => [(((⟨#[]⟩ : ByteArray) ++ (⟨#[0]⟩ : ByteArray)).size + (beS 0 4).size ≤ 9223372036854775807)])) kr (fun _ => kr) ⟨(by simp only [ByteArray.size_append,beS_size,sz_nil,sz0]; omega),trivial⟩ ?_
  refine Le (Eff.callA (vs := [.int .u64 (((frN a t) : Int) % 18446744073709551616),.int .i64 4]) (.string (beS (frN a t) 4)) rfl Tryz.func20 rfl rfl kr (fun w1 _ => by rw [show (((frN a t) : Int) % 18446744073709551616) = ((frN a t) : Nat) by omega]; exact rNum (frN a t) 4 w1 om (by decide))) ?_
  rintro ⟨⟩ -
  refine Lp 2 [] (some [0,1,5,6,7,8]) (fun _ => [((((⟨#[]⟩ : ByteArray) ++ (⟨#[0]⟩ : ByteArray)) ++ (beS 0 4)).size + (beS (frN a t) 4).size ≤ 9223372036854775807)]) ⟨(by simp only [ByteArray.size_append,beS_size,sz_nil,sz0]; omega),trivial⟩ ?_
  refine CfgL.done rfl ?_
  refine Rg [0,1,5,6,7,8] [] (fun _ => [(i6 (1 : Int))]) ⟨om,trivial⟩ ?_
  refine Rg [0,1,5,6,7,8,32] [] (fun _ => [(i6 (((frN a t) : Int) + ((bkN a t) : Int)))]) ⟨om,trivial⟩ ?_
  refine Cfg.cond rfl (b := (decide ((((frN a t) : Int) + ((bkN a t) : Int)) < (t.size : Int)))) kr (fun c2r => ?_) (fun c2r => ?_)
  ·have c2 := (dT c2r)
   refine Cfg.begL rfl ?_
   refine Lp 9 [] (some [0,1,6,7,8,34,41]) (fun _ => [(((((⟨#[]⟩ : ByteArray) ++ (⟨#[0]⟩ : ByteArray)) ++ (beS 0 4)) ++ (beS (frN a t) 4)).size + 1 ≤ 9223372036854775807),(i6 ((t.size : Int) - ((bkN a t) : Int))),(0 ≤ ((frN a t) : Int)),(0 ≤ ((t.size : Int) - ((bkN a t) : Int))),(((frN a t)) ≤ (((t.size : Int) - ((bkN a t) : Int))).toNat ∧ (((t.size : Int) - ((bkN a t) : Int))).toNat ≤ t.size)]) ⟨(by simp only [ByteArray.size_append,beS_size,sz_nil,sz0]; omega),om,om,om,om,trivial⟩ ?_
   refine Le (Eff.callA (vs := [.string (t.extract (((frN a t))) ((((t.size : Int) - ((bkN a t) : Int))).toNat))]) (.string (tx (text4 (md a t)))) rfl Tryz.func22 rfl rfl kr (fun w1 _ => by rw [md_cut]; exact rText (md a t) w1 om)) ?_
   rintro ⟨⟩ -
   refine Lp 2 [] (some [0,1,6,7,8]) (fun _ => [((((((⟨#[]⟩ : ByteArray) ++ (⟨#[0]⟩ : ByteArray)) ++ (beS 0 4)) ++ (beS (frN a t) 4)) ++ (⟨#[1]⟩ : ByteArray)).size + (tx (text4 (md a t))).size ≤ 9223372036854775807)]) ⟨(by simp only [ByteArray.size_append,beS_size,tx_size,text4_len,sz_nil,sz0,sz1]; omega),trivial⟩ ?_
   refine CfgL.done rfl ?_
   refine Rg [0,1,6,7,8] [] (fun _ => [(i6 (2 : Int))]) ⟨om,trivial⟩ ?_
   refine Rg [0,1,6,7,8,47] [] n0 trivial ?_
   refine Cfg.cond rfl (b := (decide (((bkN a t) : Int) > (0 : Int)))) kr (fun c3r => ?_) (fun c3r => ?_)
   ·have c3 := (dT c3r)
    refine Cfg.begL rfl ?_
    refine CfgL.pure 7 [] (some [0,1,6,7,8,49,54]) (Γ' := [(54,[],.int .u64 (((a.size : Int) - ((bkN a t) : Int)) % 18446744073709551616)),(49,[],.string (((((((⟨#[]⟩ : ByteArray) ++ (⟨#[0]⟩ : ByteArray)) ++ (beS 0 4)) ++ (beS (frN a t) 4)) ++ (⟨#[1]⟩ : ByteArray)) ++ (tx (text4 (md a t)))) ++ (⟨#[0]⟩ : ByteArray))),(7,[],.int .i64 2),(8,[],.string ((((((⟨#[]⟩ : ByteArray) ++ (⟨#[0]⟩ : ByteArray)) ++ (beS 0 4)) ++ (beS (frN a t) 4)) ++ (⟨#[1]⟩ : ByteArray)) ++ (tx (text4 (md a t))))),(6,[],.int .i64 ((bkN a t) : Int)),(0,[],.string a),(1,[],.string t)]) (nd := (fun _ => [(((((((⟨#[]⟩ : ByteArray) ++ (⟨#[0]⟩ : ByteArray)) ++ (beS 0 4)) ++ (beS (frN a t) 4)) ++ (⟨#[1]⟩ : ByteArray)) ++ (tx (text4 (md a t)))).size + 1 ≤ 9223372036854775807),(i6 ((a.size : Int) - ((bkN a t) : Int)))])) kr (fun _ => kr) ⟨(by simp only [ByteArray.size_append,beS_size,tx_size,text4_len,sz_nil,sz0,sz1]; omega),om,trivial⟩ ?_
    refine Le (Eff.callA (vs := [.int .u64 (((a.size : Int) - ((bkN a t) : Int)) % 18446744073709551616),.int .i64 4]) (.string (beS (a.size - bkN a t) 4)) rfl Tryz.func20 rfl rfl kr (fun w1 _ => by rw [show (((a.size : Int) - ((bkN a t) : Int)) % 18446744073709551616) = ((a.size - bkN a t) : Nat) by omega]; exact rNum (a.size - bkN a t) 4 w1 om (by decide))) ?_
    rintro ⟨⟩ -
    refine Lp 3 [] (some [0,1,7,8,56,58]) (fun _ => [((((((((⟨#[]⟩ : ByteArray) ++ (⟨#[0]⟩ : ByteArray)) ++ (beS 0 4)) ++ (beS (frN a t) 4)) ++ (⟨#[1]⟩ : ByteArray)) ++ (tx (text4 (md a t)))) ++ (⟨#[0]⟩ : ByteArray)).size + (beS (a.size - bkN a t) 4).size ≤ 9223372036854775807)]) ⟨(by simp only [ByteArray.size_append,beS_size,tx_size,text4_len,sz_nil,sz0,sz1]; omega),trivial⟩ ?_
    refine Le (Eff.callA (vs := [.int .u64 (((bkN a t) : Int) % 18446744073709551616),.int .i64 4]) (.string (beS (bkN a t) 4)) rfl Tryz.func20 rfl rfl kr (fun w1 _ => by rw [show (((bkN a t) : Int) % 18446744073709551616) = ((bkN a t) : Nat) by omega]; exact rNum (bkN a t) 4 w1 om (by decide))) ?_
    rintro ⟨⟩ -
    refine Lp 2 [] (some [0,1,7,8]) (fun _ => [(((((((((⟨#[]⟩ : ByteArray) ++ (⟨#[0]⟩ : ByteArray)) ++ (beS 0 4)) ++ (beS (frN a t) 4)) ++ (⟨#[1]⟩ : ByteArray)) ++ (tx (text4 (md a t)))) ++ (⟨#[0]⟩ : ByteArray)) ++ (beS (a.size - bkN a t) 4)).size + (beS (bkN a t) 4).size ≤ 9223372036854775807)]) ⟨(by simp only [ByteArray.size_append,beS_size,tx_size,text4_len,sz_nil,sz0,sz1]; omega),trivial⟩ ?_
    refine CfgL.done rfl ?_
    refine Rg [0,1,7,8] [] (fun _ => [(i6 (3 : Int))]) ⟨om,trivial⟩ ?_
    refine Cfg.begL rfl ?_
    refine Lp 3 [] (some [1,7,8,65]) n0 trivial ?_
    refine Le (Eff.callA (vs := [.int .u64 ((a.size : Int) % 18446744073709551616),.int .i64 4]) (.string (beS a.size 4)) rfl Tryz.func20 rfl rfl kr (fun w1 _ => by rw [show ((a.size : Int) % 18446744073709551616) = (a.size : Nat) by omega]; exact rNum a.size 4 w1 om (by decide))) ?_
    rintro ⟨⟩ -
    refine Lp 3 [] (some [7,8,66,69]) n0 trivial ?_
    refine Le (Eff.callA (vs := [.int .u64 ((t.size : Int) % 18446744073709551616),.int .i64 4]) (.string (beS t.size 4)) rfl Tryz.func20 rfl rfl kr (fun w1 _ => by rw [show ((t.size : Int) % 18446744073709551616) = (t.size : Nat) by omega]; exact rNum t.size 4 w1 om (by decide))) ?_
    rintro ⟨⟩ -
    refine Lp 3 [] (some [8,71,73]) (fun _ => [((beS a.size 4).size + (beS t.size 4).size ≤ 9223372036854775807)]) ⟨(by simp only [beS_size]; omega),trivial⟩ ?_
    refine Le (Eff.callA (vs := [.int .u64 3,.int .i64 4]) (.string (beS 3 4)) rfl Tryz.func20 rfl rfl kr (fun w1 _ => rNum 3 4 w1 (by decide) (by decide))) ?_
    rintro ⟨⟩ -
    refine Lp 4 [] (some [4]) (fun _ => [(((beS a.size 4) ++ (beS t.size 4)).size + (beS 3 4).size ≤ 9223372036854775807),((((beS a.size 4) ++ (beS t.size 4)) ++ (beS 3 4)).size + (((((((((⟨#[]⟩ : ByteArray) ++ (⟨#[0]⟩ : ByteArray)) ++ (beS 0 4)) ++ (beS (frN a t) 4)) ++ (⟨#[1]⟩ : ByteArray)) ++ (tx (text4 (md a t)))) ++ (⟨#[0]⟩ : ByteArray)) ++ (beS (a.size - bkN a t) 4)) ++ (beS (bkN a t) 4)).size ≤ 9223372036854775807)]) ⟨(by simp only [ByteArray.size_append,beS_size]; omega),(by simp only [ByteArray.size_append,beS_size,tx_size,text4_len,sz_nil,sz0,sz1]; omega),trivial⟩ ?_
    refine CfgL.done rfl ?_
    refine Cfg.ret rfl (rs := [.tmp 4]) rfl [.string ((((beS a.size 4) ++ (beS t.size 4)) ++ (beS 3 4)) ++ (((((((((⟨#[]⟩ : ByteArray) ++ (⟨#[0]⟩ : ByteArray)) ++ (beS 0 4)) ++ (beS (frN a t) 4)) ++ (⟨#[1]⟩ : ByteArray)) ++ (tx (text4 (md a t)))) ++ (⟨#[0]⟩ : ByteArray)) ++ (beS (a.size - bkN a t) 4)) ++ (beS (bkN a t) 4)))] ⟨kr,trivial⟩ (fun w1 hp => ?_)
    have hmp : mkP a t = [⟨0,0,frN a t,ByteArray.empty⟩,⟨1,0,0,md a t⟩,⟨0,a.size - bkN a t,bkN a t,ByteArray.empty⟩] := by unfold mkP; rw [if_pos om,if_neg (by rw [hme,decide_eq_false om]; exact Bool.false_ne_true),if_pos om]; rfl
    exact ⟨congrArg (fun x => Ending.returned (.string x)) (ba_eq (by unfold mk; rw [hmp]; simp [rowP,flat,four,beS_list,tx_list,layP_copy,layP_new])),hp.ext⟩
   ·have c3 := (dF c3r)
    refine Cfg.begL rfl ?_
    refine CfgL.pure 3 [] (some [1,7,8,65]) (Γ' := [(65,[],.int .u64 ((a.size : Int) % 18446744073709551616)),(7,[],.int .i64 2),(8,[],.string ((((((⟨#[]⟩ : ByteArray) ++ (⟨#[0]⟩ : ByteArray)) ++ (beS 0 4)) ++ (beS (frN a t) 4)) ++ (⟨#[1]⟩ : ByteArray)) ++ (tx (text4 (md a t))))),(1,[],.string t)]) (nd := (fun _ => [])) kr (fun _ => kr) trivial ?_
    refine Le (Eff.callA (vs := [.int .u64 ((a.size : Int) % 18446744073709551616),.int .i64 4]) (.string (beS a.size 4)) rfl Tryz.func20 rfl rfl kr (fun w1 _ => by rw [show ((a.size : Int) % 18446744073709551616) = (a.size : Nat) by omega]; exact rNum a.size 4 w1 om (by decide))) ?_
    rintro ⟨⟩ -
    refine Lp 3 [] (some [7,8,66,69]) n0 trivial ?_
    refine Le (Eff.callA (vs := [.int .u64 ((t.size : Int) % 18446744073709551616),.int .i64 4]) (.string (beS t.size 4)) rfl Tryz.func20 rfl rfl kr (fun w1 _ => by rw [show ((t.size : Int) % 18446744073709551616) = (t.size : Nat) by omega]; exact rNum t.size 4 w1 om (by decide))) ?_
    rintro ⟨⟩ -
    refine Lp 3 [] (some [8,71,73]) (fun _ => [((beS a.size 4).size + (beS t.size 4).size ≤ 9223372036854775807)]) ⟨(by simp only [beS_size]; omega),trivial⟩ ?_
    refine Le (Eff.callA (vs := [.int .u64 2,.int .i64 4]) (.string (beS 2 4)) rfl Tryz.func20 rfl rfl kr (fun w1 _ => rNum 2 4 w1 (by decide) (by decide))) ?_
    rintro ⟨⟩ -
    refine Lp 4 [] (some [4]) (fun _ => [(((beS a.size 4) ++ (beS t.size 4)).size + (beS 2 4).size ≤ 9223372036854775807),((((beS a.size 4) ++ (beS t.size 4)) ++ (beS 2 4)).size + ((((((⟨#[]⟩ : ByteArray) ++ (⟨#[0]⟩ : ByteArray)) ++ (beS 0 4)) ++ (beS (frN a t) 4)) ++ (⟨#[1]⟩ : ByteArray)) ++ (tx (text4 (md a t)))).size ≤ 9223372036854775807)]) ⟨(by simp only [ByteArray.size_append,beS_size]; omega),(by simp only [ByteArray.size_append,beS_size,tx_size,text4_len,sz_nil,sz0,sz1]; omega),trivial⟩ ?_
    refine CfgL.done rfl ?_
    refine Cfg.ret rfl (rs := [.tmp 4]) rfl [.string ((((beS a.size 4) ++ (beS t.size 4)) ++ (beS 2 4)) ++ ((((((⟨#[]⟩ : ByteArray) ++ (⟨#[0]⟩ : ByteArray)) ++ (beS 0 4)) ++ (beS (frN a t) 4)) ++ (⟨#[1]⟩ : ByteArray)) ++ (tx (text4 (md a t)))))] ⟨kr,trivial⟩ (fun w1 hp => ?_)
    have hmp : mkP a t = [⟨0,0,frN a t,ByteArray.empty⟩,⟨1,0,0,md a t⟩] := by unfold mkP; rw [if_pos om,if_neg (by rw [hme,decide_eq_false om]; exact Bool.false_ne_true),if_neg om]; rfl
    exact ⟨congrArg (fun x => Ending.returned (.string x)) (ba_eq (by unfold mk; rw [hmp]; simp [rowP,flat,four,beS_list,tx_list,layP_copy,layP_new])),hp.ext⟩
  ·have c2 := (dF c2r)
   refine Rg [0,1,6,7,8,47] [] n0 trivial ?_
   refine Cfg.cond rfl (b := (decide (((bkN a t) : Int) > (0 : Int)))) kr (fun c4r => ?_) (fun c4r => ?_)
   ·have c4 := (dT c4r)
    refine Cfg.begL rfl ?_
    refine Lp 7 [] (some [0,1,6,7,8,49,54]) (fun _ => [(((((⟨#[]⟩ : ByteArray) ++ (⟨#[0]⟩ : ByteArray)) ++ (beS 0 4)) ++ (beS (frN a t) 4)).size + 1 ≤ 9223372036854775807),(i6 ((a.size : Int) - ((bkN a t) : Int)))]) ⟨(by simp only [ByteArray.size_append,beS_size,sz_nil,sz0]; omega),om,trivial⟩ ?_
    refine Le (Eff.callA (vs := [.int .u64 (((a.size : Int) - ((bkN a t) : Int)) % 18446744073709551616),.int .i64 4]) (.string (beS (a.size - bkN a t) 4)) rfl Tryz.func20 rfl rfl kr (fun w1 _ => by rw [show (((a.size : Int) - ((bkN a t) : Int)) % 18446744073709551616) = ((a.size - bkN a t) : Nat) by omega]; exact rNum (a.size - bkN a t) 4 w1 om (by decide))) ?_
    rintro ⟨⟩ -
    refine Lp 3 [] (some [0,1,7,8,56,58]) (fun _ => [((((((⟨#[]⟩ : ByteArray) ++ (⟨#[0]⟩ : ByteArray)) ++ (beS 0 4)) ++ (beS (frN a t) 4)) ++ (⟨#[0]⟩ : ByteArray)).size + (beS (a.size - bkN a t) 4).size ≤ 9223372036854775807)]) ⟨(by simp only [ByteArray.size_append,beS_size,sz_nil,sz0]; omega),trivial⟩ ?_
    refine Le (Eff.callA (vs := [.int .u64 (((bkN a t) : Int) % 18446744073709551616),.int .i64 4]) (.string (beS (bkN a t) 4)) rfl Tryz.func20 rfl rfl kr (fun w1 _ => by rw [show (((bkN a t) : Int) % 18446744073709551616) = ((bkN a t) : Nat) by omega]; exact rNum (bkN a t) 4 w1 om (by decide))) ?_
    rintro ⟨⟩ -
    refine Lp 2 [] (some [0,1,7,8]) (fun _ => [(((((((⟨#[]⟩ : ByteArray) ++ (⟨#[0]⟩ : ByteArray)) ++ (beS 0 4)) ++ (beS (frN a t) 4)) ++ (⟨#[0]⟩ : ByteArray)) ++ (beS (a.size - bkN a t) 4)).size + (beS (bkN a t) 4).size ≤ 9223372036854775807)]) ⟨(by simp only [ByteArray.size_append,beS_size,sz_nil,sz0]; omega),trivial⟩ ?_
    refine CfgL.done rfl ?_
    refine Cfg.reg rfl [0,1,7,8] [] (Γ' := [(7,[],.int .i64 2),(8,[],.string (((((((⟨#[]⟩ : ByteArray) ++ (⟨#[0]⟩ : ByteArray)) ++ (beS 0 4)) ++ (beS (frN a t) 4)) ++ (⟨#[0]⟩ : ByteArray)) ++ (beS (a.size - bkN a t) 4)) ++ (beS (bkN a t) 4))),(0,[],.string a),(1,[],.string t)]) (nd := (fun _ => [(i6 (2 : Int))])) (fun _ => kr) ⟨om,trivial⟩ ?_
    refine Cfg.begL rfl ?_
    refine Lp 3 [] (some [1,7,8,65]) n0 trivial ?_
    refine Le (Eff.callA (vs := [.int .u64 ((a.size : Int) % 18446744073709551616),.int .i64 4]) (.string (beS a.size 4)) rfl Tryz.func20 rfl rfl kr (fun w1 _ => by rw [show ((a.size : Int) % 18446744073709551616) = (a.size : Nat) by omega]; exact rNum a.size 4 w1 om (by decide))) ?_
    rintro ⟨⟩ -
    refine Lp 3 [] (some [7,8,66,69]) n0 trivial ?_
    refine Le (Eff.callA (vs := [.int .u64 ((t.size : Int) % 18446744073709551616),.int .i64 4]) (.string (beS t.size 4)) rfl Tryz.func20 rfl rfl kr (fun w1 _ => by rw [show ((t.size : Int) % 18446744073709551616) = (t.size : Nat) by omega]; exact rNum t.size 4 w1 om (by decide))) ?_
    rintro ⟨⟩ -
    refine Lp 3 [] (some [8,71,73]) (fun _ => [((beS a.size 4).size + (beS t.size 4).size ≤ 9223372036854775807)]) ⟨(by simp only [beS_size]; omega),trivial⟩ ?_
    refine Le (Eff.callA (vs := [.int .u64 2,.int .i64 4]) (.string (beS 2 4)) rfl Tryz.func20 rfl rfl kr (fun w1 _ => rNum 2 4 w1 (by decide) (by decide))) ?_
    rintro ⟨⟩ -
    refine Lp 4 [] (some [4]) (fun _ => [(((beS a.size 4) ++ (beS t.size 4)).size + (beS 2 4).size ≤ 9223372036854775807),((((beS a.size 4) ++ (beS t.size 4)) ++ (beS 2 4)).size + (((((((⟨#[]⟩ : ByteArray) ++ (⟨#[0]⟩ : ByteArray)) ++ (beS 0 4)) ++ (beS (frN a t) 4)) ++ (⟨#[0]⟩ : ByteArray)) ++ (beS (a.size - bkN a t) 4)) ++ (beS (bkN a t) 4)).size ≤ 9223372036854775807)]) ⟨(by simp only [ByteArray.size_append,beS_size]; omega),(by simp only [ByteArray.size_append,beS_size,sz_nil,sz0]; omega),trivial⟩ ?_
    refine CfgL.done rfl ?_
    refine Cfg.ret rfl (rs := [.tmp 4]) rfl [.string ((((beS a.size 4) ++ (beS t.size 4)) ++ (beS 2 4)) ++ (((((((⟨#[]⟩ : ByteArray) ++ (⟨#[0]⟩ : ByteArray)) ++ (beS 0 4)) ++ (beS (frN a t) 4)) ++ (⟨#[0]⟩ : ByteArray)) ++ (beS (a.size - bkN a t) 4)) ++ (beS (bkN a t) 4)))] ⟨kr,trivial⟩ (fun w1 hp => ?_)
    have hmp : mkP a t = [⟨0,0,frN a t,ByteArray.empty⟩,⟨0,a.size - bkN a t,bkN a t,ByteArray.empty⟩] := by unfold mkP; rw [if_pos om,if_pos (by rw [hme,decide_eq_true om]),if_pos om]; rfl
    exact ⟨congrArg (fun x => Ending.returned (.string x)) (ba_eq (by unfold mk; rw [hmp]; simp [rowP,flat,four,beS_list,tx_list,layP_copy])),hp.ext⟩
   ·have c4 := (dF c4r)
    refine Cfg.begL rfl ?_
    refine Lp 3 [] (some [1,7,8,65]) n0 trivial ?_
    refine Le (Eff.callA (vs := [.int .u64 ((a.size : Int) % 18446744073709551616),.int .i64 4]) (.string (beS a.size 4)) rfl Tryz.func20 rfl rfl kr (fun w1 _ => by rw [show ((a.size : Int) % 18446744073709551616) = (a.size : Nat) by omega]; exact rNum a.size 4 w1 om (by decide))) ?_
    rintro ⟨⟩ -
    refine Lp 3 [] (some [7,8,66,69]) n0 trivial ?_
    refine Le (Eff.callA (vs := [.int .u64 ((t.size : Int) % 18446744073709551616),.int .i64 4]) (.string (beS t.size 4)) rfl Tryz.func20 rfl rfl kr (fun w1 _ => by rw [show ((t.size : Int) % 18446744073709551616) = (t.size : Nat) by omega]; exact rNum t.size 4 w1 om (by decide))) ?_
    rintro ⟨⟩ -
    refine Lp 3 [] (some [8,71,73]) (fun _ => [((beS a.size 4).size + (beS t.size 4).size ≤ 9223372036854775807)]) ⟨(by simp only [beS_size]; omega),trivial⟩ ?_
    refine Le (Eff.callA (vs := [.int .u64 1,.int .i64 4]) (.string (beS 1 4)) rfl Tryz.func20 rfl rfl kr (fun w1 _ => rNum 1 4 w1 (by decide) (by decide))) ?_
    rintro ⟨⟩ -
    refine CfgL.pure 4 [] (some [4]) (Γ' := [(4,[],.string ((((beS a.size 4) ++ (beS t.size 4)) ++ (beS 1 4)) ++ ((((⟨#[]⟩ : ByteArray) ++ (⟨#[0]⟩ : ByteArray)) ++ (beS 0 4)) ++ (beS (frN a t) 4))))]) (nd := (fun _ => [(((beS a.size 4) ++ (beS t.size 4)).size + (beS 1 4).size ≤ 9223372036854775807),((((beS a.size 4) ++ (beS t.size 4)) ++ (beS 1 4)).size + ((((⟨#[]⟩ : ByteArray) ++ (⟨#[0]⟩ : ByteArray)) ++ (beS 0 4)) ++ (beS (frN a t) 4)).size ≤ 9223372036854775807)])) kr (fun _ => kr) ⟨(by simp only [ByteArray.size_append,beS_size]; omega),(by simp only [ByteArray.size_append,beS_size,sz_nil,sz0]; omega),trivial⟩ ?_
    refine CfgL.done rfl ?_
    refine Cfg.ret rfl (rs := [.tmp 4]) rfl [.string ((((beS a.size 4) ++ (beS t.size 4)) ++ (beS 1 4)) ++ ((((⟨#[]⟩ : ByteArray) ++ (⟨#[0]⟩ : ByteArray)) ++ (beS 0 4)) ++ (beS (frN a t) 4)))] ⟨kr,trivial⟩ (fun w1 hp => ?_)
    have hmp : mkP a t = [⟨0,0,frN a t,ByteArray.empty⟩] := by unfold mkP; rw [if_pos om,if_pos (by rw [hme,decide_eq_true om]),if_neg om]; rfl
    exact ⟨congrArg (fun x => Ending.returned (.string x)) (ba_eq (by unfold mk; rw [hmp]; simp [rowP,flat,four,beS_list,tx_list,layP_copy])),hp.ext⟩
 ·have c1 := (dF c1r)
  refine Rg [0,1,5,6,7,8,32] [] (fun _ => [(i6 (((frN a t) : Int) + ((bkN a t) : Int)))]) ⟨om,trivial⟩ ?_
  refine Cfg.cond rfl (b := (decide ((((frN a t) : Int) + ((bkN a t) : Int)) < (t.size : Int)))) kr (fun c5r => ?_) (fun c5r => ?_)
  ·have c5 := (dT c5r)
   refine Cfg.begL rfl ?_
   refine Lp 9 [] (some [0,1,6,7,8,34,41]) (fun _ => [(0 + 1 ≤ 9223372036854775807),(i6 ((t.size : Int) - ((bkN a t) : Int))),(0 ≤ ((frN a t) : Int)),(0 ≤ ((t.size : Int) - ((bkN a t) : Int))),(((frN a t)) ≤ (((t.size : Int) - ((bkN a t) : Int))).toNat ∧ (((t.size : Int) - ((bkN a t) : Int))).toNat ≤ t.size)]) ⟨om,om,om,om,om,trivial⟩ ?_
   refine Le (Eff.callA (vs := [.string (t.extract (((frN a t))) ((((t.size : Int) - ((bkN a t) : Int))).toNat))]) (.string (tx (text4 (md a t)))) rfl Tryz.func22 rfl rfl kr (fun w1 _ => by rw [md_cut]; exact rText (md a t) w1 om)) ?_
   rintro ⟨⟩ -
   refine Lp 2 [] (some [0,1,6,7,8]) (fun _ => [(((⟨#[]⟩ : ByteArray) ++ (⟨#[1]⟩ : ByteArray)).size + (tx (text4 (md a t))).size ≤ 9223372036854775807)]) ⟨(by simp only [ByteArray.size_append,tx_size,text4_len,sz_nil,sz1]; omega),trivial⟩ ?_
   refine CfgL.done rfl ?_
   refine Rg [0,1,6,7,8] [] (fun _ => [(i6 (1 : Int))]) ⟨om,trivial⟩ ?_
   refine Rg [0,1,6,7,8,47] [] n0 trivial ?_
   refine Cfg.cond rfl (b := (decide (((bkN a t) : Int) > (0 : Int)))) kr (fun c6r => ?_) (fun c6r => ?_)
   ·have c6 := (dT c6r)
    refine Cfg.begL rfl ?_
    refine Lp 7 [] (some [0,1,6,7,8,49,54]) (fun _ => [((((⟨#[]⟩ : ByteArray) ++ (⟨#[1]⟩ : ByteArray)) ++ (tx (text4 (md a t)))).size + 1 ≤ 9223372036854775807),(i6 ((a.size : Int) - ((bkN a t) : Int)))]) ⟨(by simp only [ByteArray.size_append,tx_size,text4_len,sz_nil,sz1]; omega),om,trivial⟩ ?_
    refine Le (Eff.callA (vs := [.int .u64 (((a.size : Int) - ((bkN a t) : Int)) % 18446744073709551616),.int .i64 4]) (.string (beS (a.size - bkN a t) 4)) rfl Tryz.func20 rfl rfl kr (fun w1 _ => by rw [show (((a.size : Int) - ((bkN a t) : Int)) % 18446744073709551616) = ((a.size - bkN a t) : Nat) by omega]; exact rNum (a.size - bkN a t) 4 w1 om (by decide))) ?_
    rintro ⟨⟩ -
    refine Lp 3 [] (some [0,1,7,8,56,58]) (fun _ => [(((((⟨#[]⟩ : ByteArray) ++ (⟨#[1]⟩ : ByteArray)) ++ (tx (text4 (md a t)))) ++ (⟨#[0]⟩ : ByteArray)).size + (beS (a.size - bkN a t) 4).size ≤ 9223372036854775807)]) ⟨(by simp only [ByteArray.size_append,beS_size,tx_size,text4_len,sz_nil,sz0,sz1]; omega),trivial⟩ ?_
    refine Le (Eff.callA (vs := [.int .u64 (((bkN a t) : Int) % 18446744073709551616),.int .i64 4]) (.string (beS (bkN a t) 4)) rfl Tryz.func20 rfl rfl kr (fun w1 _ => by rw [show (((bkN a t) : Int) % 18446744073709551616) = ((bkN a t) : Nat) by omega]; exact rNum (bkN a t) 4 w1 om (by decide))) ?_
    rintro ⟨⟩ -
    refine CfgL.pure 2 [] (some [0,1,7,8]) (Γ' := [(8,[],.string ((((((⟨#[]⟩ : ByteArray) ++ (⟨#[1]⟩ : ByteArray)) ++ (tx (text4 (md a t)))) ++ (⟨#[0]⟩ : ByteArray)) ++ (beS (a.size - bkN a t) 4)) ++ (beS (bkN a t) 4))),(7,[],.int .i64 1),(0,[],.string a),(1,[],.string t)]) (nd := (fun _ => [((((((⟨#[]⟩ : ByteArray) ++ (⟨#[1]⟩ : ByteArray)) ++ (tx (text4 (md a t)))) ++ (⟨#[0]⟩ : ByteArray)) ++ (beS (a.size - bkN a t) 4)).size + (beS (bkN a t) 4).size ≤ 9223372036854775807)])) kr (fun _ => kr) ⟨(by simp only [ByteArray.size_append,beS_size,tx_size,text4_len,sz_nil,sz0,sz1]; omega),trivial⟩ ?_
    refine CfgL.done rfl ?_
    refine Rg [0,1,7,8] [] (fun _ => [(i6 (2 : Int))]) ⟨om,trivial⟩ ?_
    refine Cfg.begL rfl ?_
    refine Lp 3 [] (some [1,7,8,65]) n0 trivial ?_
    refine Le (Eff.callA (vs := [.int .u64 ((a.size : Int) % 18446744073709551616),.int .i64 4]) (.string (beS a.size 4)) rfl Tryz.func20 rfl rfl kr (fun w1 _ => by rw [show ((a.size : Int) % 18446744073709551616) = (a.size : Nat) by omega]; exact rNum a.size 4 w1 om (by decide))) ?_
    rintro ⟨⟩ -
    refine Lp 3 [] (some [7,8,66,69]) n0 trivial ?_
    refine Le (Eff.callA (vs := [.int .u64 ((t.size : Int) % 18446744073709551616),.int .i64 4]) (.string (beS t.size 4)) rfl Tryz.func20 rfl rfl kr (fun w1 _ => by rw [show ((t.size : Int) % 18446744073709551616) = (t.size : Nat) by omega]; exact rNum t.size 4 w1 om (by decide))) ?_
    rintro ⟨⟩ -
    refine Lp 3 [] (some [8,71,73]) (fun _ => [((beS a.size 4).size + (beS t.size 4).size ≤ 9223372036854775807)]) ⟨(by simp only [beS_size]; omega),trivial⟩ ?_
    refine Le (Eff.callA (vs := [.int .u64 2,.int .i64 4]) (.string (beS 2 4)) rfl Tryz.func20 rfl rfl kr (fun w1 _ => rNum 2 4 w1 (by decide) (by decide))) ?_
    rintro ⟨⟩ -
    refine Lp 4 [] (some [4]) (fun _ => [(((beS a.size 4) ++ (beS t.size 4)).size + (beS 2 4).size ≤ 9223372036854775807),((((beS a.size 4) ++ (beS t.size 4)) ++ (beS 2 4)).size + ((((((⟨#[]⟩ : ByteArray) ++ (⟨#[1]⟩ : ByteArray)) ++ (tx (text4 (md a t)))) ++ (⟨#[0]⟩ : ByteArray)) ++ (beS (a.size - bkN a t) 4)) ++ (beS (bkN a t) 4)).size ≤ 9223372036854775807)]) ⟨(by simp only [ByteArray.size_append,beS_size]; omega),(by simp only [ByteArray.size_append,beS_size,tx_size,text4_len,sz_nil,sz0,sz1]; omega),trivial⟩ ?_
    refine CfgL.done rfl ?_
    refine Cfg.ret rfl (rs := [.tmp 4]) rfl [.string ((((beS a.size 4) ++ (beS t.size 4)) ++ (beS 2 4)) ++ ((((((⟨#[]⟩ : ByteArray) ++ (⟨#[1]⟩ : ByteArray)) ++ (tx (text4 (md a t)))) ++ (⟨#[0]⟩ : ByteArray)) ++ (beS (a.size - bkN a t) 4)) ++ (beS (bkN a t) 4)))] ⟨kr,trivial⟩ (fun w1 hp => ?_)
    have hmp : mkP a t = [⟨1,0,0,md a t⟩,⟨0,a.size - bkN a t,bkN a t,ByteArray.empty⟩] := by unfold mkP; rw [if_neg om,if_neg (by rw [hme,decide_eq_false om]; exact Bool.false_ne_true),if_pos om]; rfl
    exact ⟨congrArg (fun x => Ending.returned (.string x)) (ba_eq (by unfold mk; rw [hmp]; simp [rowP,flat,four,beS_list,tx_list,layP_copy,layP_new])),hp.ext⟩
   ·have c6 := (dF c6r)
    refine Cfg.begL rfl ?_
    refine Lp 3 [] (some [1,7,8,65]) n0 trivial ?_
    refine Le (Eff.callA (vs := [.int .u64 ((a.size : Int) % 18446744073709551616),.int .i64 4]) (.string (beS a.size 4)) rfl Tryz.func20 rfl rfl kr (fun w1 _ => by rw [show ((a.size : Int) % 18446744073709551616) = (a.size : Nat) by omega]; exact rNum a.size 4 w1 om (by decide))) ?_
    rintro ⟨⟩ -
    refine Lp 3 [] (some [7,8,66,69]) n0 trivial ?_
    refine Le (Eff.callA (vs := [.int .u64 ((t.size : Int) % 18446744073709551616),.int .i64 4]) (.string (beS t.size 4)) rfl Tryz.func20 rfl rfl kr (fun w1 _ => by rw [show ((t.size : Int) % 18446744073709551616) = (t.size : Nat) by omega]; exact rNum t.size 4 w1 om (by decide))) ?_
    rintro ⟨⟩ -
    refine CfgL.pure 3 [] (some [8,71,73]) (Γ' := [(73,[],.int .u64 1),(71,[],.string ((beS a.size 4) ++ (beS t.size 4))),(8,[],.string (((⟨#[]⟩ : ByteArray) ++ (⟨#[1]⟩ : ByteArray)) ++ (tx (text4 (md a t)))))]) (nd := (fun _ => [((beS a.size 4).size + (beS t.size 4).size ≤ 9223372036854775807)])) kr (fun _ => kr) ⟨(by simp only [beS_size]; omega),trivial⟩ ?_
    refine Le (Eff.callA (vs := [.int .u64 1,.int .i64 4]) (.string (beS 1 4)) rfl Tryz.func20 rfl rfl kr (fun w1 _ => rNum 1 4 w1 (by decide) (by decide))) ?_
    rintro ⟨⟩ -
    refine Lp 4 [] (some [4]) (fun _ => [(((beS a.size 4) ++ (beS t.size 4)).size + (beS 1 4).size ≤ 9223372036854775807),((((beS a.size 4) ++ (beS t.size 4)) ++ (beS 1 4)).size + (((⟨#[]⟩ : ByteArray) ++ (⟨#[1]⟩ : ByteArray)) ++ (tx (text4 (md a t)))).size ≤ 9223372036854775807)]) ⟨(by simp only [ByteArray.size_append,beS_size]; omega),(by simp only [ByteArray.size_append,beS_size,tx_size,text4_len,sz_nil,sz1]; omega),trivial⟩ ?_
    refine CfgL.done rfl ?_
    refine Cfg.ret rfl (rs := [.tmp 4]) rfl [.string ((((beS a.size 4) ++ (beS t.size 4)) ++ (beS 1 4)) ++ (((⟨#[]⟩ : ByteArray) ++ (⟨#[1]⟩ : ByteArray)) ++ (tx (text4 (md a t)))))] ⟨kr,trivial⟩ (fun w1 hp => ?_)
    have hmp : mkP a t = [⟨1,0,0,md a t⟩] := by unfold mkP; rw [if_neg om,if_neg (by rw [hme,decide_eq_false om]; exact Bool.false_ne_true),if_neg om]; rfl
    exact ⟨congrArg (fun x => Ending.returned (.string x)) (ba_eq (by unfold mk; rw [hmp]; simp [rowP,flat,four,beS_list,tx_list,layP_new])),hp.ext⟩
  ·have c5 := (dF c5r)
   refine Rg [0,1,6,7,8,47] [] n0 trivial ?_
   refine Cfg.cond rfl (b := (decide (((bkN a t) : Int) > (0 : Int)))) kr (fun c7r => ?_) (fun c7r => ?_)
   ·have c7 := (dT c7r)
    refine Cfg.begL rfl ?_
    refine Lp 7 [] (some [0,1,6,7,8,49,54]) (fun _ => [(0 + 1 ≤ 9223372036854775807),(i6 ((a.size : Int) - ((bkN a t) : Int)))]) ⟨om,om,trivial⟩ ?_
    refine Le (Eff.callA (vs := [.int .u64 (((a.size : Int) - ((bkN a t) : Int)) % 18446744073709551616),.int .i64 4]) (.string (beS (a.size - bkN a t) 4)) rfl Tryz.func20 rfl rfl kr (fun w1 _ => by rw [show (((a.size : Int) - ((bkN a t) : Int)) % 18446744073709551616) = ((a.size - bkN a t) : Nat) by omega]; exact rNum (a.size - bkN a t) 4 w1 om (by decide))) ?_
    rintro ⟨⟩ -
    refine Lp 3 [] (some [0,1,7,8,56,58]) (fun _ => [(((⟨#[]⟩ : ByteArray) ++ (⟨#[0]⟩ : ByteArray)).size + (beS (a.size - bkN a t) 4).size ≤ 9223372036854775807)]) ⟨(by simp only [ByteArray.size_append,beS_size,sz_nil,sz0]; omega),trivial⟩ ?_
    refine Le (Eff.callA (vs := [.int .u64 (((bkN a t) : Int) % 18446744073709551616),.int .i64 4]) (.string (beS (bkN a t) 4)) rfl Tryz.func20 rfl rfl kr (fun w1 _ => by rw [show (((bkN a t) : Int) % 18446744073709551616) = ((bkN a t) : Nat) by omega]; exact rNum (bkN a t) 4 w1 om (by decide))) ?_
    rintro ⟨⟩ -
    refine Lp 2 [] (some [0,1,7,8]) (fun _ => [((((⟨#[]⟩ : ByteArray) ++ (⟨#[0]⟩ : ByteArray)) ++ (beS (a.size - bkN a t) 4)).size + (beS (bkN a t) 4).size ≤ 9223372036854775807)]) ⟨(by simp only [ByteArray.size_append,beS_size,sz_nil,sz0]; omega),trivial⟩ ?_
    refine CfgL.done rfl ?_
    refine Rg [0,1,7,8] [] (fun _ => [(i6 (1 : Int))]) ⟨om,trivial⟩ ?_
    refine Cfg.begL rfl ?_
    refine Lp 3 [] (some [1,7,8,65]) n0 trivial ?_
    refine Le (Eff.callA (vs := [.int .u64 ((a.size : Int) % 18446744073709551616),.int .i64 4]) (.string (beS a.size 4)) rfl Tryz.func20 rfl rfl kr (fun w1 _ => by rw [show ((a.size : Int) % 18446744073709551616) = (a.size : Nat) by omega]; exact rNum a.size 4 w1 om (by decide))) ?_
    rintro ⟨⟩ -
    refine CfgL.pure 3 [] (some [7,8,66,69]) (Γ' := [(69,[],.int .u64 ((t.size : Int) % 18446744073709551616)),(66,[],.string (beS a.size 4)),(7,[],.int .i64 1),(8,[],.string ((((⟨#[]⟩ : ByteArray) ++ (⟨#[0]⟩ : ByteArray)) ++ (beS (a.size - bkN a t) 4)) ++ (beS (bkN a t) 4)))]) (nd := (fun _ => [])) kr (fun _ => kr) trivial ?_
    refine Le (Eff.callA (vs := [.int .u64 ((t.size : Int) % 18446744073709551616),.int .i64 4]) (.string (beS t.size 4)) rfl Tryz.func20 rfl rfl kr (fun w1 _ => by rw [show ((t.size : Int) % 18446744073709551616) = (t.size : Nat) by omega]; exact rNum t.size 4 w1 om (by decide))) ?_
    rintro ⟨⟩ -
    refine Lp 3 [] (some [8,71,73]) (fun _ => [((beS a.size 4).size + (beS t.size 4).size ≤ 9223372036854775807)]) ⟨(by simp only [beS_size]; omega),trivial⟩ ?_
    refine Le (Eff.callA (vs := [.int .u64 1,.int .i64 4]) (.string (beS 1 4)) rfl Tryz.func20 rfl rfl kr (fun w1 _ => rNum 1 4 w1 (by decide) (by decide))) ?_
    rintro ⟨⟩ -
    refine Lp 4 [] (some [4]) (fun _ => [(((beS a.size 4) ++ (beS t.size 4)).size + (beS 1 4).size ≤ 9223372036854775807),((((beS a.size 4) ++ (beS t.size 4)) ++ (beS 1 4)).size + ((((⟨#[]⟩ : ByteArray) ++ (⟨#[0]⟩ : ByteArray)) ++ (beS (a.size - bkN a t) 4)) ++ (beS (bkN a t) 4)).size ≤ 9223372036854775807)]) ⟨(by simp only [ByteArray.size_append,beS_size]; omega),(by simp only [ByteArray.size_append,beS_size,sz_nil,sz0]; omega),trivial⟩ ?_
    refine CfgL.done rfl ?_
    refine Cfg.ret rfl (rs := [.tmp 4]) rfl [.string ((((beS a.size 4) ++ (beS t.size 4)) ++ (beS 1 4)) ++ ((((⟨#[]⟩ : ByteArray) ++ (⟨#[0]⟩ : ByteArray)) ++ (beS (a.size - bkN a t) 4)) ++ (beS (bkN a t) 4)))] ⟨kr,trivial⟩ (fun w1 hp => ?_)
    have hmp : mkP a t = [⟨0,a.size - bkN a t,bkN a t,ByteArray.empty⟩] := by unfold mkP; rw [if_neg om,if_pos (by rw [hme,decide_eq_true om]),if_pos om]; rfl
    exact ⟨congrArg (fun x => Ending.returned (.string x)) (ba_eq (by unfold mk; rw [hmp]; simp [rowP,flat,four,beS_list,tx_list,layP_copy])),hp.ext⟩
   ·have c7 := (dF c7r)
    refine Cfg.begL rfl ?_
    refine Lp 3 [] (some [1,7,8,65]) n0 trivial ?_
    refine Le (Eff.callA (vs := [.int .u64 ((a.size : Int) % 18446744073709551616),.int .i64 4]) (.string (beS a.size 4)) rfl Tryz.func20 rfl rfl kr (fun w1 _ => by rw [show ((a.size : Int) % 18446744073709551616) = (a.size : Nat) by omega]; exact rNum a.size 4 w1 om (by decide))) ?_
    rintro ⟨⟩ -
    refine Lp 3 [] (some [7,8,66,69]) n0 trivial ?_
    refine Le (Eff.callA (vs := [.int .u64 ((t.size : Int) % 18446744073709551616),.int .i64 4]) (.string (beS t.size 4)) rfl Tryz.func20 rfl rfl kr (fun w1 _ => by rw [show ((t.size : Int) % 18446744073709551616) = (t.size : Nat) by omega]; exact rNum t.size 4 w1 om (by decide))) ?_
    rintro ⟨⟩ -
    refine Lp 3 [] (some [8,71,73]) (fun _ => [((beS a.size 4).size + (beS t.size 4).size ≤ 9223372036854775807)]) ⟨(by simp only [beS_size]; omega),trivial⟩ ?_
    refine Le (Eff.callA (vs := [.int .u64 0,.int .i64 4]) (.string (beS 0 4)) rfl Tryz.func20 rfl rfl kr (fun w1 _ => rNum 0 4 w1 (by decide) (by decide))) ?_
    rintro ⟨⟩ -
    refine Lp 4 [] (some [4]) (fun _ => [(((beS a.size 4) ++ (beS t.size 4)).size + (beS 0 4).size ≤ 9223372036854775807),((((beS a.size 4) ++ (beS t.size 4)) ++ (beS 0 4)).size + 0 ≤ 9223372036854775807)]) ⟨(by simp only [ByteArray.size_append,beS_size]; omega),(by simp only [ByteArray.size_append,beS_size]; omega),trivial⟩ ?_
    refine CfgL.done rfl ?_
    refine Cfg.ret rfl (rs := [.tmp 4]) rfl [.string ((((beS a.size 4) ++ (beS t.size 4)) ++ (beS 0 4)) ++ (⟨#[]⟩ : ByteArray))] ⟨kr,trivial⟩ (fun w1 hp => ?_)
    have hmp : mkP a t = [] := by unfold mkP; rw [if_neg om,if_pos (by rw [hme,decide_eq_true om]),if_neg om]; rfl
    exact ⟨congrArg (fun x => Ending.returned (.string x)) (ba_eq (by unfold mk; rw [hmp]; simp [rowP,flat,four,beS_list,tx_list])),hp.ext⟩
end Go.Proofs.YtbeegepcdglcaaaGreatDoor
namespace Go.Proofs.YtbeegepcdglcaaaGreatDoor
open K
set_option linter.unusedVariables false
theorem boundF_le (z : IN) {most e : Int} {m : Nat} (h : most ≤ (m : Int)) : (boundF z most e).1 ≤ m := by
 unfold boundF
 by_cases h0 : (fourF z).1 > (if 0 > most then 0 else most).toNat
 ·rw [if_pos h0]; exact Nat.zero_le _
 ·rw [if_neg h0]
  have : (if 0 > most then 0 else most).toNat ≤ m := by split <;> omega
  omega
theorem rowsF_succ {β : Type} {tk : IN → β × IN} {k : Nat} {z : IN} {acc : List β} (h : ¬ (tk z).2.er ≠ 0) : rowsF tk (k + 1) z acc = rowsF tk k (tk z).2 (acc ++ [(tk z).1]) := if_neg h
theorem rowsF_fail {β : Type} {tk : IN → β × IN} {k : Nat} {z : IN} {acc : List β} (h : (tk z).2.er ≠ 0) : rowsF tk (k + 1) z acc = ([],(tk z).2) := if_pos h
def rowsT {β : Type} (tk : IN → β × IN) (z : IN) (most : Int) : List β × IN := rowsF tk (boundF z most 6).1 (boundF z most 6).2 []
structure RowAt {β : Type} (tk : IN → β × IN) (n : Nat) (z0 : IN) (i : Nat) (z : IN) (acc : List β) : Prop where
 le : i ≤ n
 len : acc.length = i
 rest : rowsF tk (n - i) z acc = rowsF tk n z0 []
theorem RowAt.start {β : Type} (tk : IN → β × IN) (n : Nat) (z0 : IN) : RowAt tk n z0 0 z0 [] := ⟨Nat.zero_le _,rfl,by rw [Nat.sub_zero]⟩
theorem RowAt.next {β : Type} {tk : IN → β × IN} {n i : Nat} {z0 z : IN} {acc : List β} (h : RowAt tk n z0 i z acc) (hi : i < n) (he : (tk z).2.er = 0) : RowAt tk n z0 (i + 1) (tk z).2 (acc ++ [(tk z).1]) :=
 ⟨hi,by rw [List.length_append,h.len]; rfl,by rw [← h.rest,show n - i = (n - (i + 1)) + 1 by omega,rowsF_succ om]⟩
theorem RowAt.fail {β : Type} {tk : IN → β × IN} {n i : Nat} {z0 z : IN} {acc : List β} (h : RowAt tk n z0 i z acc) (hi : i < n) (he : (tk z).2.er ≠ 0) : rowsF tk n z0 [] = ([],(tk z).2) := by
 rw [← h.rest,show n - i = (n - (i + 1)) + 1 by omega,rowsF_fail he]
theorem RowAt.done {β : Type} {tk : IN → β × IN} {n : Nat} {z0 z : IN} {acc : List β} (h : RowAt tk n z0 n z acc) : rowsF tk n z0 [] = (acc,z) := by
 rw [← h.rest,Nat.sub_self]; rfl
def takeP (z : IN) : PT × IN :=
 if (byteF z).1 = 0 then (⟨0,(fourF (byteF z).2).1,(fourF (fourF (byteF z).2).2).1,ByteArray.empty⟩,(fourF (fourF (byteF z).2).2).2)
 else if (byteF z).1 = 1 then (⟨1,0,0,tx (textF (byteF z).2 32768).1⟩,(textF (byteF z).2 32768).2)
 else (⟨(byteF z).1,0,0,ByteArray.empty⟩,failF (byteF z).2 11)
theorem byteF_lt (z : IN) : (byteF z).1 < 256 := Nat.mod_lt _ (by decide)
theorem textF_len (z : IN) (m : Nat) : (textF z (m : Int)).1.length ≤ m := by
 unfold textF
 exact Nat.le_trans (nextF_len _ _) (boundF_le z (Int.le_refl _))
theorem takeP_ok (z : IN) : PtOk 32768 (takeP z).1 := by
 unfold takeP
 have h1 := byteF_lt z
 have h2 := fourF_lt (byteF z).2
 have h3 := fourF_lt (fourF (byteF z).2).2
 split
 ·exact ⟨⟨by show 0 < 256; decide,h2,h3⟩,Nat.zero_le _⟩
 ·split
  ·exact ⟨⟨by show 1 < 256; decide,by show 0 < 4294967296; decide,by show 0 < 4294967296; decide⟩,by show (tx _).size ≤ _; rw [tx_size]; exact textF_len (byteF z).2 32768⟩
  ·exact ⟨⟨h1,by show 0 < 4294967296; decide,by show 0 < 4294967296; decide⟩,Nat.zero_le _⟩
theorem rowsF_all {β : Type} {tk : IN → β × IN} {p : β → Prop} (h : ∀ z,p (tk z).1) : ∀ (k : Nat) (z : IN) (acc : List β),(∀ x ∈ acc,p x) → ∀ x ∈ (rowsF tk k z acc).1,p x
 | 0,z,acc,ha => ha
 | k + 1,z,acc,ha => by
  unfold rowsF
  split
  ·intro x hx; cases hx
  ·exact rowsF_all h k _ _ (fun x hx => by
    rcases List.mem_append.1 hx with hx | hx
    ·exact ha x hx
    ·rw [List.mem_singleton.1 hx]; exact h z)
theorem rowsF_le {β : Type} {tk : IN → β × IN} : ∀ (k : Nat) (z : IN) (acc : List β),(rowsF tk k z acc).1.length ≤ acc.length + k
 | 0,z,acc => Nat.le_refl _
 | k + 1,z,acc => by
  unfold rowsF
  split
  ·exact Nat.zero_le _
  ·have := rowsF_le (tk := tk) k (tk z).2 (acc ++ [(tk z).1])
   rw [List.length_append,List.length_singleton] at this; omega
def aZ (l : List UInt8) : IN := (fourF (fourF ⟨0,l⟩).2).2
def aFrom (l : List UInt8) : Nat := (fourF ⟨0,l⟩).1
def aMost (l : List UInt8) : Nat := (fourF (fourF ⟨0,l⟩).2).1
def aRow (l : List UInt8) : List PT × IN := rowsT takeP (aZ l) 64
def aEnd (l : List UInt8) : Int := endF (aRow l).2
theorem aRow_ok (l : List UInt8) : ∀ p ∈ (aRow l).1,PtOk 32768 p := rowsF_all (p := PtOk 32768) takeP_ok _ _ [] (fun _ h => by cases h)
theorem aRow_len (l : List UInt8) : (aRow l).1.length ≤ 64 := by
 have h1 := rowsF_le (tk := takeP) (boundF (aZ l) 64 6).1 (boundF (aZ l) 64 6).2 []
 have h2 := boundF_le (aZ l) (most := 64) (e := 6) (m := 64) (Int.le_refl _)
 unfold aRow rowsT
 rw [List.length_nil] at h1; omega
def pieceF (a : ByteArray) (p : PT) : ByteArray := if p.kind = 0 then a.extract p.pat (p.pat + p.n) else p.text
def applyP (a : ByteArray) : List PT → List UInt8 → Int × List UInt8
 | [],acc => (0,acc)
 | p :: ps,acc => if p.kind = 0 ∧ a.size < p.pat + p.n then (31,[]) else if acc.length + (pieceF a p).size > 32768 then (5,[]) else applyP a ps (acc ++ (pieceF a p).data.toList)
def applyF (a : ByteArray) (l : List UInt8) : List UInt8 × Int :=
 if aEnd l ≠ 0 then ([],aEnd l) else if a.size ≠ aFrom l then ([],31) else if (applyP a (aRow l).1 []).1 ≠ 0 then ([],(applyP a (aRow l).1 []).1)
 else if (applyP a (aRow l).1 []).2.length ≠ aMost l then ([],4) else ((applyP a (aRow l).1 []).2,0)
theorem piece_le (a : ByteArray) {p : PT} (h : PtOk 32768 p) : (pieceF a p).size ≤ a.size + 32768 := by
 unfold pieceF
 have := h.2
 split
 ·rw [ByteArray.size_extract]; omega
 ·omega
theorem drop_get {ps : List PT} {i : Nat} (h : i < ps.length) : ps.drop i = ps.getD i PT0 :: ps.drop (i + 1) := by
 rw [List.drop_eq_getElem_cons h,List.getD_eq_getElem?_getD,List.getElem?_eq_getElem h]; rfl
theorem applyP_far (a : ByteArray) {ps : List PT} {i : Nat} (h : i < ps.length) (acc : List UInt8) (hk : (ps.getD i PT0).kind = 0) (hf : a.size < (ps.getD i PT0).pat + (ps.getD i PT0).n) : applyP a (ps.drop i) acc = (31,[]) := by
 rw [drop_get h,applyP,if_pos ⟨hk,hf⟩]
theorem applyP_long (a : ByteArray) {ps : List PT} {i : Nat} (h : i < ps.length) (acc : List UInt8) (hk : ¬ ((ps.getD i PT0).kind = 0 ∧ a.size < (ps.getD i PT0).pat + (ps.getD i PT0).n)) (hl : acc.length + (pieceF a (ps.getD i PT0)).size > 32768) : applyP a (ps.drop i) acc = (5,[]) := by
 rw [drop_get h,applyP,if_neg hk,if_pos hl]
theorem applyP_next (a : ByteArray) {ps : List PT} {i : Nat} (h : i < ps.length) (acc : List UInt8) (hk : ¬ ((ps.getD i PT0).kind = 0 ∧ a.size < (ps.getD i PT0).pat + (ps.getD i PT0).n)) (hl : ¬ acc.length + (pieceF a (ps.getD i PT0)).size > 32768) : applyP a (ps.drop i) acc = applyP a (ps.drop (i + 1)) (acc ++ (pieceF a (ps.getD i PT0)).data.toList) := by
 rw [drop_get h,applyP,if_neg hk,if_neg hl]
theorem applyF_end {a : ByteArray} {l : List UInt8} (h : aEnd l ≠ 0) : applyF a l = ([],aEnd l) := if_pos h
theorem applyF_base {a : ByteArray} {l : List UInt8} (h : ¬ aEnd l ≠ 0) (h2 : a.size ≠ aFrom l) : applyF a l = ([],31) := (if_neg h).trans (if_pos h2)
theorem applyF_bad {a : ByteArray} {l : List UInt8} (h : ¬ aEnd l ≠ 0) (h2 : ¬ a.size ≠ aFrom l) {x : Int} (h3 : applyP a (aRow l).1 [] = (x,[])) (hx : x ≠ 0) : applyF a l = ([],x) := by
 unfold applyF
 rw [if_neg h,if_neg h2,h3,if_pos hx]
theorem applyF_form {a : ByteArray} {l acc : List UInt8} (h : ¬ aEnd l ≠ 0) (h2 : ¬ a.size ≠ aFrom l) (h3 : applyP a (aRow l).1 [] = (0,acc)) (h4 : acc.length ≠ aMost l) : applyF a l = ([],4) := by
 unfold applyF
 rw [if_neg h,if_neg h2,h3,if_neg (by simp),if_pos h4]
theorem applyF_ok {a : ByteArray} {l acc : List UInt8} (h : ¬ aEnd l ≠ 0) (h2 : ¬ a.size ≠ aFrom l) (h3 : applyP a (aRow l).1 [] = (0,acc)) (h4 : ¬ acc.length ≠ aMost l) : applyF a l = (acc,0) := by
 unfold applyF
 rw [if_neg h,if_neg h2,h3,if_neg (by simp),if_neg h4]
set_option maxRecDepth 100000 in
theorem dTake (b : Nat) (z : IN) (w : World) (hB : w.heap[b]? = some (.cells (inC z) 140 (0,0))) :
  Calls Tryz.prog 86 #[.pointer (some ⟨b,0,none⟩)] w fun e w' => e = .returned (.agg (pA (takeP z).1)) ∧ Ext [b] w w' ∧ w'.heap[b]? = some (.cells (inC (takeP z).2) 140 (0,0)) := by
 refine enter (vs := [pT b]) [b] [] [(b,.cells (inC z) 140 (0,0))] Tryz.func86 rfl kr (HP.startM (R := []) (fun _ h => by cases h) hB (by simp)) ?_
 refine Cfg.begL rfl ?_
 refine Le (Eff.alloc (z := (.agg (pA PT0))) rfl kr) ?_
 rintro rs ⟨hrs,nrs⟩
 refine CfgL.done rfl ?_
 refine Cfg.begL rfl ?_
 refine Lp 1 [] none n0 trivial ?_
 refine Le (Eff.callM (vs := [pT b]) (.int .u8 ((byteF z).1 : Int)) 1 (b := b) (ob := .cells (inC z) 140 (0,0)) (.cells (inC ((byteF z).2)) 140 (0,0)) rfl Tryz.func80 rfl rfl kr kr (fun w1 h => wTByte b z w1 (h.own (b,_) (mG 1 rfl)))) ?_
 rintro ⟨⟩ -
 refine Lp 1 [(dS (.agg #[.int .u8 ((byteF z).1 : Int),.int .u32 0,.int .u32 0,.string ByteArray.empty]))] (some [0,2,6]) (fun S => [(∀ w1,S w1 → (Instr.build 129 #[(0,.int .u8 ((byteF z).1 : Int))]).run Tryz.prog w1 = .ok (.agg #[.int .u8 ((byteF z).1 : Int),.int .u32 0,.int .u32 0,.string ByteArray.empty]) w1)]) ⟨(fun _ _ => kr),trivial⟩ ?_
 refine Le (Eff.alloc (z := (.agg (pA PT0))) rfl kr) ?_
 rintro pt ⟨hpt,npt⟩
 refine Le (Eff.storeN (b := pt) (off := 0) (vs := #[.int .u8 ((byteF z).1 : Int),.int .u32 0,.int .u32 0,.string ByteArray.empty]) (n := 4) rfl kr kr kr rfl (by simp [K.one]) 0 (cs := (pA PT0)) (e := 129) kr (by rw [pA_size]; omega)) ?_
 rintro ⟨⟩ -
 refine CfgL.setO (congrArg (fun (xq : Array Value) => ([(pt,.cells xq 129 (0,0)),(rs,.cells (pA PT0) 129 (0,0)),(b,.cells (inC ((byteF z).2)) 140 (0,0))] : LO)) (show _ = #[.int .u8 ((byteF z).1 : Int),.int .u32 0,.int .u32 0,.string ⟨#[]⟩] from spl_all rfl)) ?_
 refine CfgL.done rfl ?_
 refine Cg (Γ' := [(3,[],pT pt),(2,[],pT rs),(0,[],pT b)]) ?_
 refine Rg [0,2,3,8] [dZ,(dS (.int .u8 ((byteF z).1 : Int)))] (fun S => [(cE S pt 0 (.int .u8 ((byteF z).1 : Int)))]) ⟨(oC 0 rfl rfl),trivial⟩ ?_
 refine Rg [0,2,3,8,11] [] n0 trivial ?_
 refine Cfg.cond rfl (b := (((byteF z).1 : Int) == (0 : Int))) kr (fun c1r => ?_) (fun c1r => ?_)
 ·have c1 := (beq_iff_eq.1 c1r)
  refine Cfg.begL rfl ?_
  refine Lp 1 [] (some [0,2,3,13]) n0 trivial ?_
  refine Le (Eff.callM (vs := [pT b]) (.int .u32 ((fourF ((byteF z).2)).1 : Int)) 2 (b := b) (ob := .cells (inC ((byteF z).2)) 140 (0,0)) (.cells (inC ((fourF ((byteF z).2)).2)) 140 (0,0)) rfl Tryz.func84 rfl rfl kr kr (fun w1 h => wTFour b ((byteF z).2) w1 (h.own (b,_) (mG 2 rfl)))) ?_
  rintro ⟨⟩ -
  refine Lp 1 [] (some [0,2,3,14,15]) n0 trivial ?_
  refine Le (Eff.store1 (b := pt) (off := 1) (v := .int .u32 ((fourF ((byteF z).2)).1 : Int)) rfl kr kr rfl kr 0 (cs := #[.int .u8 ((byteF z).1 : Int),.int .u32 0,.int .u32 0,.string ⟨#[]⟩]) (e := 129) kr (by simp)) ?_
  rintro ⟨⟩ -
  refine CfgL.done rfl ?_
  refine Cg (Γ' := [(3,[],pT pt),(2,[],pT rs),(0,[],pT b)]) ?_
  refine Cfg.begL rfl ?_
  refine Lp 1 [] (some [2,3,16]) n0 trivial ?_
  refine Le (Eff.callM (vs := [pT b]) (.int .u32 ((fourF ((fourF ((byteF z).2)).2)).1 : Int)) 2 (b := b) (ob := .cells (inC ((fourF ((byteF z).2)).2)) 140 (0,0)) (.cells (inC ((fourF ((fourF ((byteF z).2)).2)).2)) 140 (0,0)) rfl Tryz.func84 rfl rfl kr kr (fun w1 h => wTFour b ((fourF ((byteF z).2)).2) w1 (h.own (b,_) (mG 2 rfl)))) ?_
  rintro ⟨⟩ -
  refine Lp 1 [] (some [2,3,17,18]) n0 trivial ?_
  refine Le (Eff.store1 (b := pt) (off := 2) (v := .int .u32 ((fourF ((fourF ((byteF z).2)).2)).1 : Int)) rfl kr kr rfl kr 0 (cs := (#[.int .u8 ((byteF z).1 : Int),.int .u32 0,.int .u32 0,.string ⟨#[]⟩].setIfInBounds 1 (.int .u32 ((fourF ((byteF z).2)).1 : Int)))) (e := 129) kr (by simp)) ?_
  rintro ⟨⟩ -
  refine CfgL.done rfl ?_
  refine Cg (Γ' := [(3,[],pT pt),(2,[],pT rs)]) ?_
  have hx : takeP z = (⟨0,(fourF (byteF z).2).1,(fourF (fourF (byteF z).2).2).1,ByteArray.empty⟩,(fourF (fourF (byteF z).2).2).2) := if_pos om
  refine Cfg.setO (congrArg (fun (xq : Array Value) => ([(pt,.cells xq 129 (0,0)),(rs,.cells (pA PT0) 129 (0,0)),(b,.cells (inC ((fourF ((fourF ((byteF z).2)).2)).2)) 140 (0,0))] : LO)) (show _ = (pA (takeP z).1) from by rw [hx,show (byteF z).1 = 0 by omega]; rfl)) ?_
  refine Cfg.setO (congrArg (fun (xq : Array Value) => ([(pt,.cells (pA (takeP z).1) 129 (0,0)),(rs,.cells (pA PT0) 129 (0,0)),(b,.cells xq 140 (0,0))] : LO)) (show _ = (inC ((takeP z).2)) from by rw [hx])) ?_
  refine Cfg.begL rfl ?_
  refine Lp 1 [(dS (.agg (pA (takeP z).1)))] (some [2,24]) (fun S => [(∀ w1,S w1 → (loadVar 129 ⟨pt,0,none⟩).run Tryz.prog w1 = .ok (.agg (pA (takeP z).1)) w1)]) ⟨(fun w1 h => h.oload 0 rfl Tryz.underlying129 rfl (n := 4) kr rfl),trivial⟩ ?_
  refine Le (Eff.storeN (b := rs) (off := 0) (vs := (pA (takeP z).1)) (n := 4) rfl kr kr kr rfl (all_pA _) 1 (cs := (pA PT0)) (e := 129) kr (by rw [pA_size]; omega)) ?_
  rintro ⟨⟩ -
  refine CfgL.setO (congrArg (fun (xq : Array Value) => ([(pt,.cells (pA (takeP z).1) 129 (0,0)),(rs,.cells xq 129 (0,0)),(b,.cells (inC ((takeP z).2)) 140 (0,0))] : LO)) (show _ = (pA (takeP z).1) from spl_all rfl)) ?_
  refine CfgL.done rfl ?_
  refine Cg (Γ' := [(2,[],pT rs)]) ?_
  refine Cfg.ret rfl (rs := [.cell 2 129]) rfl [.agg (pA (takeP z).1)] ⟨⟨_,by kernel_rfl,(fun w1 h => h.oload 1 rfl Tryz.underlying129 rfl (n := 4) kr rfl)⟩,trivial⟩ (fun w1 hp => ?_)
  exact ⟨rfl,hp.ext,hp.own (b,_) (mG 2 rfl)⟩
 ·have c1 := (beq_eq_false_iff_ne.1 c1r)
  refine Rg [0,2,3,19] [] n0 trivial ?_
  refine Cfg.cond rfl (b := (((byteF z).1 : Int) == (1 : Int))) kr (fun c2r => ?_) (fun c2r => ?_)
  ·have c2 := (beq_iff_eq.1 c2r)
   refine Cfg.begL rfl ?_
   refine Lp 1 [] (some [2,3,21]) n0 trivial ?_
   refine Le (Eff.callM (vs := [pT b,.int .i64 32768]) (.string (tx (textF ((byteF z).2) (32768 : Int)).1)) 2 (b := b) (ob := .cells (inC ((byteF z).2)) 140 (0,0)) (.cells (inC ((textF ((byteF z).2) (32768 : Int)).2)) 140 (0,0)) rfl Tryz.func81 rfl rfl kr kr (fun w1 h => wTText b ((byteF z).2) (32768 : Int) w1 (h.own (b,_) (mG 2 rfl)) (by decide))) ?_
   rintro ⟨⟩ -
   refine Lp 1 [] (some [2,3,22,23]) n0 trivial ?_
   refine Le (Eff.store1 (b := pt) (off := 3) (v := .string (tx (textF ((byteF z).2) (32768 : Int)).1)) rfl kr kr rfl kr 0 (cs := #[.int .u8 ((byteF z).1 : Int),.int .u32 0,.int .u32 0,.string ⟨#[]⟩]) (e := 129) kr (by simp)) ?_
   rintro ⟨⟩ -
   refine CfgL.done rfl ?_
   refine Cg (Γ' := [(3,[],pT pt),(2,[],pT rs)]) ?_
   have hx : takeP z = (⟨1,0,0,tx (textF (byteF z).2 32768).1⟩,(textF (byteF z).2 32768).2) := (if_neg om).trans (if_pos om)
   refine Cfg.setO (congrArg (fun (xq : Array Value) => ([(pt,.cells xq 129 (0,0)),(rs,.cells (pA PT0) 129 (0,0)),(b,.cells (inC ((textF ((byteF z).2) (32768 : Int)).2)) 140 (0,0))] : LO)) (show _ = (pA (takeP z).1) from by rw [hx,show (byteF z).1 = 1 by omega]; rfl)) ?_
   refine Cfg.setO (congrArg (fun (xq : Array Value) => ([(pt,.cells (pA (takeP z).1) 129 (0,0)),(rs,.cells (pA PT0) 129 (0,0)),(b,.cells xq 140 (0,0))] : LO)) (show _ = (inC ((takeP z).2)) from by rw [hx])) ?_
   refine Cfg.begL rfl ?_
   refine Lp 1 [(dS (.agg (pA (takeP z).1)))] (some [2,24]) (fun S => [(∀ w1,S w1 → (loadVar 129 ⟨pt,0,none⟩).run Tryz.prog w1 = .ok (.agg (pA (takeP z).1)) w1)]) ⟨(fun w1 h => h.oload 0 rfl Tryz.underlying129 rfl (n := 4) kr rfl),trivial⟩ ?_
   refine Le (Eff.storeN (b := rs) (off := 0) (vs := (pA (takeP z).1)) (n := 4) rfl kr kr kr rfl (all_pA _) 1 (cs := (pA PT0)) (e := 129) kr (by rw [pA_size]; omega)) ?_
   rintro ⟨⟩ -
   refine CfgL.setO (congrArg (fun (xq : Array Value) => ([(pt,.cells (pA (takeP z).1) 129 (0,0)),(rs,.cells xq 129 (0,0)),(b,.cells (inC ((takeP z).2)) 140 (0,0))] : LO)) (show _ = (pA (takeP z).1) from spl_all rfl)) ?_
   refine CfgL.done rfl ?_
   refine Cg (Γ' := [(2,[],pT rs)]) ?_
   refine Cfg.ret rfl (rs := [.cell 2 129]) rfl [.agg (pA (takeP z).1)] ⟨⟨_,by kernel_rfl,(fun w1 h => h.oload 1 rfl Tryz.underlying129 rfl (n := 4) kr rfl)⟩,trivial⟩ (fun w1 hp => ?_)
   exact ⟨rfl,hp.ext,hp.own (b,_) (mG 2 rfl)⟩
  ·have c2 := (beq_eq_false_iff_ne.1 c2r)
   refine Cfg.begL rfl ?_
   refine Lp 1 [] (some [2,3,9]) n0 trivial ?_
   refine Le (Eff.callM (vs := [pT b,.int .i64 11]) (.tuple #[]) 2 (b := b) (ob := .cells (inC ((byteF z).2)) 140 (0,0)) (.cells (inC (failF ((byteF z).2) (11 : Int))) 140 (0,0)) rfl Tryz.func82 rfl rfl kr kr (fun w1 h => wFail b ((byteF z).2) (11 : Int) w1 (h.own (b,_) (mG 2 rfl)))) ?_
   rintro ⟨⟩ -
   refine CfgL.done rfl ?_
   refine Cg (Γ' := [(3,[],pT pt),(2,[],pT rs)]) ?_
   have hx : takeP z = (⟨(byteF z).1,0,0,ByteArray.empty⟩,failF (byteF z).2 11) := (if_neg om).trans (if_neg om)
   refine Cfg.setO (congrArg (fun (xq : Array Value) => ([(pt,.cells xq 129 (0,0)),(rs,.cells (pA PT0) 129 (0,0)),(b,.cells (inC (failF ((byteF z).2) (11 : Int))) 140 (0,0))] : LO)) (show _ = (pA (takeP z).1) from by rw [hx]; rfl)) ?_
   refine Cfg.setO (congrArg (fun (xq : Array Value) => ([(pt,.cells (pA (takeP z).1) 129 (0,0)),(rs,.cells (pA PT0) 129 (0,0)),(b,.cells xq 140 (0,0))] : LO)) (show _ = (inC ((takeP z).2)) from by rw [hx])) ?_
   refine Cfg.begL rfl ?_
   refine Lp 1 [(dS (.agg (pA (takeP z).1)))] (some [2,24]) (fun S => [(∀ w1,S w1 → (loadVar 129 ⟨pt,0,none⟩).run Tryz.prog w1 = .ok (.agg (pA (takeP z).1)) w1)]) ⟨(fun w1 h => h.oload 0 rfl Tryz.underlying129 rfl (n := 4) kr rfl),trivial⟩ ?_
   refine Le (Eff.storeN (b := rs) (off := 0) (vs := (pA (takeP z).1)) (n := 4) rfl kr kr kr rfl (all_pA _) 1 (cs := (pA PT0)) (e := 129) kr (by rw [pA_size]; omega)) ?_
   rintro ⟨⟩ -
   refine CfgL.setO (congrArg (fun (xq : Array Value) => ([(pt,.cells (pA (takeP z).1) 129 (0,0)),(rs,.cells xq 129 (0,0)),(b,.cells (inC ((takeP z).2)) 140 (0,0))] : LO)) (show _ = (pA (takeP z).1) from spl_all rfl)) ?_
   refine CfgL.done rfl ?_
   refine Cg (Γ' := [(2,[],pT rs)]) ?_
   refine Cfg.ret rfl (rs := [.cell 2 129]) rfl [.agg (pA (takeP z).1)] ⟨⟨_,by kernel_rfl,(fun w1 h => h.oload 1 rfl Tryz.underlying129 rfl (n := 4) kr rfl)⟩,trivial⟩ (fun w1 hp => ?_)
   exact ⟨rfl,hp.ext,hp.own (b,_) (mG 2 rfl)⟩
set_option maxRecDepth 100000 in
theorem wRowsP (b : Nat) (z : IN) (most : Int) (w : World) (hB : w.heap[b]? = some (.cells (inC z) 140 (0,0))) (hm : most ≤ 1048576) :
  Calls Tryz.prog 85 #[.pointer (some ⟨b,0,none⟩),.int .i64 most,.func (.func 86) #[] #[]] w fun e w' => ∃ o : K.Own,OwnOk o 4 (rowsT takeP z most).1.length (pcells (rowsT takeP z most).1) ∧ e = .returned (.slice o.a (rowsT takeP z most).1.length o.c) ∧ Ext [b] w w' ∧ w'.heap[b]? = some (.cells (inC (rowsT takeP z most).2) 140 (0,0)) ∧ Has w' (o.o 129 (pcells (rowsT takeP z most).1)) ∧ (∀ x ∈ o.o 129 (pcells (rowsT takeP z most).1),w.heap.size ≤ x.1) := by
 have hbl := boundF_lt z most 6
 have hbm : (boundF z most 6).1 ≤ 1048576 := boundF_le z om
 refine enter (vs := [pT b,.int .i64 most,.func (.func 86) #[] #[]]) [b] [] [(b,.cells (inC z) 140 (0,0))] Tryz.func85 rfl kr (HP.startM (R := []) (fun _ h => by cases h) hB (by simp)) ?_
 refine Rg [0,1,2] [] n0 trivial ?_
 refine Rg [0,1,2,7] [] n0 trivial ?_
 refine Cfg.begL rfl ?_
 refine Lp 2 [] (some [0,2,7,9,10]) n0 trivial ?_
 refine Le (Eff.callM (vs := [pT b,.int .i64 most]) (.int .i64 ((boundF z most 6).1 : Int)) 0 (b := b) (ob := .cells (inC z) 140 (0,0)) (.cells (inC ((boundF z most 6).2)) 140 (0,0)) rfl Tryz.func77 rfl rfl kr kr (fun w1 h => wCount b z most w1 (h.own (b,_) (mG 0 rfl)) om)) ?_
 rintro ⟨⟩ -
 refine Lp 1 [] (some [0,2,7,11,12]) n0 trivial ?_
 refine CfgL.done rfl ?_
 refine Cfg.loop rfl (ι := Nat × IN × List PT × K.Own) (fun (xz : Nat × IN × List PT × K.Own) => match xz with | (i,y,acc,own) => [(12,[],.int .i64 (i : Int)),(11,[],.int .i64 ((boundF z most 6).1 : Int)),(7,[],.slice (Own.a own) acc.length (Own.c own)),(0,[],pT b),(2,[],.func (.func 86) #[] #[])]) (fun (xz : Nat × IN × List PT × K.Own) => match xz with | (i,y,acc,own) => ([(b,.cells (inC y) 140 (0,0))] ++ (Own.o 129 (pcells acc) own ++ []))) (fun (xz : Nat × IN × List PT × K.Own) => match xz with | (i,y,acc,own) => (RowAt takeP (boundF z most 6).1 (boundF z most 6).2 i y acc) ∧ (OwnOk own 4 acc.length (pcells acc))) (fun (xz : Nat × IN × List PT × K.Own) => match xz with | (i,y,acc,own) => (boundF z most 6).1 - i) (0,(boundF z most 6).2,[],none) ?_ (Conv.mk kr) slr ?_
 ·exact ⟨RowAt.start _ _ _,OwnOk.none _⟩
 ·rintro ⟨i,y,acc,own⟩ ⟨hra,hok⟩
  have hal := hra.len
  have hle := hra.le
  refine Rg [0,2,7,11,12,13] [] n0 trivial ?_
  refine Cfg.cond rfl (b := (decide ((i : Int) < ((boundF z most 6).1 : Int)))) kr (fun c1r => ?_) (fun c1r => ?_)
  ·have c1 := (dT c1r)
   refine Cfg.begL rfl ?_
   refine Lp 2 [] (some [0,2,7,11,12,14,15]) n0 trivial ?_
   refine Le (Eff.callMV (vs := [pT b]) (.agg (pA (takeP y).1)) 0 (b := b) (ob := .cells (inC y) 140 (0,0)) (.cells (inC (takeP y).2) 140 (0,0)) rfl kr Tryz.func86 rfl rfl kr kr (fun w1 h => dTake b y w1 (h.own (b,_) (mG 0 rfl)))) ?_
   rintro ⟨⟩ -
   refine Le (Eff.alloc (z := (.agg (pA PT0))) rfl kr) ?_
   rintro el ⟨hel,nel⟩
   refine Le (Eff.storeN (b := el) (off := 0) (vs := (pA (takeP y).1)) (n := 4) rfl kr kr kr rfl (all_pA _) 0 (cs := (pA PT0)) (e := 129) kr (by rw [pA_size]; omega)) ?_
   rintro ⟨⟩ -
   refine CfgL.setO (congrArg (fun (xq : Array Value) => (([(el,.cells xq 129 (0,0)),(b,.cells (inC ((takeP y).2)) 140 (0,0))] ++ (Own.o 129 (pcells acc) own ++ [])) : LO)) (show _ = (pA (takeP y).1) from (show spl (pA PT0) 0 ((pA (takeP y).1)).toList = (pA (takeP y).1) from spl_all rfl))) ?_
   refine CfgL.done rfl ?_
   refine Cg (Γ' := [(8,[],pT el),(12,[],.int .i64 (i : Int)),(11,[],.int .i64 ((boundF z most 6).1 : Int)),(7,[],.slice (Own.a own) acc.length (Own.c own)),(0,[],pT b),(2,[],.func (.func 86) #[] #[])]) ?_
   refine Cfg.begL rfl ?_
   refine Lp 1 [] none n0 trivial ?_
   refine Le (Eff.callA (vs := [pT b]) (.int .i64 (((takeP y).2).er)) rfl Tryz.func78 rfl rfl kr (fun w1 h => wErr b ((takeP y).2) w1 (h.own (b,_) (mG 1 rfl)))) ?_
   rintro ⟨⟩ -
   refine Lp 1 [] (some [0,2,7,8,11,12,19]) n0 trivial ?_
   refine CfgL.done rfl ?_
   refine Cfg.cond rfl (b := ((((takeP y).2).er) != (0 : Int))) kr (fun c2r => ?_) (fun c2r => ?_)
   ·have c2 := (bne_iff_ne.1 c2r)
    refine Rg [6] [] n0 trivial ?_
    refine Cfg.ret rfl (rs := [.tmp 6]) rfl [.slice none 0 0] ⟨kr,trivial⟩ (fun w1 hp => ?_)
    have hx : rowsT takeP z most = ([],(takeP y).2) := hra.fail om c2
    rw [hx]
    exact ⟨none,OwnOk.none _,rfl,hp.ext,hp.own (b,_) (mG 1 rfl),(fun _ h => by cases h),(fun _ h => by cases h)⟩
   ·have c2 := (bne_eq_false_iff_eq.1 c2r)
    refine Cfg.begL rfl ?_
    refine Lp 2 [dZ,(dS (.agg (pA (takeP y).1)))] (some [0,2,7,11,12,20,21]) (fun S => [(∀ w1,S w1 → (loadVar 129 ⟨el,0,none⟩).run Tryz.prog w1 = .ok (.agg (pA (takeP y).1)) w1)]) ⟨(fun w1 h => h.oload 0 rfl Tryz.underlying129 rfl (n := 4) kr rfl),trivial⟩ ?_
    refine Le (Eff.buildAgg (vs := (pA (takeP y).1)) (n := 4) rfl kr Tryz.underlying127 kr (z := (.agg (pA PT0))) kr rfl (by decide) (by decide)) ?_
    rintro bk2 ⟨hbk2,nbk2⟩
    refine Le (Eff.appendF rfl 4 32 Tryz.underlying127 kr (z := (.agg (pA PT0))) kr kr own (xs := (pcells acc)) hok kr (b2 := bk2) (off2 := 0) (m := 1) (c2 := 1) kr ((pA (takeP y).1).toList) rfl (all_pA _) [(bk2,.cells (pA (takeP y).1) 129 (0,0)),(el,.cells (pA (takeP y).1) 129 (0,0)),(b,.cells (inC ((takeP y).2)) 140 (0,0))] [] (by rfl) (fun w1 h j v hj => by rw [Nat.zero_add]; exact h.ocell 0 rfl (by rw [← Array.getElem?_toList]; exact hj)) om om) ?_
    rintro o4 ko4
    refine Lp 1 [] (some [0,2,7,11,12]) n0 trivial ?_
    refine CfgL.done rfl ?_
    refine Rg [0,2,7,11,12] [] (fun _ => [(i6 ((i : Int) + 1))]) ⟨om,trivial⟩ ?_
    have hra2 := hra.next om c2
    refine Cfg.setO (congrArg (fun (xq : List Value) => (([(bk2,.cells (pA (takeP y).1) 129 (0,0)),(el,.cells (pA (takeP y).1) 129 (0,0)),(b,.cells (inC ((takeP y).2)) 140 (0,0))] ++ (Own.o 129 xq o4 ++ [])) : LO)) (show _ = (pcells (acc ++ [(takeP y).1])) from by rw [pcells_snoc])) ?_
    refine Cfg.setS 7 (congrArg (fun (xq : Nat) => (.slice (Own.a o4) xq (Own.c o4) : Value)) (show ((acc.length + 1)) = ((acc ++ [(takeP y).1]).length) from by rw [List.length_append]; rfl)) ?_
    refine Cfg.again rfl (i + 1,(takeP y).2,acc ++ [(takeP y).1],o4) ⟨hra2,by rw [← pcells_snoc,List.length_append]; exact ko4⟩ (by show (boundF z most 6).1 - (i + 1) < (boundF z most 6).1 - i; omega) (Conv.mk kr) (.cons _ (.cons _ slr))
  ·have c1 := (dF c1r)
   refine Rg [6] [] n0 trivial ?_
   refine Cfg.ret rfl (rs := [.tmp 6]) rfl [.slice (Own.a own) acc.length (Own.c own)] ⟨kr,trivial⟩ (fun w1 hp => ?_)
   have hi2 : i = (boundF z most 6).1 := by omega
   have hx : rowsT takeP z most = (acc,y) := (hi2 ▸ hra).done
   rw [hx]
   refine ⟨own,hok,rfl,hp.ext,hp.own (b,_) (mL (mG 0 rfl)),fun x hx => hp.own x (mR (mL hx)),fun x hx => ?_⟩
   rcases hp.mine x (mR (mL hx)) with h1 | h1
   ·exact h1
   ·exfalso
    have hd := hp.dist
    rw [List.map_append] at hd
    refine (List.nodup_append.1 hd).2.2 b (List.mem_map.2 ⟨(b,_),mG 0 rfl,rfl⟩) x.1 (List.mem_map.2 ⟨x,mL hx,rfl⟩) ?_
    exact (List.mem_singleton.1 h1).symm
set_option maxRecDepth 100000 in
theorem dApply (a : ByteArray) (l : List UInt8) (w : World) (ha : a.size ≤ 10000000) :
  Calls Tryz.prog 60 #[.string a,.string (tx l)] w fun e w' => e = .returned (.tuple #[.string (tx (applyF a l).1),.int .i64 (applyF a l).2]) ∧ Ext [] w w' := by
 have hrl := aRow_len l
 have hfr := fourF_lt ⟨0,l⟩
 have hmo := fourF_lt (fourF ⟨0,l⟩).2
 have hfr2 : aFrom l < 4294967296 := hfr
 have hmo2 : aMost l < 4294967296 := hmo
 refine enter (vs := [.string a,.string (tx l)]) [] [] [] Tryz.func60 rfl kr (HP.start w) ?_
 refine Rg [0,1] [] n0 trivial ?_
 refine Cfg.begL rfl ?_
 refine Lp 1 [] (some [0,17]) n0 trivial ?_
 refine Le (Eff.callN (vs := [.string (tx l)]) (fun b : Nat => pT b) (fun b => b) (fun _ => .cells (inC ⟨0,l⟩) 140 (0,0)) (fun _ => True) rfl Tryz.func55 rfl rfl kr (fun w1 _ => wOf l w1)) ?_
 rintro q ⟨-,hq,nq⟩
 refine Lp 1 [] (some [0,6]) n0 trivial ?_
 refine CfgL.done rfl ?_
 refine Cfg.begL rfl ?_
 refine Lp 1 [] none n0 trivial ?_
 refine Le (Eff.callM (vs := [pT q]) (.int .u32 ((aFrom l) : Int)) 0 (b := q) (ob := .cells (inC (⟨0,l⟩)) 140 (0,0)) (.cells (inC (fourF ⟨0,l⟩).2) 140 (0,0)) rfl Tryz.func84 rfl rfl kr kr (fun w1 h => wTFour q ⟨0,l⟩ w1 (h.own (q,_) (mG 0 rfl)))) ?_
 rintro ⟨⟩ -
 refine Lp 1 [] (some [0,6,7]) n0 trivial ?_
 refine CfgL.done rfl ?_
 refine Cfg.begL rfl ?_
 refine Lp 1 [] none n0 trivial ?_
 refine Le (Eff.callM (vs := [pT q]) (.int .u32 ((aMost l) : Int)) 0 (b := q) (ob := .cells (inC ((fourF ⟨0,l⟩).2)) 140 (0,0)) (.cells (inC (aZ l)) 140 (0,0)) rfl Tryz.func84 rfl rfl kr kr (fun w1 h => wTFour q (fourF ⟨0,l⟩).2 w1 (h.own (q,_) (mG 0 rfl)))) ?_
 rintro ⟨⟩ -
 refine Lp 1 [] (some [0,6,7,8]) n0 trivial ?_
 refine CfgL.done rfl ?_
 refine Cfg.begL rfl ?_
 refine CfgL.pure 1 [] none (Γ' := [(23,[],pT q),(8,[],.int .u32 ((aMost l) : Int)),(7,[],.int .u32 ((aFrom l) : Int)),(6,[],pT q),(0,[],.string a)]) (nd := (fun _ => [])) kr (fun _ => kr) trivial ?_
 refine Le (Eff.callMO (vs := [pT q,.int .i64 64,.func (.func 86) #[] #[]]) 129 4 (aRow l).1.length (pcells (aRow l).1) [] [] [] (b := q) (ob := .cells (inC (aZ l)) 140 (0,0)) (.cells (inC (aRow l).2) 140 (0,0)) (by rfl) rfl Tryz.func85 rfl rfl kr (fun w1 h => wRowsP q (aZ l) 64 w1 (h.own (q,_) (mG 0 rfl)) (by decide))) ?_
 rintro ow kow
 refine Lp 1 [] (some [0,6,7,8,9]) n0 trivial ?_
 refine CfgL.done rfl ?_
 refine Cfg.begL rfl ?_
 refine Lp 1 [] (some [0,7,8,9,25]) n0 trivial ?_
 refine Le (Eff.callA (vs := [pT q]) (.int .i64 (aEnd l)) rfl Tryz.func59 rfl rfl kr (fun w1 h => wEnd q (aRow l).2 w1 (h.own (q,_) (mG 0 rfl)))) ?_
 rintro ⟨⟩ -
 refine Lp 1 [] (some [0,7,8,9,10]) n0 trivial ?_
 refine CfgL.done rfl ?_
 refine Rg [0,7,8,9,10,28] [] n0 trivial ?_
 refine Cfg.cond rfl (b := ((aEnd l) != (0 : Int))) kr (fun c1r => ?_) (fun c1r => ?_)
 ·have c1 := (bne_iff_ne.1 c1r)
  refine Rg [4,5] [] n0 trivial ?_
  refine Cfg.ret rfl (rs := [.tmp 4,.tmp 5]) rfl [.string ⟨#[]⟩,.int .i64 (aEnd l)] ⟨kr,by kernel_rfl,trivial⟩ (fun w1 hp => ?_)
  rw [applyF_end (show aEnd l ≠ 0 from c1)]
  exact ⟨rfl,hp.ext⟩
 ·have c1 := (bne_eq_false_iff_eq.1 c1r)
  refine Rg [0,8,9,35] [] (fun _ => [((0 : Int) ≤ ((aFrom l) : Int) ∧ ((aFrom l) : Int) ≤ 18446744073709551615)]) ⟨om,trivial⟩ ?_
  refine Cfg.cond rfl (b := (((a.size : Int) % 18446744073709551616) != ((aFrom l) : Int))) kr (fun c2r => ?_) (fun c2r => ?_)
  ·have c2 := (bne_iff_ne.1 c2r)
   refine Rg [4,5] [] n0 trivial ?_
   refine Cfg.ret rfl (rs := [.tmp 4,.tmp 5]) rfl [.string ⟨#[]⟩,.int .i64 31] ⟨kr,by kernel_rfl,trivial⟩ (fun w1 hp => ?_)
   rw [applyF_base (show ¬ aEnd l ≠ 0 by omega) om]
   exact ⟨rfl,hp.ext⟩
  ·have c2 := (bne_eq_false_iff_eq.1 c2r)
   refine Cfg.begL rfl ?_
   refine Le (Eff.allocB 5 [(q,.cells (inC ((aRow l).2)) 140 (0,0))] ([] ++ (Own.o 129 (pcells (aRow l).1) ow ++ [])) rfl rfl kr) ?_
   rintro b ⟨hb,nb⟩
   refine CfgL.done rfl ?_
   refine Cg (Γ' := [(11,[],pT b),(9,[],.slice (Own.a ow) ((aRow l).1.length) (Own.c ow)),(8,[],.int .u32 ((aMost l) : Int)),(0,[],.string a)]) ?_
   refine Rg [0,8,11,36,37,38] [] n0 trivial ?_
   refine Cfg.loop rfl (ι := Nat × List UInt8 × Bd) (fun (xz : Nat × List UInt8 × Bd) => match xz with | (i,acc,B) => [(38,[],.int .i64 (i : Int)),(37,[],.int .i64 ((aRow l).1.length : Int)),(36,[],.slice (Own.a ow) ((aRow l).1.length) (Own.c ow)),(11,[],pT b),(8,[],.int .u32 ((aMost l) : Int)),(0,[],.string a)]) (fun (xz : Nat × List UInt8 × Bd) => match xz with | (i,acc,B) => ([] ++ (bl 118 5 b acc B ++ (Own.o 129 (pcells (aRow l).1) ow ++ [])))) (fun (xz : Nat × List UInt8 × Bd) => match xz with | (i,acc,B) => (i ≤ (aRow l).1.length) ∧ (applyP a ((aRow l).1.drop i) acc = applyP a (aRow l).1 []) ∧ (acc.length ≤ 32768) ∧ (BdOk b acc B)) (fun (xz : Nat × List UInt8 × Bd) => match xz with | (i,acc,B) => (aRow l).1.length - i) (0,[],bd0) ?_ (Conv.mk kr) (.cons _ (List.Sublist.trans (List.Sublist.append slr slr) (List.sublist_append_right _ _))) ?_
   ·exact ⟨Nat.zero_le _,rfl,Nat.zero_le _,(bd0_ok b)⟩
   ·rintro ⟨i,acc,B⟩ ⟨hi,hap,hacc,hB⟩
    refine Rg [0,8,11,36,37,38,39] [] n0 trivial ?_
    refine Cfg.cond rfl (b := (decide ((i : Int) < ((aRow l).1.length : Int)))) kr (fun c3r => ?_) (fun c3r => ?_)
    ·have c3 := (dT c3r)
     obtain ⟨sb,off,cs,te,fre,hla,hmem,hcs⟩ := own_ins4 (e := 129) (ps := (aRow l).1) kow om
     have hel : PtOk 32768 ((aRow l).1.getD i PT0) := aRow_ok l _ (getD_mem om)
     have hepat := hel.1.pat
     have hen := hel.1.n
     have hek := hel.1.kind
     have hele := piece_le a hel
     refine Cfg.setS 36 (congrArg (fun (xq : Value) => (xq : Value)) (show .slice (Own.a ow) ((aRow l).1.length) (Own.c ow) = .slice (some ⟨sb,off,none⟩) (aRow l).1.length (Own.c ow) from congrArg (fun z => Value.slice z (aRow l).1.length (Own.c ow)) hla)) ?_
     refine Cfg.begL rfl ?_
     refine Lp 2 [dZ,(dS (.agg (pA ((aRow l).1.getD i PT0))))] (some [0,8,11,36,37,38,41]) (fun S => [(0 ≤ (i : Int) ∧ (i : Int) < ((aRow l).1.length : Int)),(∀ w1,S w1 → (loadVar 129 ⟨sb,(addO off (i * 4)),none⟩).run Tryz.prog w1 = .ok (.agg (pA ((aRow l).1.getD i PT0))) w1)]) ⟨om,(fun w1 h => load_part Tryz.underlying129 rfl kr (fun j hj => by rw [addO_eq]; exact (cell_cells (h.own (sb,_) (mR (mR (mL hmem))))).trans ((congrArg (fun z => cs[z]?) (show off + i * 4 + j = off + (i * 4 + j) by omega)).trans ((hcs (i * 4 + j) om).trans (by simp only [show (i * 4 + j) / 4 = i by omega,show (i * 4 + j) % 4 = j by omega]))))),trivial⟩ ?_
     refine Le (Eff.alloc (z := (.agg (pA PT0))) rfl kr) ?_
     rintro pt ⟨hpt,npt⟩
     refine Le (Eff.storeN (b := pt) (off := 0) (vs := (pA ((aRow l).1.getD i PT0))) (n := 4) rfl kr kr kr rfl (all_pA _) 0 (cs := (pA PT0)) (e := 129) kr (by rw [pA_size]; omega)) ?_
     rintro ⟨⟩ -
     refine CfgL.setO (congrArg (fun (xq : Array Value) => (([(pt,.cells xq 129 (0,0))] ++ (bl 118 5 b acc B ++ (Own.o 129 (pcells (aRow l).1) ow ++ []))) : LO)) (show _ = (pA ((aRow l).1.getD i PT0)) from (show spl (pA PT0) 0 ((pA ((aRow l).1.getD i PT0))).toList = (pA ((aRow l).1.getD i PT0)) from spl_all rfl))) ?_
     refine CfgL.done rfl ?_
     refine Cg (Γ' := [(13,[],pT pt),(38,[],.int .i64 (i : Int)),(37,[],.int .i64 ((aRow l).1.length : Int)),(36,[],.slice (some ⟨sb,off,none⟩) (aRow l).1.length (Own.c ow)),(11,[],pT b),(8,[],.int .u32 ((aMost l) : Int)),(0,[],.string a)]) ?_
     refine Rg [0,8,11,13,14,36,37,38] [dZ,(dS (.string ((aRow l).1.getD i PT0).text))] (fun S => [(cE S pt 3 (.string ((aRow l).1.getD i PT0).text))]) ⟨(oC 0 rfl rfl),trivial⟩ ?_
     refine Rg [0,8,11,13,14,36,37,38,46] [dZ,(dS (.int .u8 (((aRow l).1.getD i PT0).kind : Int)))] (fun S => [(cE S pt 0 (.int .u8 (((aRow l).1.getD i PT0).kind : Int)))]) ⟨(oC 0 rfl rfl),trivial⟩ ?_
     refine Cfg.cond rfl (b := ((((aRow l).1.getD i PT0).kind : Int) == (0 : Int))) kr (fun c4r => ?_) (fun c4r => ?_)
     ·have c4 := (beq_iff_eq.1 c4r)
      refine Cfg.regD rfl kr [0,8,11,15,16,36,37,38] [dZ,(dS (.int .u32 (((aRow l).1.getD i PT0).pat : Int))),dZ,dZ,(dS (.int .u32 (((aRow l).1.getD i PT0).pat : Int))),dZ,dZ,(dS (.int .u32 (((aRow l).1.getD i PT0).n : Int)))] (Γ' := [(16,[],.int .u64 (((((aRow l).1.getD i PT0).pat : Int) + (((aRow l).1.getD i PT0).n : Int)) % 18446744073709551616)),(15,[],.int .u64 (((aRow l).1.getD i PT0).pat : Int)),(38,[],.int .i64 (i : Int)),(37,[],.int .i64 ((aRow l).1.length : Int)),(36,[],.slice (some ⟨sb,off,none⟩) (aRow l).1.length (Own.c ow)),(11,[],pT b),(8,[],.int .u32 ((aMost l) : Int)),(0,[],.string a)]) (nd := (fun S => [(cE S pt 1 (.int .u32 (((aRow l).1.getD i PT0).pat : Int))),((0 : Int) ≤ (((aRow l).1.getD i PT0).pat : Int) ∧ (((aRow l).1.getD i PT0).pat : Int) ≤ 18446744073709551615),(cE S pt 1 (.int .u32 (((aRow l).1.getD i PT0).pat : Int))),((0 : Int) ≤ (((aRow l).1.getD i PT0).pat : Int) ∧ (((aRow l).1.getD i PT0).pat : Int) ≤ 18446744073709551615),(cE S pt 2 (.int .u32 (((aRow l).1.getD i PT0).n : Int))),((0 : Int) ≤ (((aRow l).1.getD i PT0).n : Int) ∧ (((aRow l).1.getD i PT0).n : Int) ≤ 18446744073709551615)])) kr kr (fun _ => kr) ⟨(oC 0 rfl rfl),om,(oC 0 rfl rfl),om,(oC 0 rfl rfl),om,trivial⟩ ?_
      refine Rg [0,8,11,15,16,36,37,38,61] [] n0 trivial ?_
      refine Cfg.cond rfl (b := (decide ((((((aRow l).1.getD i PT0).pat : Int) + (((aRow l).1.getD i PT0).n : Int)) % 18446744073709551616) > ((a.size : Int) % 18446744073709551616)))) kr (fun c5r => ?_) (fun c5r => ?_)
      ·have c5 := (dT c5r)
       refine Rg [4,5] [] n0 trivial ?_
       refine Cfg.ret rfl (rs := [.tmp 4,.tmp 5]) rfl [.string ⟨#[]⟩,.int .i64 31] ⟨kr,by kernel_rfl,trivial⟩ (fun w1 hp => ?_)
       rw [applyF_bad (show ¬ aEnd l ≠ 0 by omega) om (hap ▸ applyP_far a (show i < (aRow l).1.length by omega) acc om om) (by decide)]
       exact ⟨rfl,hp.ext⟩
      ·have c5 := (dF c5r)
       refine Rg [0,8,11,14,36,37,38] [] (fun _ => [(0 ≤ (((aRow l).1.getD i PT0).pat : Int)),(0 ≤ (((((aRow l).1.getD i PT0).pat : Int) + (((aRow l).1.getD i PT0).n : Int)) % 18446744073709551616)),((((aRow l).1.getD i PT0).pat) ≤ ((((((aRow l).1.getD i PT0).pat : Int) + (((aRow l).1.getD i PT0).n : Int)) % 18446744073709551616)).toNat ∧ ((((((aRow l).1.getD i PT0).pat : Int) + (((aRow l).1.getD i PT0).n : Int)) % 18446744073709551616)).toNat ≤ a.size)]) ⟨om,om,om,trivial⟩ ?_
       refine Cfg.setS 14 (congrArg Value.string (show (a.extract ((((aRow l).1.getD i PT0).pat)) (((((((aRow l).1.getD i PT0).pat : Int) + (((aRow l).1.getD i PT0).n : Int)) % 18446744073709551616)).toNat)) = (pieceF a ((aRow l).1.getD i PT0)) from by unfold pieceF; rw [if_pos (show ((aRow l).1.getD i PT0).kind = 0 by omega),show (((((aRow l).1.getD i PT0).pat : Int) + (((aRow l).1.getD i PT0).n : Int)) % 18446744073709551616).toNat = ((aRow l).1.getD i PT0).pat + ((aRow l).1.getD i PT0).n by omega])) ?_
       refine Cfg.begL rfl ?_
       refine Le (Eff.callA (vs := [pT b]) (.int .i64 (acc.length : Int)) rfl Tryz.func87 rfl rfl kr (fun w1 h => bLen b acc B w1 (fun e he => h.own e (mR (mL he))))) ?_
       rintro ⟨⟩ -
       refine Lp 4 [] (some [0,8,11,14,36,37,38,70]) (fun _ => [(i6 ((acc.length : Int) + ((pieceF a ((aRow l).1.getD i PT0)).size : Int)))]) ⟨om,trivial⟩ ?_
       refine CfgL.done rfl ?_
       refine Cfg.cond rfl (b := (decide (((acc.length : Int) + ((pieceF a ((aRow l).1.getD i PT0)).size : Int)) > (32768 : Int)))) kr (fun c6r => ?_) (fun c6r => ?_)
       ·have c6 := (dT c6r)
        refine Rg [4,5] [] n0 trivial ?_
        refine Cfg.ret rfl (rs := [.tmp 4,.tmp 5]) rfl [.string ⟨#[]⟩,.int .i64 5] ⟨kr,by kernel_rfl,trivial⟩ (fun w1 hp => ?_)
        rw [applyF_bad (show ¬ aEnd l ≠ 0 by omega) om (hap ▸ applyP_long a (show i < (aRow l).1.length by omega) acc om om) (by decide)]
        exact ⟨rfl,hp.ext⟩
       ·have c6 := (dF c6r)
        refine Cfg.begL rfl ?_
        refine Lp 1 [] (some [0,8,11,36,37,38,71]) n0 trivial ?_
        refine Le (Eff.callH (vs := [pT b,.string (pieceF a ((aRow l).1.getD i PT0))]) (fun _ => (.tuple #[.int .i64 ((pieceF a ((aRow l).1.getD i PT0)).size : Int),.nilIface] : Value)) (bl 118 5 b acc B) (fun B1 => bl 118 5 b (acc ++ (pieceF a ((aRow l).1.getD i PT0)).data.toList) B1) (fun B1 => BdOk b (acc ++ (pieceF a ((aRow l).1.getD i PT0)).data.toList) B1) [(pt,.cells (pA ((aRow l).1.getD i PT0)) 129 (0,0))] (Own.o 129 (pcells (aRow l).1) ow ++ []) (by rfl) rfl Tryz.func68 rfl rfl kr (fun w1 h hh hd => bWriteString b acc B (pieceF a ((aRow l).1.getD i PT0)) w1 hB hh hd om)) ?_
        rintro B7 kB7
        refine CfgL.done rfl ?_
        refine Cg (Γ' := [(38,[],.int .i64 (i : Int)),(37,[],.int .i64 ((aRow l).1.length : Int)),(36,[],.slice (some ⟨sb,off,none⟩) (aRow l).1.length (Own.c ow)),(11,[],pT b),(8,[],.int .u32 ((aMost l) : Int)),(0,[],.string a)]) ?_
        refine Rg [0,8,11,36,37,38] [] (fun _ => [(i6 ((i : Int) + 1))]) ⟨om,trivial⟩ ?_
        have hst := applyP_next a (show i < (aRow l).1.length by omega) acc om om
        refine Cfg.setS 36 (congrArg (fun (xq : Value) => (xq : Value)) (show .slice (some ⟨sb,off,none⟩) (aRow l).1.length (Own.c ow) = .slice (Own.a ow) (aRow l).1.length (Own.c ow) from congrArg (fun z => Value.slice z (aRow l).1.length (Own.c ow)) hla.symm)) ?_
        refine Cfg.again rfl (i + 1,(acc ++ (pieceF a ((aRow l).1.getD i PT0)).data.toList),B7) ⟨by omega,by rw [← hst]; exact hap,by rw [List.length_append,ba_len]; omega,kB7⟩ (by show (aRow l).1.length - (i + 1) < (aRow l).1.length - i; omega) (Conv.mk kr) (.cons _ slr)
     ·have c4 := (beq_eq_false_iff_ne.1 c4r)
      refine Cfg.setS 14 (congrArg Value.string (show ((aRow l).1.getD i PT0).text = (pieceF a ((aRow l).1.getD i PT0)) from by unfold pieceF; rw [if_neg (show ¬ ((aRow l).1.getD i PT0).kind = 0 by omega)])) ?_
      refine Cfg.begL rfl ?_
      refine Le (Eff.callA (vs := [pT b]) (.int .i64 (acc.length : Int)) rfl Tryz.func87 rfl rfl kr (fun w1 h => bLen b acc B w1 (fun e he => h.own e (mR (mL he))))) ?_
      rintro ⟨⟩ -
      refine Lp 4 [] (some [0,8,11,14,36,37,38,70]) (fun _ => [(i6 ((acc.length : Int) + ((pieceF a ((aRow l).1.getD i PT0)).size : Int)))]) ⟨om,trivial⟩ ?_
      refine CfgL.done rfl ?_
      refine Cfg.cond rfl (b := (decide (((acc.length : Int) + ((pieceF a ((aRow l).1.getD i PT0)).size : Int)) > (32768 : Int)))) kr (fun c7r => ?_) (fun c7r => ?_)
      ·have c7 := (dT c7r)
       refine Rg [4,5] [] n0 trivial ?_
       refine Cfg.ret rfl (rs := [.tmp 4,.tmp 5]) rfl [.string ⟨#[]⟩,.int .i64 5] ⟨kr,by kernel_rfl,trivial⟩ (fun w1 hp => ?_)
       rw [applyF_bad (show ¬ aEnd l ≠ 0 by omega) om (hap ▸ applyP_long a (show i < (aRow l).1.length by omega) acc om om) (by decide)]
       exact ⟨rfl,hp.ext⟩
      ·have c7 := (dF c7r)
       refine Cfg.begL rfl ?_
       refine Lp 1 [] (some [0,8,11,36,37,38,71]) n0 trivial ?_
       refine Le (Eff.callH (vs := [pT b,.string (pieceF a ((aRow l).1.getD i PT0))]) (fun _ => (.tuple #[.int .i64 ((pieceF a ((aRow l).1.getD i PT0)).size : Int),.nilIface] : Value)) (bl 118 5 b acc B) (fun B1 => bl 118 5 b (acc ++ (pieceF a ((aRow l).1.getD i PT0)).data.toList) B1) (fun B1 => BdOk b (acc ++ (pieceF a ((aRow l).1.getD i PT0)).data.toList) B1) [(pt,.cells (pA ((aRow l).1.getD i PT0)) 129 (0,0))] (Own.o 129 (pcells (aRow l).1) ow ++ []) (by rfl) rfl Tryz.func68 rfl rfl kr (fun w1 h hh hd => bWriteString b acc B (pieceF a ((aRow l).1.getD i PT0)) w1 hB hh hd om)) ?_
       rintro B9 kB9
       refine CfgL.done rfl ?_
       refine Cg (Γ' := [(38,[],.int .i64 (i : Int)),(37,[],.int .i64 ((aRow l).1.length : Int)),(36,[],.slice (some ⟨sb,off,none⟩) (aRow l).1.length (Own.c ow)),(11,[],pT b),(8,[],.int .u32 ((aMost l) : Int)),(0,[],.string a)]) ?_
       refine Rg [0,8,11,36,37,38] [] (fun _ => [(i6 ((i : Int) + 1))]) ⟨om,trivial⟩ ?_
       have hst := applyP_next a (show i < (aRow l).1.length by omega) acc om om
       refine Cfg.setS 36 (congrArg (fun (xq : Value) => (xq : Value)) (show .slice (some ⟨sb,off,none⟩) (aRow l).1.length (Own.c ow) = .slice (Own.a ow) (aRow l).1.length (Own.c ow) from congrArg (fun z => Value.slice z (aRow l).1.length (Own.c ow)) hla.symm)) ?_
       refine Cfg.again rfl (i + 1,(acc ++ (pieceF a ((aRow l).1.getD i PT0)).data.toList),B9) ⟨by omega,by rw [← hst]; exact hap,by rw [List.length_append,ba_len]; omega,kB9⟩ (by show (aRow l).1.length - (i + 1) < (aRow l).1.length - i; omega) (Conv.mk kr) (.cons _ slr)
    ·have c3 := (dF c3r)
     refine Cfg.begL rfl ?_
     refine Le (Eff.callA (vs := [pT b]) (.int .i64 (acc.length : Int)) rfl Tryz.func87 rfl rfl kr (fun w1 h => bLen b acc B w1 (fun e he => h.own e (mR (mL he))))) ?_
     rintro ⟨⟩ -
     refine Lp 4 [] (some [11,78]) (fun _ => [((0 : Int) ≤ ((aMost l) : Int) ∧ ((aMost l) : Int) ≤ 18446744073709551615)]) ⟨om,trivial⟩ ?_
     refine CfgL.done rfl ?_
     refine Cfg.cond rfl (b := (((acc.length : Int) % 18446744073709551616) != ((aMost l) : Int))) kr (fun c8r => ?_) (fun c8r => ?_)
     ·have c8 := (bne_iff_ne.1 c8r)
      refine Rg [4,5] [] n0 trivial ?_
      refine Cfg.ret rfl (rs := [.tmp 4,.tmp 5]) rfl [.string ⟨#[]⟩,.int .i64 4] ⟨kr,by kernel_rfl,trivial⟩ (fun w1 hp => ?_)
      have hdn : (aRow l).1.drop i = [] := List.drop_eq_nil_of_le om
      rw [hdn] at hap
      rw [applyF_form (show ¬ aEnd l ≠ 0 by omega) om hap.symm om]
      exact ⟨rfl,hp.ext⟩
     ·have c8 := (bne_eq_false_iff_eq.1 c8r)
      refine Cfg.begL rfl ?_
      refine Le (Eff.callH (vs := [pT b]) (fun _ : Unit => (.string (tx acc) : Value)) (bl 118 5 b acc B) (fun _ => []) (fun _ => True) [] (Own.o 129 (pcells (aRow l).1) ow ++ []) (by rfl) rfl Tryz.func66 rfl rfl kr (fun w1 h hh hd => bString b acc B w1 hB hh hd om)) ?_
      rintro ⟨⟩ -
      refine Lp 2 [] (some [4,5]) n0 trivial ?_
      refine CfgL.done rfl ?_
      refine Cfg.ret rfl (rs := [.tmp 4,.tmp 5]) rfl [.string (tx acc),.int .i64 0] ⟨kr,by kernel_rfl,trivial⟩ (fun w1 hp => ?_)
      have hdn : (aRow l).1.drop i = [] := List.drop_eq_nil_of_le om
      rw [hdn] at hap
      rw [applyF_ok (show ¬ aEnd l ≠ 0 by omega) om hap.symm om]
      exact ⟨rfl,hp.ext⟩
end Go.Proofs.YtbeegepcdglcaaaGreatDoor
namespace Go.Proofs.YtbeegepcdglcaaaGreatDoor
open K
set_option linter.unusedVariables false
theorem pow256 (k : Nat) : 256 ^ (k + 1) = 256 ^ k * 256 := Nat.pow_succ ..
theorem val_be (n : Nat) : ∀ (k m : Nat),(m + 1) * 256 ^ k ≤ 18446744073709551616 → (be n k).foldl vf m = m * 256 ^ k + n % 256 ^ k
 | 0,m,_ => by simp [be,Nat.mod_one]
 | k + 1,m,h => by
  have hk : 0 < 256 ^ k := Nat.pow_pos (by decide)
  have hb : (UInt8.ofNat (n / 256 ^ k)).toNat = n / 256 ^ k % 256 := by simp
  have hlt : n / 256 ^ k % 256 < 256 := Nat.mod_lt _ (by decide)
  rw [pow256,← Nat.mul_assoc,Nat.mul_right_comm] at h
  have hm : m * 256 + 256 ≤ 18446744073709551616 := Nat.le_trans (by have := Nat.mul_le_mul_left ((m + 1) * 256) hk; omega) h
  have hv : vf m (UInt8.ofNat (n / 256 ^ k)) = m * 256 + n / 256 ^ k % 256 := by unfold vf; rw [hb]; omega
  rw [be,List.foldl_cons,hv,val_be n k _ (Nat.le_trans (Nat.mul_le_mul_right _ om) h),pow256]
  have e1 : n % (256 ^ k * 256) = n % 256 ^ k + 256 ^ k * (n / 256 ^ k % 256) := Nat.mod_mul ..
  rw [e1,Nat.add_mul,Nat.mul_comm (n / 256 ^ k % 256) (256 ^ k),Nat.mul_assoc,Nat.mul_comm 256 (256 ^ k)]
  omega
theorem valF_be (n k : Nat) (hk : 256 ^ k ≤ 18446744073709551616) (hn : n < 256 ^ k) : valF (be n k) = n := by
 unfold valF
 rw [val_be n k 0 om,Nat.mod_eq_of_lt hn]; omega
theorem nextF_app (a r : List UInt8) {n : Int} (h : n = (a.length : Int)) : nextF ⟨0,a ++ r⟩ n = (a,⟨0,r⟩) := by
 subst h
 unfold nextF
 rw [if_neg (by simp),if_neg (by simp only [List.length_append]; omega)]
 simp
theorem fourF_app (n : Nat) (r : List UInt8) (h : n < 4294967296) : fourF ⟨0,four n ++ r⟩ = (n,⟨0,r⟩) := by
 unfold fourF
 rw [nextF_app (four n) r (by rw [show (four n).length = 4 from be_len _ _]; rfl),show valF (four n) = n from valF_be n 4 (by decide) h,Nat.mod_eq_of_lt h]
theorem boundF_app (n : Nat) (r : List UInt8) {most e : Int} (h : n < 4294967296) (hm : (n : Int) ≤ most) : boundF ⟨0,four n ++ r⟩ most e = (n,⟨0,r⟩) := by
 unfold boundF
 rw [fourF_app n r h,if_neg (by split <;> simp only <;> omega)]
theorem textF_app (s : ByteArray) (r : List UInt8) {most : Int} (h : s.size < 4294967296) (hm : (s.size : Int) ≤ most) : textF ⟨0,text4 s ++ r⟩ most = (s.data.toList,⟨0,r⟩) := by
 unfold textF text4
 rw [List.append_assoc,show be s.size 4 = four s.size from rfl,boundF_app s.size (s.data.toList ++ r) h hm]
 exact nextF_app s.data.toList r (by rw [ba_len])
theorem byteF_app (n : Nat) (r : List UInt8) (h : n < 256) : byteF ⟨0,be n 1 ++ r⟩ = (n,⟨0,r⟩) := by
 unfold byteF
 rw [nextF_app (be n 1) r (by rw [be_len]; rfl),valF_be n 1 (by decide) (by simpa using h),Nat.mod_eq_of_lt h]
structure PtIn (p : PT) : Prop where
 ok : p.Ok
 sort : (p.kind = 0 ∧ p.text = ByteArray.empty) ∨ (p.kind = 1 ∧ p.pat = 0 ∧ p.n = 0 ∧ p.text.size ≤ 32768)
theorem takeP_app (p : PT) (r : List UInt8) (h : PtIn p) : takeP ⟨0,layP p ++ r⟩ = (p,⟨0,r⟩) := by
 obtain ⟨k,pt,n,s⟩ := p
 have hp := h.ok.pat
 have hn := h.ok.n
 rcases h.sort with ⟨hk,ht⟩ | ⟨hk,h1,h2,ht⟩
 ·simp only at hk ht hp hn
  subst hk; subst ht
  have e : layP ⟨0,pt,n,ByteArray.empty⟩ ++ r = be 0 1 ++ (four pt ++ (four n ++ r)) := by
   unfold layP; rw [if_pos rfl]; simp only [List.append_assoc]
  rw [e]
  unfold takeP
  rw [byteF_app 0 _ (by decide),if_pos rfl]
  simp only
  rw [fourF_app pt _ hp]
  simp only
  rw [fourF_app n _ hn]
 ·simp only at hk h1 h2 ht
  subst hk; subst h1; subst h2
  have e : layP ⟨1,0,0,s⟩ ++ r = be 1 1 ++ (text4 s ++ r) := by
   unfold layP; rw [if_neg Nat.one_ne_zero]; simp only [List.append_assoc]
  rw [e]
  unfold takeP
  rw [byteF_app 1 _ (by decide),if_neg Nat.one_ne_zero,if_pos rfl]
  simp only
  rw [textF_app s r om om,tx_back]
theorem rowsF_parts : ∀ (ps : List PT) (r : List UInt8) (acc : List PT),(∀ p ∈ ps,PtIn p) → rowsF takeP ps.length ⟨0,flat layP ps ++ r⟩ acc = (acc ++ ps,⟨0,r⟩)
 | [],r,acc,_ => by simp [rowsF,flat]
 | x :: xs,r,acc,h => by
  have ht := takeP_app x (flat layP xs ++ r) (h x mH)
  have hf : flat layP (x :: xs) ++ r = layP x ++ (flat layP xs ++ r) := by simp [flat]
  rw [List.length_cons,hf,rowsF_succ (by rw [ht]; simp),ht,rowsF_parts xs r _ (fun p hp => h p (List.mem_cons_of_mem _ hp)),List.append_assoc]
  rfl
theorem mkP_in {a t : ByteArray} (ha : a.size ≤ 10000000) (ht : t.size ≤ 32768) : ∀ p ∈ mkP a t,PtIn p := by
 have hfb := fb_le a t
 have hms := md_size a t
 intro p hp
 unfold mkP at hp
 rcases List.mem_append.1 hp with hp | hp
 ·split at hp
  ·rw [List.mem_singleton.1 hp]
   exact ⟨⟨by show 0 < 256; decide,by show 0 < 4294967296; decide,by show frN a t < _; omega⟩,.inl ⟨rfl,rfl⟩⟩
  ·cases hp
 ·rcases List.mem_append.1 hp with hp | hp
  ·split at hp
   ·cases hp
   ·rw [List.mem_singleton.1 hp]
    exact ⟨⟨by show 1 < 256; decide,by show 0 < 4294967296; decide,by show 0 < 4294967296; decide⟩,.inr ⟨rfl,rfl,rfl,by show (md a t).size ≤ _; omega⟩⟩
  ·split at hp
   ·rw [List.mem_singleton.1 hp]
    exact ⟨⟨by show 0 < 256; decide,by show a.size - bkN a t < _; omega,by show bkN a t < _; omega⟩,.inl ⟨rfl,rfl⟩⟩
   ·cases hp
theorem mkP_len (a t : ByteArray) : (mkP a t).length ≤ 3 := by
 unfold mkP
 rw [List.length_append,List.length_append]
 have h1 : (if 0 < frN a t then [(⟨0,0,frN a t,ByteArray.empty⟩ : PT)] else []).length ≤ 1 := by split <;> simp
 have h2 : (if mdE a t = true then [] else [(⟨1,0,0,md a t⟩ : PT)]).length ≤ 1 := by split <;> simp
 have h3 : (if 0 < bkN a t then [(⟨0,a.size - bkN a t,bkN a t,ByteArray.empty⟩ : PT)] else []).length ≤ 1 := by split <;> simp
 omega
theorem parse_mk {a t : ByteArray} (ha : a.size ≤ 10000000) (ht : t.size ≤ 32768) : aFrom (mk a t) = a.size ∧ aMost (mk a t) = t.size ∧ aRow (mk a t) = (mkP a t,⟨0,[]⟩) := by
 have e : mk a t = four a.size ++ (four t.size ++ rowP (mkP a t)) := by unfold mk; rw [List.append_assoc]
 have h1 : fourF ⟨0,mk a t⟩ = (a.size,⟨0,four t.size ++ rowP (mkP a t)⟩) := by rw [e]; exact fourF_app a.size _ om
 have h2 : fourF ⟨0,four t.size ++ rowP (mkP a t)⟩ = (t.size,⟨0,rowP (mkP a t)⟩) := fourF_app t.size _ om
 have hl := mkP_len a t
 refine ⟨by unfold aFrom; rw [h1],by unfold aMost; rw [h1]; simp only; rw [h2],?_⟩
 unfold aRow aZ rowsT
 rw [h1]
 simp only
 rw [h2]
 unfold rowP
 rw [boundF_app (mkP a t).length _ om om]
 have := rowsF_parts (mkP a t) [] [] (mkP_in ha ht)
 rw [List.append_nil] at this
 exact this
theorem end_mk {a t : ByteArray} (ha : a.size ≤ 10000000) (ht : t.size ≤ 32768) : aEnd (mk a t) = 0 := by
 unfold aEnd
 rw [(parse_mk ha ht).2.2]; rfl
theorem applyP_some {a : ByteArray} {p : PT} {ps : List PT} {acc : List UInt8} (h : ¬ (p.kind = 0 ∧ a.size < p.pat + p.n)) (hl : acc.length + (pieceF a p).size ≤ 32768) : applyP a (p :: ps) acc = applyP a ps (acc ++ (pieceF a p).data.toList) := by
 rw [applyP,if_neg h,if_neg om]
theorem ext_list (b : ByteArray) (i j : Nat) : (b.extract i j).data.toList = (b.data.toList.take j).drop i := by
 rw [ByteArray.data_extract,Array.toList_extract,List.extract_eq_take_drop,← List.drop_take]
theorem take_eq {x y : List UInt8} {n : Nat} (hx : n ≤ x.length) (hy : n ≤ y.length) (h : ∀ j,j < n → x.getD j 0 = y.getD j 0) : x.take n = y.take n := by
 apply List.ext_getElem
 ·rw [List.length_take,List.length_take]; omega
 ·intro j h1 h2
  rw [List.length_take] at h1
  have := h j om
  rw [List.getD_eq_getElem?_getD,List.getD_eq_getElem?_getD,List.getElem?_eq_getElem om,List.getElem?_eq_getElem om] at this
  rw [List.getElem_take,List.getElem_take]
  simpa using this
theorem drop_eq {x y : List UInt8} {n : Nat} (hx : n ≤ x.length) (hy : n ≤ y.length) (h : ∀ j,j < n → x.getD (x.length - 1 - j) 0 = y.getD (y.length - 1 - j) 0) : x.drop (x.length - n) = y.drop (y.length - n) := by
 apply List.ext_getElem
 ·rw [List.length_drop,List.length_drop]; omega
 ·intro j h1 h2
  rw [List.length_drop] at h1
  have := h (n - 1 - j) om
  rw [show x.length - 1 - (n - 1 - j) = x.length - n + j by omega,show y.length - 1 - (n - 1 - j) = y.length - n + j by omega,List.getD_eq_getElem?_getD,List.getD_eq_getElem?_getD,List.getElem?_eq_getElem om,List.getElem?_eq_getElem om] at this
  rw [List.getElem_drop,List.getElem_drop]
  simpa using this
theorem sb_eq {a b : ByteArray} {i j : Int} (h : sbyte a i = sbyte b j) : a.data.toList.getD i.toNat 0 = b.data.toList.getD j.toNat 0 := by
 unfold sbyte at h
 exact UInt8.toNat_inj.1 (Int.ofNat.inj h)
theorem front_list (a t : ByteArray) : a.data.toList.take (frN a t) = t.data.toList.take (frN a t) := by
 have hfb := fb_le a t
 refine take_eq (by rw [ba_len]; omega) (by rw [ba_len]; omega) fun j hj => ?_
 have h := cnt_all (p := pF a t) (n := mn a t) hj
 unfold pF at h
 have := sb_eq (beq_iff_eq.1 h)
 simpa using this
theorem back_list (a t : ByteArray) : a.data.toList.drop (a.size - bkN a t) = t.data.toList.drop (t.size - bkN a t) := by
 have hfb := fb_le a t
 have h1 : a.data.toList.length = a.size := ba_len a
 have h2 : t.data.toList.length = t.size := ba_len t
 have := drop_eq (x := a.data.toList) (y := t.data.toList) (n := bkN a t) om om fun j hj => by
  have h := cnt_all (p := qB a t) (n := mn a t - frN a t) hj
  unfold qB at h
  have := sb_eq (beq_iff_eq.1 h)
  rw [show (((a.size : Int) - 1) - (j : Int)).toNat = a.size - 1 - j by omega,show (((t.size : Int) - 1) - (j : Int)).toNat = t.size - 1 - j by omega] at this
  rw [h1,h2]; exact this
 rw [h1,h2] at this
 exact this
theorem whole (a t : ByteArray) : a.data.toList.take (frN a t) ++ ((md a t).data.toList ++ a.data.toList.drop (a.size - bkN a t)) = t.data.toList := by
 have hfb := fb_le a t
 have h2 : t.data.toList.length = t.size := ba_len t
 rw [front_list,back_list]
 unfold md
 rw [ext_list]
 have e1 : t.data.toList.take (t.size - bkN a t) = t.data.toList.take (frN a t) ++ (t.data.toList.take (t.size - bkN a t)).drop (frN a t) := by
  have := (List.take_append_drop (frN a t) (t.data.toList.take (t.size - bkN a t))).symm
  rwa [List.take_take,Nat.min_eq_left om] at this
 rw [← List.append_assoc,← e1,List.take_append_drop]
theorem piece1 {a t : ByteArray} : (pieceF a ⟨0,0,frN a t,ByteArray.empty⟩).data.toList = a.data.toList.take (frN a t) := by
 show (a.extract 0 (0 + frN a t)).data.toList = _
 rw [ext_list,Nat.zero_add,List.drop_zero]
theorem piece2 {a t : ByteArray} : (pieceF a ⟨1,0,0,md a t⟩).data.toList = (md a t).data.toList := rfl
theorem piece3 {a t : ByteArray} : (pieceF a ⟨0,a.size - bkN a t,bkN a t,ByteArray.empty⟩).data.toList = a.data.toList.drop (a.size - bkN a t) := by
 have hfb := fb_le a t
 show (a.extract (a.size - bkN a t) (a.size - bkN a t + bkN a t)).data.toList = _
 rw [ext_list,List.take_of_length_le (by rw [ba_len]; omega)]
theorem applyP_mk {a t : ByteArray} (ht : t.size ≤ 32768) : applyP a (mkP a t) [] = (0,t.data.toList) := by
 have hfb := fb_le a t
 have hms := md_size a t
 have hw := whole a t
 have l1 : (a.data.toList.take (frN a t)).length = frN a t := by rw [List.length_take,ba_len]; omega
 have l2 : (md a t).data.toList.length = (md a t).size := ba_len _
 have l3 : (a.data.toList.drop (a.size - bkN a t)).length = bkN a t := by rw [List.length_drop,ba_len]; omega
 have s1 : (pieceF a ⟨0,0,frN a t,ByteArray.empty⟩).size = frN a t := by rw [← ba_len,piece1,l1]
 have s2 : (pieceF a ⟨1,0,0,md a t⟩).size = (md a t).size := rfl
 have s3 : (pieceF a ⟨0,a.size - bkN a t,bkN a t,ByteArray.empty⟩).size = bkN a t := by rw [← ba_len,piece3,l3]
 have c3 : ∀ acc : List UInt8,acc.length + bkN a t ≤ 32768 → applyP a (if 0 < bkN a t then [⟨0,a.size - bkN a t,bkN a t,ByteArray.empty⟩] else []) acc = (0,acc ++ a.data.toList.drop (a.size - bkN a t)) := by
  intro acc hacc
  split
  ·rw [applyP_some (by rintro ⟨_,h⟩; have h' : a.size < (a.size - bkN a t) + bkN a t := h; omega) (by rw [s3]; omega),piece3]; rfl
  ·rw [List.eq_nil_of_length_eq_zero (show (a.data.toList.drop (a.size - bkN a t)).length = 0 by omega),List.append_nil]; rfl
 have c2 : ∀ acc : List UInt8,acc.length + ((md a t).size + bkN a t) ≤ 32768 → applyP a ((if mdE a t = true then [] else [⟨1,0,0,md a t⟩]) ++ (if 0 < bkN a t then [⟨0,a.size - bkN a t,bkN a t,ByteArray.empty⟩] else [])) acc = (0,acc ++ ((md a t).data.toList ++ a.data.toList.drop (a.size - bkN a t))) := by
  intro acc hacc
  by_cases hm : mdE a t = true
  ·rw [if_pos hm,List.nil_append,c3 acc om]
   rw [mdE_eq] at hm
   have := dT hm
   rw [List.eq_nil_of_length_eq_zero (show (md a t).data.toList.length = 0 by omega),List.nil_append]
  ·rw [if_neg hm,List.singleton_append,applyP_some (by rintro ⟨h,_⟩; exact absurd h Nat.one_ne_zero) (by rw [s2]; omega),piece2,c3 _ (by rw [List.length_append,l2]; omega),List.append_assoc]
 unfold mkP
 by_cases hf : 0 < frN a t
 ·rw [if_pos hf,List.singleton_append,applyP_some (by rintro ⟨_,h⟩; have h' : a.size < 0 + frN a t := h; omega) (by rw [s1,List.length_nil]; omega),piece1,List.nil_append,c2 _ (by rw [l1]; omega),hw]
 ·rw [if_neg hf,List.nil_append,c2 [] (by rw [List.length_nil]; omega),List.nil_append]
  rw [List.eq_nil_of_length_eq_zero (show (a.data.toList.take (frN a t)).length = 0 by omega),List.nil_append] at hw
  rw [hw]
theorem apply_mk {a t : ByteArray} (ha : a.size ≤ 10000000) (ht : t.size ≤ 32768) : applyF a (mk a t) = (t.data.toList,0) := by
 obtain ⟨h1,h2,h3⟩ := parse_mk ha ht
 refine applyF_ok (by rw [end_mk ha ht]; simp) (by rw [h1]; simp) (by rw [h3]; exact applyP_mk ht) (by rw [h2,ba_len]; simp)
theorem mk_len (a t : ByteArray) : (mk a t).length ≤ 35 + (md a t).size := by
 have f4 : ∀ n,(four n).length = 4 := fun n => be_len _ _
 have e : (mk a t).length = 12 + (flat layP (mkP a t)).length := by
  unfold mk rowP
  have x1 : ((four a.size ++ four t.size) ++ (four (mkP a t).length ++ flat layP (mkP a t))).length = (four a.size ++ four t.size).length + (four (mkP a t).length ++ flat layP (mkP a t)).length := List.length_append
  have x2 : (four a.size ++ four t.size).length = (four a.size).length + (four t.size).length := List.length_append
  have x3 : (four (mkP a t).length ++ flat layP (mkP a t)).length = (four (mkP a t).length).length + (flat layP (mkP a t)).length := List.length_append
  have y1 := f4 a.size
  have y2 := f4 t.size
  have y3 := f4 (mkP a t).length
  omega
 rw [e]
 unfold mkP
 rw [flat_app,flat_app,List.length_append,List.length_append]
 have h1 : (flat layP (if 0 < frN a t then [(⟨0,0,frN a t,ByteArray.empty⟩ : PT)] else [])).length ≤ 9 := by
  split
  ·rw [flat_one,layP_copy,List.length_cons,List.length_append,be_len,be_len]; decide
  ·exact Nat.zero_le _
 have h2 : (flat layP (if mdE a t = true then [] else [(⟨1,0,0,md a t⟩ : PT)])).length ≤ 5 + (md a t).size := by
  split
  ·exact Nat.zero_le _
  ·rw [flat_one,layP_new,List.length_cons,text4_len]; omega
 have h3 : (flat layP (if 0 < bkN a t then [(⟨0,a.size - bkN a t,bkN a t,ByteArray.empty⟩ : PT)] else [])).length ≤ 9 := by
  split
  ·rw [flat_one,layP_copy,List.length_cons,List.length_append,be_len,be_len]; decide
  ·exact Nat.zero_le _
 omega
theorem emp_eq {s : ByteArray} (h : s.size = 0) : (s.toList == (⟨#[]⟩ : ByteArray).toList) = true := by
 have h1 : s.data.toList.length = s.size := ba_len s
 rw [baToList,baToList,List.eq_nil_of_length_eq_zero (show s.data.toList.length = 0 by omega)]; rfl
theorem emp_ne {s : ByteArray} (h : ¬ s.size = 0) : (s.toList == (⟨#[]⟩ : ByteArray).toList) = false := by
 have h1 : s.data.toList.length = s.size := ba_len s
 rw [baToList,baToList]
 cases hs : s.data.toList with
 | nil => rw [hs] at h1; exact absurd h1.symm h
 | cons x l => rfl
end Go.Proofs.YtbeegepcdglcaaaGreatDoor
namespace Go.Proofs.YtbeegepcdglcaaaGreatDoor
open K
set_option linter.unusedVariables false
def digT : ByteArray := ⟨#[48,49,50,51,52,53,54,55,56,57,97,98,99,100,101,102]⟩
def hexD (n : Nat) : UInt8 := digT.data.toList.getD n 0
def hexL (l : List UInt8) : List UInt8 := l.flatMap fun b => [hexD (b.toNat / 16),hexD (b.toNat % 16)]
def hexS (l : List UInt8) : ByteArray := ⟨(hexL l).toArray⟩
def hexRow (l : List UInt8) (k : Nat) : List UInt8 := hexL (l.take k) ++ List.replicate (64 - 2 * k) 0
theorem hexL_len (l : List UInt8) : (hexL l).length = 2 * l.length := by
 induction l with
 | nil => rfl
 | cons x l ih => simp only [hexL,List.flatMap_cons,List.length_append,List.length_cons,List.length_nil] at *; omega
theorem hexRow_len {l : List UInt8} (hl : l.length = 32) {k : Nat} (hk : k ≤ 32) : (hexRow l k).length = 64 := by
 simp [hexRow,hexL_len]; omega
theorem hexRow_end {l : List UInt8} (hl : l.length = 32) : hexRow l 32 = hexL l := by
 simp [hexRow,List.take_of_length_le (show l.length ≤ 32 by omega)]
theorem byte_lt (b : UInt8) : b.toNat < 256 := UInt8.toNat_lt b
theorem set_two (A : List UInt8) (n : Nat) (x y : UInt8) (hn : 2 ≤ n) : ((A ++ List.replicate n 0).set A.length x).set (A.length + 1) y = A ++ [x,y] ++ List.replicate (n - 2) 0 := by
 obtain ⟨m,rfl⟩ : ∃ m,n = m + 2 := ⟨n - 2,by omega⟩
 simp [List.replicate_succ]
theorem u8_back (b : UInt8) : UInt8.ofNat ((b.toNat : Int)).toNat = b := by simp
theorem hexRow_step {l : List UInt8} (hl : l.length = 32) {k : Nat} (hk : k < 32) {x y : Int} (hx : x = ((hexD ((l.getD k 0).toNat / 16)).toNat : Int)) (hy : y = ((hexD ((l.getD k 0).toNat % 16)).toNat : Int)) :
  ((bv (hexRow l k)).setIfInBounds (2 * k) (.int .u8 x)).setIfInBounds (2 * k + 1) (.int .u8 y) = bv (hexRow l (k + 1)) := by
 subst hx hy
 have b1 := byte_lt (hexD ((l.getD k 0).toNat / 16))
 have b2 := byte_lt (hexD ((l.getD k 0).toNat % 16))
 rw [bv_set om om,bv_set om om,u8_back,u8_back]
 congr 1
 have hlen : (hexL (l.take k)).length = 2 * k := by rw [hexL_len]; simp; omega
 have ht : l.take (k + 1) = l.take k ++ [l.getD k 0] := by
  rw [List.take_succ_eq_append_getElem om]; simp [List.getElem?_eq_getElem (show k < l.length by omega)]
 have := set_two (hexL (l.take k)) (64 - 2 * k) (hexD ((l.getD k 0).toNat / 16)) (hexD ((l.getD k 0).toNat % 16)) om
 rw [hlen] at this
 unfold hexRow
 rw [this,ht]
 simp only [hexL,List.flatMap_append,List.flatMap_cons,List.flatMap_nil,List.append_nil]
 rw [show 64 - 2 * k - 2 = 64 - 2 * (k + 1) by omega]
theorem and15 (x : Nat) : x &&& 15 = x % 16 := Nat.and_two_pow_sub_one_eq_mod x 4
theorem hex_str {P : Program} {l : List UInt8} {w0 w : World} {M : List Nat} {R O : List (Nat × Obj)} {b k : Nat} {t : TypeId} (hl : l.length = 32) (hk : k = 32) (h : HP w0 M R O w) (ho : O[0]? = some (b,.cells (bv (hexRow l k)) t (0,0))) :
  (Conv.bytesToString (.slice (some ⟨b,0,none⟩) 64 64)).run P w = .ok (.string (hexS l)) w := by
 subst hk
 have hr := h.ostr (P := P) (c := 64) 0 ho (hexRow_len hl om)
 rw [hexRow_end hl] at hr; exact hr
set_option maxRecDepth 100000 in
theorem shaHex (l : List UInt8) (w : World) (hl : l.length = 32) :
  Calls Tryz.prog 63 #[.agg (bv l)] w fun e w' => e = .returned (.string (hexS l)) ∧ Ext [] w w' := by
 refine enter (vs := [.agg (bv l)]) [] [] [] Tryz.func63 rfl kr (HP.start w) ?_
 refine Cfg.begL rfl ?_
 refine Le (Eff.box (v := .agg (bv l)) rfl kr) ?_
 rintro d ⟨hd,nd⟩
 refine Lp 1 [] (some [1]) n0 trivial ?_
 refine CfgL.done rfl ?_
 refine Cfg.begL rfl ?_
 refine Le (Eff.alloc (z := (.agg (bv (List.replicate 64 0)))) rfl kr) ?_
 rintro t ⟨ht,nt⟩
 refine CfgL.done rfl ?_
 refine Rg [3,6,7] [(dS (.agg (bv l)))] (fun S => [(∀ w1,S w1 → (loadVar 36 ⟨d,0,none⟩).run Tryz.prog w1 = .ok (.agg (bv l)) w1)]) ⟨(fun w1 h => h.oload 1 rfl Tryz.underlying36 rfl (n := 32) kr ((bv_size l).trans hl)),trivial⟩ ?_
 refine Cfg.loop rfl (ι := Nat) (fun (k : Nat) => [(7,[],.int .i64 (k : Int)),(6,[],.agg (bv l)),(3,[],pT t)]) (fun (k : Nat) => [(t,.cells (bv (hexRow l k)) 133 (0,0)),(d,.cells (bv l) 36 (0,0))]) (fun (k : Nat) => (k ≤ 32)) (fun (k : Nat) => 32 - k) 0 ?_ (Conv.mk kr) slr ?_
 ·exact Nat.zero_le _
 ·rintro k hk
  refine Rg [3,6,7,8] [] n0 trivial ?_
  refine Cfg.cond rfl (b := (decide ((k : Int) < (32 : Int)))) kr (fun c1r => ?_) (fun c1r => ?_)
  ·have c1 := (dT c1r)
   refine Rg [3,4,5,6,7] [dZ,(dS (.int .u8 ((l.getD k 0).toNat : Int)))] (fun _ => [(iL (k : Int) 32),(((bv l))[k]? = some (.int .u8 ((l.getD k 0).toNat : Int)))]) ⟨(by have hb := byte_lt (l.getD k 0); have h15 := and15 (l.getD k 0).toNat; omega),(bv_get hl om),trivial⟩ ?_
   refine Cfg.begL rfl ?_
   refine Lp 6 [] (some [3,4,5,6,7,15,16]) (fun _ => [(i6 (2 * (k : Int))),(0 ≤ (4 : Int) ∧ 4 ≤ 8),(iL (((l.getD k 0).toNat : Int) / 16) 16),(iL (2 * (k : Int)) 64)]) ⟨(by have hb := byte_lt (l.getD k 0); have h15 := and15 (l.getD k 0).toNat; omega),(by have hb := byte_lt (l.getD k 0); have h15 := and15 (l.getD k 0).toNat; omega),(by have hb := byte_lt (l.getD k 0); have h15 := and15 (l.getD k 0).toNat; omega),(by have hb := byte_lt (l.getD k 0); have h15 := and15 (l.getD k 0).toNat; omega),trivial⟩ ?_
   refine Le (Eff.store1 (b := t) (off := (2 * k)) (v := .int .u8 (sbyte ⟨#[48,49,50,51,52,53,54,55,56,57,97,98,99,100,101,102]⟩ (((l.getD k 0).toNat : Int) / 16))) rfl kr kr rfl kr 0 (cs := (bv (hexRow l k))) (e := 133) kr (by simp [bv_size,hexRow_len hl (show k ≤ 32 by omega)]; omega)) ?_
   rintro ⟨⟩ -
   refine CfgL.done rfl ?_
   refine Cg (Γ' := [(5,[],.int .u8 ((l.getD k 0).toNat : Int)),(4,[],.int .i64 (k : Int)),(7,[],.int .i64 (k : Int)),(6,[],.agg (bv l)),(3,[],pT t)]) ?_
   refine Cfg.begL rfl ?_
   refine Lp 7 [] (some [3,6,7,22,23]) (fun _ => [(i6 (2 * (k : Int))),(i6 ((2 * (k : Int)) + 1)),((0 ≤ ((l.getD k 0).toNat : Int) ∧ ((l.getD k 0).toNat : Int) ≤ 255) ∧ 0 ≤ (15 : Int) ∧ (15 : Int) ≤ 255),(iL ((((l.getD k 0).toNat) &&& 15 : Nat) : Int) 16),(iL ((2 * (k : Int)) + 1) 64)]) ⟨(by have hb := byte_lt (l.getD k 0); have h15 := and15 (l.getD k 0).toNat; omega),(by have hb := byte_lt (l.getD k 0); have h15 := and15 (l.getD k 0).toNat; omega),(by have hb := byte_lt (l.getD k 0); have h15 := and15 (l.getD k 0).toNat; omega),(by have hb := byte_lt (l.getD k 0); have h15 := and15 (l.getD k 0).toNat; omega),(by have hb := byte_lt (l.getD k 0); have h15 := and15 (l.getD k 0).toNat; omega),trivial⟩ ?_
   refine Le (Eff.store1 (b := t) (off := ((2 * k) + 1)) (v := .int .u8 (sbyte ⟨#[48,49,50,51,52,53,54,55,56,57,97,98,99,100,101,102]⟩ ((((l.getD k 0).toNat) &&& 15 : Nat) : Int))) rfl kr kr rfl kr 0 (cs := ((bv (hexRow l k)).setIfInBounds (2 * k) (.int .u8 (sbyte ⟨#[48,49,50,51,52,53,54,55,56,57,97,98,99,100,101,102]⟩ (((l.getD k 0).toNat : Int) / 16))))) (e := 133) kr (by simp [bv_size,hexRow_len hl (show k ≤ 32 by omega)]; omega)) ?_
   rintro ⟨⟩ -
   refine CfgL.done rfl ?_
   refine Cg (Γ' := [(7,[],.int .i64 (k : Int)),(6,[],.agg (bv l)),(3,[],pT t)]) ?_
   refine Rg [3,6,7] [] (fun _ => [(i6 ((k : Int) + 1))]) ⟨(by have hb := byte_lt (l.getD k 0); have h15 := and15 (l.getD k 0).toNat; omega),trivial⟩ ?_
   refine Cfg.setO (congrArg (fun (xq : Array Value) => ([(t,.cells xq 133 (0,0)),(d,.cells (bv l) 36 (0,0))] : LO)) (show _ = (bv (hexRow l (k + 1))) from hexRow_step hl om rfl (by rw [and15]; rfl))) ?_
   refine Cfg.again rfl (k + 1) (show k + 1 ≤ 32 by omega) om (Conv.mk kr) (.cons_cons _ (.cons_cons _ .slnil))
  ·have c1 := (dF c1r)
   refine Rg [2] [dZ,(dS (.string (hexS l)))] (fun S => [(64 ≤ 64),(∀ w1,S w1 → (Conv.bytesToString (.slice (some ⟨t,0,none⟩) 64 64)).run Tryz.prog w1 = .ok (.string (hexS l)) w1)]) ⟨(by have hb := byte_lt (l.getD k 0); have h15 := and15 (l.getD k 0).toNat; omega),(fun w1 h => hex_str hl om h rfl),trivial⟩ ?_
   refine Cfg.ret rfl (rs := [.tmp 2]) rfl [.string (hexS l)] ⟨kr,trivial⟩ (fun w1 hp => ?_)
   exact ⟨rfl,hp.ext⟩
end Go.Proofs.YtbeegepcdglcaaaGreatDoor
namespace Go.Proofs.YtbeegepcdglcaaaGreatDoor
namespace K
open Go.ChangeShapes Go.WideShapes
theorem flat_get {α : Type} (f : α → List Value) (sz : Nat) : ∀ {l : List α},(∀ x ∈ l,(f x).length = sz) → ∀ {i j : Nat} (hi : i < l.length),j < sz → (l.flatMap f)[i * sz + j]? = (f l[i])[j]?
 | [],_,i,j,hi,_ => by simp at hi
 | x :: l,h,i,j,hi,hj => by
  have hx := h x mH
  rw [List.flatMap_cons]
  cases i with
  | zero => rw [Nat.zero_mul,Nat.zero_add,List.getElem?_append_left om]; rfl
  | succ i =>
   rw [List.getElem?_append_right (by rw [hx,Nat.succ_mul]; omega),hx,show (i + 1) * sz + j - sz = i * sz + j by rw [Nat.succ_mul]; omega]
   exact flat_get f sz (fun y hy => h y (List.mem_cons_of_mem _ hy)) (by simpa using hi) hj
section
variable {H : Type} {enc : TypeId × Value → H} {P : Program} {w : World} {base : Nat} {held : Bool}
end
end K
end Go.Proofs.YtbeegepcdglcaaaGreatDoor
namespace Go.Proofs.YtbeegepcdglcaaaGreatDoor
namespace K
def InF {α : Type} (f : α → List Value) (sz : Nat) (Rl : List (Nat × Obj)) (la : Option Addr) (l : List α) : Prop := InS Rl la (l.length * sz) (fun j => (l.flatMap f).getD j undef)
theorem InF.mono {α : Type} {f : α → List Value} {sz : Nat} {Rl Rl' : List (Nat × Obj)} {la : Option Addr} {l : List α} (h : InF f sz Rl la l) (hR : ∀ e ∈ Rl,e ∈ Rl') : InF f sz Rl' la l := InS.mono h hR
theorem fl_cell {α : Type} {f : α → List Value} {sz : Nat} {l : List α} (z : α) (hsz : ∀ x ∈ l,(f x).length = sz) {cs : Array Value} {off i : Nat} (hcs : ∀ j,j < l.length * sz → cs[off + j]? = some ((l.flatMap f).getD j undef)) (hi : i < l.length) {j : Nat} {v : Value} (hv : (f (l.getD i z))[j]? = some v) : cs[off + i * sz + j]? = some v := by
 have e : l.getD i z = l[i] := by rw [List.getD_eq_getElem?_getD,List.getElem?_eq_getElem hi]; rfl
 rw [e] at hv
 have hj : j < sz := by have := (List.getElem?_eq_some_iff.1 hv).1; rw [hsz _ (List.getElem_mem hi)] at this; exact this
 have h1 := flat_get f sz hsz hi hj
 have hlt : i * sz + j < l.length * sz := by
  have : i * sz + sz ≤ l.length * sz := by rw [← Nat.succ_mul]; exact Nat.mul_le_mul_right _ hi
  omega
 rw [Nat.add_assoc,hcs _ hlt,List.getD_eq_getElem?_getD,h1,hv]; rfl
theorem flat_len {α : Type} {f : α → List Value} {sz : Nat} : ∀ {l : List α},(∀ x ∈ l,(f x).length = sz) → (l.flatMap f).length = l.length * sz
 | [],_ => by simp
 | x :: l,h => by rw [List.flatMap_cons,List.length_append,h x mH,flat_len (fun y hy => h y (List.mem_cons_of_mem _ hy)),List.length_cons,Nat.succ_mul,Nat.add_comm]
theorem own_inf {α : Type} {f : α → List Value} {sz : Nat} {o : Own} {e : TypeId} {l : List α} (hok : OwnOk o sz l.length (l.flatMap f)) : InF f sz (o.o e (l.flatMap f)) o.a l := by
 intro hn
 have hn1 : 0 < l.length := Nat.pos_of_ne_zero (fun h => by rw [h,Nat.zero_mul] at hn; omega)
 obtain ⟨p,rfl⟩ := own_some hok hn1
 refine ⟨p.1,0,_,e,(0,0),rfl,mH,fun j hj => ?_⟩
 have hl := hok.len
 rw [Nat.zero_add]
 simp only [List.getElem?_toArray]
 rw [List.getElem?_append_left om,List.getD_eq_getElem?_getD,List.getElem?_eq_getElem om]; rfl
theorem getD_at {α : Type} {l : List α} {i : Nat} {z : α} (h : i < l.length) : l.getD i z = l[i] := by rw [List.getD_eq_getElem?_getD,List.getElem?_eq_getElem h]; rfl
theorem getD_mem {α : Type} {l : List α} {i : Nat} {z : α} (h : i < l.length) : l.getD i z ∈ l := by rw [getD_at h]; exact List.getElem_mem h
section
variable {C : Cx} {R O : List (Nat × Obj)} {Γ : Env} {op : Oper}
end
end K
end Go.Proofs.YtbeegepcdglcaaaGreatDoor
namespace Go.Proofs.YtbeegepcdglcaaaGreatDoor
namespace K
section
variable {C : Cx} {R O : List (Nat × Obj)} {Γ : Env} {op : Oper}
end
theorem load_list {P : Program} {w : World} {b off n : Nat} {ty : TypeId} {d : TypeDesc} {vs : List Value} (hu : P.underlying ty = some d) (hd : (match d with | .struct _ | .array _ _ => true | _ => false) = true) (hi : (P.info? ty).map (·.size) = some n) (hl : vs.length = n)
  (h : ∀ j v,vs[j]? = some v → w.cell? ⟨b,off + j,none⟩ = some v) : (loadVar ty ⟨b,off,none⟩).run P w = .ok (.agg vs.toArray) w := by
 obtain ⟨inf,hinf,hs⟩ := Option.map_eq_some_iff.1 hi
 have h1 := run_loadCells_list (P := P) w ⟨b,off,none⟩ vs (fun j v hj => by rw [add_none]; exact h j v hj)
 rw [hl] at h1
 have h3 : (isAgg ty).run P w = .ok true w := by
  simp only [isAgg,Sem.run_bind,run_underlying' hu,Result.andThen_ok]
  cases d <;> simp_all
 have h4 : (sizeOf ty).run P w = .ok n w := by rw [run_sizeOf' hinf,hs]
 simp [loadVar,h3,h4,h1]
end K
end Go.Proofs.YtbeegepcdglcaaaGreatDoor
namespace Go.Proofs.YtbeegepcdglcaaaGreatDoor
namespace K
open Go.MapKept
def mfind (k : Int) : List (Int × Value) → Nat → Option (Nat × Value)
 | [],_ => none
 | p :: W,i => if k = p.1 then some (i,p.2) else mfind k W (i + 1)
def mget (W : List (Int × Value)) (k : Int) : Option Value := match W with
 | [] => none
 | p :: W => if k = p.1 then some p.2 else mget W k
def mset (W : List (Int × Value)) (k : Int) (v : Value) : List (Int × Value) := match W with
 | [] => [(k,v)]
 | p :: W => if k = p.1 then (k,v) :: W else p :: mset W k v
theorem mfind_get (k : Int) : ∀ (W : List (Int × Value)) (i : Nat),(mfind k W i).map (·.2) = mget W k
 | [],_ => rfl
 | p :: W,i => by
  unfold mfind mget
  split
  ·rfl
  ·exact mfind_get k W (i + 1)
theorem mget_set (W : List (Int × Value)) (k : Int) (v : Value) (j : Int) : mget (mset W k v) j = if j = k then some v else mget W j := by
 induction W with
 | nil => simp [mset,mget]
 | cons p W ih =>
  unfold mset
  by_cases h : k = p.1
  ·rw [if_pos h]
   unfold mget
   by_cases hj : j = k
   ·rw [if_pos hj,if_pos hj]
   ·simp only [if_neg hj]
    rw [if_neg (show ¬ j = p.1 from fun e => hj (by rw [e,h]))]
  ·rw [if_neg h]
   unfold mget
   by_cases hj : j = p.1
   ·rw [if_pos hj,if_neg (fun e => h (by rw [← e,hj])),if_pos hj]
   ·rw [if_neg hj,if_neg hj,ih]
theorem mfind_some {k : Int} : ∀ {W : List (Int × Value)} {i j : Nat} {v : Value},mfind k W i = some (j,v) → i ≤ j ∧ W[j - i]? = some (k,v)
 | [],_,_,_,h => by cases h
 | p :: W,i,j,v,h => by
  unfold mfind at h
  split at h
  ·rename_i hk
   simp only [Option.some.injEq,Prod.mk.injEq] at h
   obtain ⟨rfl,rfl⟩ := h
   refine ⟨Nat.le_refl _,?_⟩
   rw [Nat.sub_self,List.getElem?_cons_zero,hk]
  ·obtain ⟨h1,h2⟩ := mfind_some h
   refine ⟨by omega,?_⟩
   rw [show j - i = (j - (i + 1)) + 1 by omega,List.getElem?_cons_succ]; exact h2
theorem mfind_set {k : Int} (u : Value) : ∀ {W : List (Int × Value)} {i j : Nat} {v : Value},mfind k W i = some (j,v) → mset W k u = W.set (j - i) (k,u)
 | [],_,_,_,h => by cases h
 | p :: W,i,j,v,h => by
  unfold mfind at h
  unfold mset
  split at h
  ·rename_i hk
   simp only [Option.some.injEq,Prod.mk.injEq] at h
   obtain ⟨rfl,rfl⟩ := h
   rw [if_pos hk,Nat.sub_self,List.set_cons_zero]
  ·rename_i hk
   have h1 := (mfind_some h).1
   rw [if_neg hk,mfind_set u h,show j - i = (j - (i + 1)) + 1 by omega,List.set_cons_succ]
theorem mfind_none {k : Int} (u : Value) : ∀ {W : List (Int × Value)} {i : Nat},mfind k W i = none → mset W k u = W ++ [(k,u)] ∧ ∀ p ∈ W,p.1 ≠ k
 | [],_,_ => ⟨rfl,fun p h => by cases h⟩
 | p :: W,i,h => by
  unfold mfind at h
  unfold mset
  split at h
  ·cases h
  ·rename_i hk
   obtain ⟨h1,h2⟩ := mfind_none u h
   rw [if_neg hk,h1]
   refine ⟨rfl,fun q hq => ?_⟩
   rcases List.mem_cons.1 hq with rfl | hq
   ·exact fun e => hk e.symm
   ·exact h2 q hq
section
variable {P : Program} {w : World}
end
section
variable {C : Cx} {R O : List (Nat × Obj)} {Γ : Env} {op : Oper}
theorem Eff.mapNew {t : TypeId} (ho : op.op = .makeMap t none) : Eff C R O Γ op Nat (fun b => .map (some b)) (fun b => (b,.map #[] 0) :: O) (fun b => C.w0.heap.size ≤ b ∧ b ∉ O.map (·.1)) := by
 refine Eff.of_run fun a w hs hp => ⟨w.heap.size,w.alloc (.map #[] 0),⟨hp.ext.size,hp.fresh (Nat.le_refl _)⟩,?_,hp.alloc _⟩
 simp [execOp,ho,Instr.makeMap,newObj,Sem.run]
end
end K
end Go.Proofs.YtbeegepcdglcaaaGreatDoor
namespace Go.Proofs.YtbeegepcdglcaaaGreatDoor
namespace K
open Go.MapKept
structure DMapOk (n : Nat) (es : Array MapEntry) (ck : Nat) (W : List (List UInt8 × Value)) : Prop where
 rel : es.toList.map (fun e => (e.key,e.val)) = W.map fun p => (Value.agg (bv p.1),p.2)
 st : Stamped es ck
 len : ∀ p ∈ W,p.1.length = n
def dfind (k : List UInt8) : List (List UInt8 × Value) → Nat → Option (Nat × Value)
 | [],_ => none
 | p :: W,i => if k = p.1 then some (i,p.2) else dfind k W (i + 1)
def dget (W : List (List UInt8 × Value)) (k : List UInt8) : Option Value := match W with
 | [] => none
 | p :: W => if k = p.1 then some p.2 else dget W k
def dset (W : List (List UInt8 × Value)) (k : List UInt8) (v : Value) : List (List UInt8 × Value) := match W with
 | [] => [(k,v)]
 | p :: W => if k = p.1 then (k,v) :: W else p :: dset W k v
theorem dfind_get (k : List UInt8) : ∀ (W : List (List UInt8 × Value)) (i : Nat),(dfind k W i).map (·.2) = dget W k
 | [],_ => rfl
 | p :: W,i => by
  unfold dfind dget
  split
  ·rfl
  ·exact dfind_get k W (i + 1)
theorem dget_set (W : List (List UInt8 × Value)) (k : List UInt8) (v : Value) (j : List UInt8) : dget (dset W k v) j = if j = k then some v else dget W j := by
 induction W with
 | nil => simp [dset,dget]
 | cons p W ih =>
  unfold dset
  by_cases h : k = p.1
  ·rw [if_pos h]
   unfold dget
   by_cases hj : j = k
   ·rw [if_pos hj,if_pos hj]
   ·simp only [if_neg hj]
    rw [if_neg (show ¬ j = p.1 from fun e => hj (by rw [e,h]))]
  ·rw [if_neg h]
   unfold dget
   by_cases hj : j = p.1
   ·rw [if_pos hj,if_neg (fun e => h (by rw [← e,hj])),if_pos hj]
   ·rw [if_neg hj,if_neg hj,ih]
theorem dset_keys {W : List (List UInt8 × Value)} {k : List UInt8} {v : Value} : ∀ p ∈ dset W k v,p.1 = k ∨ p ∈ W := by
 induction W with
 | nil => intro p hp; rw [dset] at hp; rw [List.mem_singleton.1 hp]; exact .inl rfl
 | cons q W ih =>
  intro p hp
  unfold dset at hp
  split at hp
  ·rcases List.mem_cons.1 hp with rfl | hp
   ·exact .inl rfl
   ·exact .inr (List.mem_cons_of_mem _ hp)
  ·rcases List.mem_cons.1 hp with rfl | hp
   ·exact .inr mH
   ·rcases ih p hp with h | h
    ·exact .inl h
    ·exact .inr (List.mem_cons_of_mem _ h)
theorem dfind_some {k : List UInt8} : ∀ {W : List (List UInt8 × Value)} {i j : Nat} {v : Value},dfind k W i = some (j,v) → i ≤ j ∧ W[j - i]? = some (k,v)
 | [],_,_,_,h => by cases h
 | p :: W,i,j,v,h => by
  unfold dfind at h
  split at h
  ·rename_i hk
   simp only [Option.some.injEq,Prod.mk.injEq] at h
   obtain ⟨rfl,rfl⟩ := h
   refine ⟨Nat.le_refl _,?_⟩
   rw [Nat.sub_self,List.getElem?_cons_zero,hk]
  ·obtain ⟨h1,h2⟩ := dfind_some h
   refine ⟨by omega,?_⟩
   rw [show j - i = (j - (i + 1)) + 1 by omega,List.getElem?_cons_succ]; exact h2
theorem dfind_set {k : List UInt8} (u : Value) : ∀ {W : List (List UInt8 × Value)} {i j : Nat} {v : Value},dfind k W i = some (j,v) → dset W k u = W.set (j - i) (k,u)
 | [],_,_,_,h => by cases h
 | p :: W,i,j,v,h => by
  unfold dfind at h
  unfold dset
  split at h
  ·rename_i hk
   simp only [Option.some.injEq,Prod.mk.injEq] at h
   obtain ⟨rfl,rfl⟩ := h
   rw [if_pos hk,Nat.sub_self,List.set_cons_zero]
  ·rename_i hk
   have h1 := (dfind_some h).1
   rw [if_neg hk,dfind_set u h,show j - i = (j - (i + 1)) + 1 by omega,List.set_cons_succ]
theorem dfind_none {k : List UInt8} (u : Value) : ∀ {W : List (List UInt8 × Value)} {i : Nat},dfind k W i = none → dset W k u = W ++ [(k,u)] ∧ ∀ p ∈ W,p.1 ≠ k
 | [],_,_ => ⟨rfl,fun p h => by cases h⟩
 | p :: W,i,h => by
  unfold dfind at h
  unfold dset
  split at h
  ·cases h
  ·rename_i hk
   obtain ⟨h1,h2⟩ := dfind_none u h
   rw [if_neg hk,h1]
   refine ⟨rfl,fun q hq => ?_⟩
   rcases List.mem_cons.1 hq with rfl | hq
   ·exact fun e => hk e.symm
   ·exact h2 q hq
theorem dset_d {n : Nat} {W : List (List UInt8 × Value)} {k : List UInt8} {v : Value} (hk : k.length = n) (h : ∀ p ∈ W,p.1.length = n) : ∀ p ∈ dset W k v,p.1.length = n := fun p hp => by
 rcases dset_keys p hp with e | e
 ·rw [e]; exact hk
 ·exact h p e
theorem bv_inj {a b : List UInt8} (h : bv a = bv b) : a = b := by
 have hlen : a.length = b.length := by rw [← bv_size a,← bv_size b,h]
 refine List.ext_getElem hlen fun i h1 h2 => ?_
 have e3 := congrArg (fun z : Array Value => z[i]?) h
 simp only [bv,List.getElem?_toArray,List.getElem?_map,List.getElem?_eq_getElem h1,List.getElem?_eq_getElem h2,Option.map_some,Option.some.injEq,Value.int.injEq,true_and] at e3
 exact UInt8.toNat_inj.1 om
structure DKey (P : Program) (kt e : TypeId) (n : Nat) : Prop where
 arr : P.underlying kt = some (.array n e)
 byte : P.underlying e = some (.int .u8)
 size : (P.info? e).map (·.size) = some 1
section
variable {P : Program} {w : World} {kt el : TypeId} {n : Nat}
theorem dkey_check (hd : DKey P kt el n) {xs : List UInt8} (hx : xs.length = n) (em : Bool) : (Instr.checkKey em 10000 kt (.agg (bv xs))).run P w = .ok () w := by
 obtain ⟨ht,he,hsz⟩ := hd
 obtain ⟨inf,hi,hs⟩ := Option.map_eq_some_iff.1 hsz
 have hz : ∀ w,(sizeOf el).run P w = .ok 1 w := fun w => by rw [run_sizeOf' hi,hs]
 show (Instr.checkKey em (9999 + 1) kt _).run P w = _
 rw [Instr.checkKey]
 simp only [Sem.run_bind,run_underlying' ht,Result.andThen_ok,Std.Legacy.Range.forIn_eq_forIn_range',Std.Legacy.Range.size,Nat.sub_zero,Nat.add_sub_cancel,Nat.div_one]
 have hl : ∀ i ∈ List.range' 0 n 1,i < n := fun i hi => by simpa using (List.mem_range'_1.1 hi).2
 generalize List.range' 0 n 1 = l at hl ⊢
 induction l with
 | nil => simp
 | cons i l ih =>
  have hi : i < n := hl i (by simp)
  have px : (part el (bv xs) (i * 1)).run P w = .ok (.int .u8 ((xs.getD i 0).toNat : Int)) w := by
   simp [part,isAgg,run_underlying' he,bv,List.getD,List.getElem?_eq_getElem (show i < xs.length by omega)]
  have pe : (Instr.checkKey em 9999 el (.int .u8 ((xs.getD i 0).toNat : Int))).run P w = .ok () w := by
   show (Instr.checkKey em (9998 + 1) el _).run P w = _
   rw [Instr.checkKey]
   simp only [Sem.run_bind,run_underlying' he,Result.andThen_ok]
   rfl
  simp only [List.forIn_cons,Sem.run_bind,hz,px,pe,Result.andThen_ok,Sem.run_pure]
  exact ih fun j hj => hl j (by simp [hj])
theorem dbits_self (l : List UInt8) : Instr.sameBits 10000 (.agg (bv l)) (.agg (bv l)) = true := by
 show Instr.sameBits (9999 + 1) _ _ = true
 unfold Instr.sameBits
 simp only [beq_self_eq_true,Bool.true_and,bv]
 induction l with
 | nil => rfl
 | cons b l ih =>
  simp only [List.map_cons,List.zip_cons_cons,List.all_cons] at ih ⊢
  rw [Bool.and_eq_true]
  exact ⟨by simp [Instr.sameBits],ih⟩
theorem dfind_of (hd : DKey P kt el n) {k : List UInt8} (hk : k.length = n) : ∀ (es : List MapEntry) (W : List (List UInt8 × Value)) (i : Nat),es.map (fun e => (e.key,e.val)) = W.map (fun p => (Value.agg (bv p.1),p.2)) → (∀ p ∈ W,p.1.length = n) →
  (Instr.findAsking kt (.agg (bv k)) es i).run P w = .ok (dfind k W i) w
 | [],[],_,_,_ => by
  unfold Instr.findAsking
  simp only [Sem.run_pure]; rfl
 | [],_ :: _,_,h,_ => by simp at h
 | _ :: _,[],_,h,_ => by simp at h
 | e :: es,p :: W,i,h,hl => by
  simp only [List.map_cons,List.cons.injEq,Prod.mk.injEq] at h
  obtain ⟨⟨h1,h2⟩,h3⟩ := h
  have heq : (Op.equal kt (.agg (bv k)) e.key).run P w = .ok (k == p.1) w := by
   rw [h1]; exact equal_bv hd.arr hd.byte hd.size hk (hl p mH)
  unfold Instr.findAsking dfind
  by_cases hkp : k = p.1
  ·rw [if_pos hkp]
   simp only [Sem.run_bind,heq,Result.andThen_ok,show (k == p.1) = true from beq_iff_eq.2 hkp,if_true,Sem.run_pure,h2]
  ·rw [if_neg hkp]
   simp only [Sem.run_bind,heq,Result.andThen_ok,show (k == p.1) = false from beq_eq_false_iff_ne.2 hkp,Bool.false_eq_true,if_false]
   exact dfind_of hd hk es W (i + 1) h3 fun q hq => hl q (List.mem_cons_of_mem _ hq)
theorem dkey_find (hd : DKey P kt el n) {k : List UInt8} (hk : k.length = n) {es : Array MapEntry} {ck : Nat} {W : List (List UInt8 × Value)} (h : DMapOk n es ck W) : (Instr.findKey kt (.agg (bv k)) es.toList).run P w = .ok (dfind k W 0) w := by
 have h1 := dfind_of (w := w) hd hk es.toList W 0 h.rel h.len
 unfold Instr.findKey
 simp only [Sem.run_bind,run_underlying' hd.arr,Result.andThen_ok]
 rw [← h1]
 generalize es.toList = l
 cases l with
 | nil => unfold Instr.findAsking; simp only [Instr.findNow]
 | cons en es => simp only [Instr.findNow,Instr.sameNow]
theorem drun_lookup {t kt e : TypeId} {k : List UInt8} {r : Nat} {es : Array MapEntry} {ck : Nat} {W : List (List UInt8 × Value)} {z : Value} (hm : P.underlying t = some (.map kt e)) (hd : DKey P kt el n) (hkn : k.length = n) (hz0 : (P.info? e).bind (·.zero) = some z) (hb : w.heap[r]? = some (.map es ck)) (h : DMapOk n es ck W) (ok : Bool) :
  (Instr.lookup t (.map (some r)) (.agg (bv k)) ok).run P w = .ok (if ok then .tuple #[(dget W k).getD z,.bool (dget W k).isSome] else (dget W k).getD z) w := by
 obtain ⟨inf,hi,hz⟩ := Option.bind_eq_some_iff.1 hz0
 have hzv : (zeroValue e).run P w = .ok z w := by simp [zeroValue,typeInfo,program,Sem.run,hi,hz]
 unfold Instr.lookup
 simp only [Sem.run_bind,run_underlying' hm,Result.andThen_ok,Go.MapKept.run_getObj_map hb,Sem.run_pure,dkey_check hd hkn,dkey_find hd hkn h]
 rw [← dfind_get k W 0]
 cases dfind k W 0 with
 | none => simp only [Sem.run_bind,hzv,Result.andThen_ok,Sem.run_pure]; cases ok <;> rfl
 | some p => cases ok <;> rfl
theorem drun_mapUpdate {t kt e : TypeId} {k : List UInt8} {v : Value} {r : Nat} {es : Array MapEntry} {ck : Nat} {W : List (List UInt8 × Value)} (hm : P.underlying t = some (.map kt e)) (hd : DKey P kt el n) (hkn : k.length = n) (hb : w.heap[r]? = some (.map es ck)) (h : DMapOk n es ck W) :
  ∃ es' ck',DMapOk n es' ck' (dset W k v) ∧ (Instr.mapUpdate t (.map (some r)) (.agg (bv k)) v).run P w = .ok () { w with heap := w.heap.setIfInBounds r (.map es' ck') } := by
 cases hf : dfind k W 0 with
 | none =>
  obtain ⟨h1,h2⟩ := dfind_none v hf
  refine ⟨es.push { key := .agg (bv k),val := v,born := ck },ck + 1,⟨?_,stamped_push h.st ?_,dset_d hkn h.len⟩,?_⟩
  ·rw [Array.toList_push,List.map_append,h.rel,h1,List.map_append]; rfl
  ·intro x hx hk
   have hx2 : (x.key,x.val) ∈ W.map fun p => (Value.agg (bv p.1),p.2) := by rw [← h.rel]; exact List.mem_map.2 ⟨x,hx,rfl⟩
   obtain ⟨p,hp,he⟩ := List.mem_map.1 hx2
   simp only [Prod.mk.injEq] at he
   rw [hk] at he
   have := he.1
   simp only [Value.agg.injEq] at this
   exact h2 p hp (bv_inj this)
  ·simp only [Instr.mapUpdate,Sem.run_bind,run_underlying' hm,Result.andThen_ok,Go.MapKept.run_getObj_map hb,dkey_check hd hkn,dkey_find hd hkn h,hf,Go.MapKept.run_setObj_map _ hb]
 | some jp =>
  obtain ⟨j,u⟩ := jp
  obtain ⟨_,hW⟩ := dfind_some hf
  rw [Nat.sub_zero] at hW
  have hlen : es.toList.length = W.length := by have := congrArg List.length h.rel; simpa using this
  have hjW : j < W.length := (List.getElem?_eq_some_iff.1 hW).1
  have hj : j < es.size := by rw [← Array.length_toList]; omega
  have hej : (es[j].key,es[j].val) = (Value.agg (bv k),u) := by
   have h3 : (es.toList.map (fun e => (e.key,e.val)))[j]? = (W.map fun p => (Value.agg (bv p.1),p.2))[j]? := by rw [h.rel]
   rw [List.getElem?_map,List.getElem?_map,hW,Array.getElem?_toList,Array.getElem?_eq_getElem hj] at h3
   simpa using h3
  simp only [Prod.mk.injEq] at hej
  have hkt : (Instr.keyThatStays (((es[j]?).map (·.key)).getD (.agg (bv k))) (.agg (bv k))).run P w = .ok (.agg (bv k)) w := by
   rw [Array.getElem?_eq_getElem hj,Option.map_some,Option.getD_some,hej.1]
   simp only [Instr.keyThatStays,dbits_self,if_true]; rfl
  refine ⟨es.modify j (fun e => { e with key := .agg (bv k),val := v }),ck,⟨?_,stamped_modify h.st j _ (fun _ _ => rfl) (fun e _ hge => by rw [Array.getElem?_eq_getElem hj] at hge; cases hge; exact hej.1.symm),dset_d hkn h.len⟩,?_⟩
  ·rw [dfind_set v hf,Nat.sub_zero,List.map_set,← h.rel]
   apply List.ext_getElem?
   intro q
   simp only [List.getElem?_map,Array.getElem?_toList,Array.getElem?_modify,List.getElem?_set,List.length_map,Array.length_toList]
   by_cases hq : j = q
   ·subst hq; simp [hj]
   ·simp [hq]
  ·simp only [Instr.mapUpdate,Sem.run_bind,run_underlying' hm,Result.andThen_ok,Go.MapKept.run_getObj_map hb,dkey_check hd hkn,dkey_find hd hkn h,hf,hkt,Go.MapKept.run_setObj_map _ hb]
end
section
variable {C : Cx} {R O : List (Nat × Obj)} {Γ : Env} {op : Oper} {el : TypeId} {n : Nat}
theorem Eff.dGet {t kt e : TypeId} {x y : Operand} {ok : Bool} (ho : op.op = .lookup t x y ok) (hm : C.P.underlying t = some (.map kt e)) (hd : DKey C.P kt el n) {z : Value} (hz0 : (C.P.info? e).bind (·.zero) = some z) {r : Nat} {k : List UInt8} (hkn : k.length = n) (hx : opd Γ [] x = some (.map (some r))) (hy : opd Γ [] y = some (.agg (bv k)))
  {es : Array MapEntry} {ck : Nat} {W : List (List UInt8 × Value)} (h : DMapOk n es ck W) (hb : ∀ w,HP C.w0 C.M R O w → w.heap[r]? = some (.map es ck)) :
  Eff C R O Γ op Unit (fun _ => if ok then .tuple #[(dget W k).getD z,.bool (dget W k).isSome] else (dget W k).getD z) (fun _ => O) (fun _ => True) :=
 Eff.of_run fun a w hs hp => ⟨(),w,trivial,by
  simp only [execOp,ho]
  refine run_v ?_
  rw [opd_ok hs (holds_nil _) hx,opd_ok hs (holds_nil _) hy]
  exact drun_lookup hm hd hkn hz0 (hb w hp) h ok,hp⟩
theorem Eff.dSet {t kt e : TypeId} {x y v : Operand} (ho : op.op = .mapUpdate t x y v) (hm : C.P.underlying t = some (.map kt e)) (hd : DKey C.P kt el n) {r : Nat} {k : List UInt8} {u : Value} (hkn : k.length = n) (hx : opd Γ [] x = some (.map (some r))) (hy : opd Γ [] y = some (.agg (bv k))) (hv : opd Γ [] v = some u)
  {es : Array MapEntry} {ck : Nat} {W : List (List UInt8 × Value)} (h : DMapOk n es ck W) (i : Nat) (hO : O[i]? = some (r,.map es ck)) :
  Eff C R O Γ op (Array MapEntry × Nat) (fun _ => undef) (fun x => O.set i (r,.map x.1 x.2)) (fun x => DMapOk n x.1 x.2 (dset W k u)) := by
 refine Eff.of_skip fun a w hs hp => ?_
 obtain ⟨es',ck',h1,h2⟩ := drun_mapUpdate (v := u) (k := k) hm hd hkn (hp.own _ (List.mem_of_getElem? hO)) h
 refine ⟨(es',ck'),_,h1,?_,hp.set i (.map es' ck') hO (w' := { w with heap := w.heap.setIfInBounds r (.map es' ck') }) rfl rfl rfl rfl⟩
 have e1 := opd_ok hs (holds_nil _) hx
 have e2 := opd_ok hs (holds_nil _) hy
 have e3 := opd_ok hs (holds_nil _) hv
 simp [execOp,ho,e1,e2,e3,h2]
theorem DMapOk.empty (n ck : Nat) : DMapOk n #[] ck [] := ⟨rfl,stamped_empty ck,fun _ h => by cases h⟩
end
end K
end Go.Proofs.YtbeegepcdglcaaaGreatDoor
namespace Go.Proofs.YtbeegepcdglcaaaGreatDoor
namespace K
open Go.MapKept
structure BMapOk (es : Array MapEntry) (ck : Nat) (W : List (Int × Value)) : Prop where
 rel : es.toList.map (fun e => (e.key,e.val)) = W.map fun p => (Value.int .u8 p.1,p.2)
 st : Stamped es ck
theorem bfindNow_of (q : IntKind) (k : Int) : ∀ (es : List MapEntry) (W : List (Int × Value)) (i : Nat),es.map (fun e => (e.key,e.val)) = W.map (fun p => (Value.int .u8 p.1,p.2)) → Instr.findNow (.int q) (.int .u8 k) es i = some (mfind k W i)
 | [],[],_,_ => rfl
 | [],_ :: _,_,h => by simp at h
 | _ :: _,[],_,h => by simp at h
 | e :: es,p :: W,i,h => by
  simp only [List.map_cons,List.cons.injEq,Prod.mk.injEq] at h
  obtain ⟨⟨h1,h2⟩,h3⟩ := h
  unfold Instr.findNow mfind
  rw [h1]
  simp only [Instr.sameNow,if_true]
  by_cases hk : k = p.1
  ·subst hk; simp [h2]
  ·rw [if_neg hk,show (k == p.1) = false from beq_eq_false_iff_ne.2 hk]
   exact bfindNow_of q k es W (i + 1) h3
section
variable {P : Program} {w : World}
theorem bint_key {q : IntKind} {k : Int} {kt : TypeId} (hd : P.underlying kt = some (.int q)) (e : Bool) : (Instr.checkKey e 10000 kt (.int .u8 k)).run P w = .ok () w := by
 show (Instr.checkKey e (9999 + 1) kt (.int .u8 k)).run P w = _
 unfold Instr.checkKey
 simp only [Sem.run_bind,run_underlying' hd,Result.andThen_ok]; rfl
theorem bint_find {q : IntKind} {k : Int} {kt : TypeId} (hd : P.underlying kt = some (.int q)) {es : Array MapEntry} {ck : Nat} {W : List (Int × Value)} (h : BMapOk es ck W) : (Instr.findKey kt (.int .u8 k) es.toList).run P w = .ok (mfind k W 0) w := by
 unfold Instr.findKey
 simp only [Sem.run_bind,run_underlying' hd,Result.andThen_ok,bfindNow_of q k _ _ 0 h.rel]; rfl
theorem brun_lookup {t kt e : TypeId} {q : IntKind} {k : Int} {r : Nat} {es : Array MapEntry} {ck : Nat} {W : List (Int × Value)} {z : Value} (hm : P.underlying t = some (.map kt e)) (hd : P.underlying kt = some (.int q)) (hz0 : (P.info? e).bind (·.zero) = some z) (hb : w.heap[r]? = some (.map es ck)) (h : BMapOk es ck W) (ok : Bool) :
  (Instr.lookup t (.map (some r)) (.int .u8 k) ok).run P w = .ok (if ok then .tuple #[(mget W k).getD z,.bool (mget W k).isSome] else (mget W k).getD z) w := by
 obtain ⟨inf,hi,hz⟩ := Option.bind_eq_some_iff.1 hz0
 have hzv : (zeroValue e).run P w = .ok z w := by simp [zeroValue,typeInfo,program,Sem.run,hi,hz]
 unfold Instr.lookup
 simp only [Sem.run_bind,run_underlying' hm,Result.andThen_ok,Go.MapKept.run_getObj_map hb,Sem.run_pure,bint_key hd,bint_find hd h]
 rw [← mfind_get k W 0]
 cases mfind k W 0 with
 | none => simp only [Sem.run_bind,hzv,Result.andThen_ok,Sem.run_pure]; cases ok <;> rfl
 | some p => cases ok <;> rfl
theorem brun_mapUpdate {t kt e : TypeId} {q : IntKind} {k : Int} {v : Value} {r : Nat} {es : Array MapEntry} {ck : Nat} {W : List (Int × Value)} (hm : P.underlying t = some (.map kt e)) (hd : P.underlying kt = some (.int q)) (hb : w.heap[r]? = some (.map es ck)) (h : BMapOk es ck W) :
  ∃ es' ck',BMapOk es' ck' (mset W k v) ∧ (Instr.mapUpdate t (.map (some r)) (.int .u8 k) v).run P w = .ok () { w with heap := w.heap.setIfInBounds r (.map es' ck') } := by
 cases hf : mfind k W 0 with
 | none =>
  obtain ⟨h1,h2⟩ := mfind_none v hf
  refine ⟨es.push { key := .int .u8 k,val := v,born := ck },ck + 1,⟨?_,stamped_push h.st ?_⟩,?_⟩
  ·rw [Array.toList_push,List.map_append,h.rel,h1,List.map_append]; rfl
  ·intro x hx hk
   have hx2 : (x.key,x.val) ∈ W.map fun p => (Value.int .u8 p.1,p.2) := by rw [← h.rel]; exact List.mem_map.2 ⟨x,hx,rfl⟩
   obtain ⟨p,hp,he⟩ := List.mem_map.1 hx2
   simp only [Prod.mk.injEq] at he
   rw [hk] at he
   have := he.1
   simp only [Value.int.injEq,true_and] at this
   exact h2 p hp this
  ·simp only [Instr.mapUpdate,Sem.run_bind,run_underlying' hm,Result.andThen_ok,Go.MapKept.run_getObj_map hb,bint_key hd,bint_find hd h,hf,Go.MapKept.run_setObj_map _ hb]
 | some jp =>
  obtain ⟨j,u⟩ := jp
  obtain ⟨_,hW⟩ := mfind_some hf
  rw [Nat.sub_zero] at hW
  have hlen : es.toList.length = W.length := by have := congrArg List.length h.rel; simpa using this
  have hjW : j < W.length := (List.getElem?_eq_some_iff.1 hW).1
  have hj : j < es.size := by rw [← Array.length_toList]; omega
  have hej : (es[j].key,es[j].val) = (Value.int .u8 k,u) := by
   have h3 : (es.toList.map (fun e => (e.key,e.val)))[j]? = (W.map fun p => (Value.int .u8 p.1,p.2))[j]? := by rw [h.rel]
   rw [List.getElem?_map,List.getElem?_map,hW,Array.getElem?_toList,Array.getElem?_eq_getElem hj] at h3
   simpa using h3
  simp only [Prod.mk.injEq] at hej
  have hkt : (Instr.keyThatStays (((es[j]?).map (·.key)).getD (.int .u8 k)) (.int .u8 k)).run P w = .ok (.int .u8 k) w := by
   rw [Array.getElem?_eq_getElem hj,Option.map_some,Option.getD_some,hej.1]
   exact run_keyThatStays (d := .int .u8) (by first | trivial | rfl | exact ⟨_,rfl⟩)
  refine ⟨es.modify j (fun e => { e with key := .int .u8 k,val := v }),ck,⟨?_,stamped_modify h.st j _ (fun _ _ => rfl) (fun e _ hge => by rw [Array.getElem?_eq_getElem hj] at hge; cases hge; exact hej.1.symm)⟩,?_⟩
  ·rw [mfind_set v hf,Nat.sub_zero,List.map_set,← h.rel]
   apply List.ext_getElem?
   intro q
   simp only [List.getElem?_map,Array.getElem?_toList,Array.getElem?_modify,List.getElem?_set,List.length_map,Array.length_toList]
   by_cases hq : j = q
   ·subst hq; simp [hj]
   ·simp [hq]
  ·simp only [Instr.mapUpdate,Sem.run_bind,run_underlying' hm,Result.andThen_ok,Go.MapKept.run_getObj_map hb,bint_key hd,bint_find hd h,hf,hkt,Go.MapKept.run_setObj_map _ hb]
end
section
variable {C : Cx} {R O : List (Nat × Obj)} {Γ : Env} {op : Oper}
theorem Eff.bGet {t kt e : TypeId} {q : IntKind} {x y : Operand} {ok : Bool} (ho : op.op = .lookup t x y ok) (hm : C.P.underlying t = some (.map kt e)) (hd : C.P.underlying kt = some (.int q)) {z : Value} (hz0 : (C.P.info? e).bind (·.zero) = some z) {r : Nat} {k : Int} (hx : opd Γ [] x = some (.map (some r))) (hy : opd Γ [] y = some (.int .u8 k))
  {es : Array MapEntry} {ck : Nat} {W : List (Int × Value)} (h : BMapOk es ck W) (hb : ∀ w,HP C.w0 C.M R O w → w.heap[r]? = some (.map es ck)) :
  Eff C R O Γ op Unit (fun _ => if ok then .tuple #[(mget W k).getD z,.bool (mget W k).isSome] else (mget W k).getD z) (fun _ => O) (fun _ => True) :=
 Eff.of_run fun a w hs hp => ⟨(),w,trivial,by
  simp only [execOp,ho]
  refine run_v ?_
  rw [opd_ok hs (holds_nil _) hx,opd_ok hs (holds_nil _) hy]
  exact brun_lookup hm hd hz0 (hb w hp) h ok,hp⟩
theorem Eff.bSet {t kt e : TypeId} {q : IntKind} {x y v : Operand} (ho : op.op = .mapUpdate t x y v) (hm : C.P.underlying t = some (.map kt e)) (hd : C.P.underlying kt = some (.int q)) {r : Nat} {k : Int} {u : Value} (hx : opd Γ [] x = some (.map (some r))) (hy : opd Γ [] y = some (.int .u8 k)) (hv : opd Γ [] v = some u)
  {es : Array MapEntry} {ck : Nat} {W : List (Int × Value)} (h : BMapOk es ck W) (i : Nat) (hO : O[i]? = some (r,.map es ck)) :
  Eff C R O Γ op (Array MapEntry × Nat) (fun _ => undef) (fun x => O.set i (r,.map x.1 x.2)) (fun x => BMapOk x.1 x.2 (mset W k u)) := by
 refine Eff.of_skip fun a w hs hp => ?_
 obtain ⟨es',ck',h1,h2⟩ := brun_mapUpdate (v := u) (k := k) hm hd (hp.own _ (List.mem_of_getElem? hO)) h
 refine ⟨(es',ck'),_,h1,?_,hp.set i (.map es' ck') hO (w' := { w with heap := w.heap.setIfInBounds r (.map es' ck') }) rfl rfl rfl rfl⟩
 have e1 := opd_ok hs (holds_nil _) hx
 have e2 := opd_ok hs (holds_nil _) hy
 have e3 := opd_ok hs (holds_nil _) hv
 simp [execOp,ho,e1,e2,e3,h2]
theorem BMapOk.empty (ck : Nat) : BMapOk #[] ck [] := ⟨rfl,stamped_empty ck⟩
end
end K
end Go.Proofs.YtbeegepcdglcaaaGreatDoor
namespace Go.Proofs.YtbeegepcdglcaaaGreatDoor
open K
set_option linter.unusedVariables false
def dgc (d : List UInt8) : List Value := (bv d).toList
theorem dgc_len {d : List UInt8} (h : d.length = 32) : (dgc d).length = 32 := by unfold dgc; rw [Array.length_toList,bv_size,h]
theorem app_l {a b : List Value} {j : Nat} {v : Value} (h : a[j]? = some v) : (a ++ b)[j]? = some v := by
 rw [List.getElem?_append_left (List.getElem?_eq_some_iff.1 h).1,h]
theorem app_r {a b : List Value} {n j : Nat} {v : Value} (hn : a.length = n) (h : b[j]? = some v) : (a ++ b)[n + j]? = some v := by
 rw [List.getElem?_append_right om,hn,Nat.add_sub_cancel_left,h]
theorem all_dgc (d : List UInt8) : ∀ v ∈ dgc d,K.one v = true := fun v hv => all_bv d v hv
theorem zdg_size : (bv (List.replicate 32 0)).size = 32 := by kernel_rfl
theorem less_none : ∀ {a b : List UInt8},a = b → Op.bytesLess a b = false
 | [],_,h => by subst h; rfl
 | x :: a,_,h => by
  subst h
  simp only [Op.bytesLess,less_none (a := a) rfl,Bool.and_false,Bool.or_false,decide_eq_false_iff_not]
  exact UInt8.lt_irrefl x
theorem less_first : ∀ {a b : List UInt8} {i : Nat},a.length = b.length → i < a.length → (∀ j,j < i → a.getD j 0 = b.getD j 0) → a.getD i 0 ≠ b.getD i 0 → Op.bytesLess a b = decide (((a.getD i 0).toNat : Int) < ((b.getD i 0).toNat : Int))
 | [],_,i,_,hi,_,_ => by simp at hi
 | x :: a,[],_,hl,_,_,_ => by simp at hl
 | x :: a,y :: b,0,_,_,_,hne => by
  simp only [List.getD_cons_zero] at hne
  simp only [Op.bytesLess,List.getD_cons_zero,beq_eq_false_iff_ne.2 hne,Bool.false_and,Bool.or_false,UInt8.lt_iff_toNat_lt,Int.ofNat_lt]
 | x :: a,y :: b,i + 1,hl,hi,hj,hne => by
  have h0 := hj 0 om
  simp only [List.getD_cons_zero] at h0
  subst h0
  have ih := less_first (a := a) (b := b) (i := i) (by simpa using hl) (by simpa using hi) (fun j h => by have := hj (j + 1) om; simpa using this) (by simpa using hne)
  simp only [Op.bytesLess,List.getD_cons_succ,beq_self_eq_true,Bool.true_and,ih,decide_eq_false (UInt8.lt_irrefl x),Bool.false_or]
theorem eq_all {a b : List UInt8} (hl : a.length = 32) (hb : b.length = 32) (h : ∀ j,j < 32 → a.getD j 0 = b.getD j 0) : a = b := by
 apply List.ext_getElem?
 intro i
 by_cases hi : i < 32
 ·have := h i hi
  rw [List.getD_eq_getElem?_getD,List.getD_eq_getElem?_getD,List.getElem?_eq_getElem (show i < a.length by omega),List.getElem?_eq_getElem (show i < b.length by omega)] at this
  rw [List.getElem?_eq_getElem (show i < a.length by omega),List.getElem?_eq_getElem (show i < b.length by omega)]
  simpa using this
 ·rw [List.getElem?_eq_none om,List.getElem?_eq_none om]
theorem hexD_mono (m n : Nat) (hm : m < 16) (hn : n < 16) : decide (hexD m < hexD n) = decide (m < n) ∧ (hexD m == hexD n) = (m == n) := by
 exact (by decide +kernel : ∀ m n : Fin 16,decide (hexD m.val < hexD n.val) = decide (m.val < n.val) ∧ (hexD m.val == hexD n.val) = (m.val == n.val)) ⟨m,hm⟩ ⟨n,hn⟩
theorem hex_less : ∀ {a b : List UInt8},a.length = b.length → Op.bytesLess (hexL a) (hexL b) = Op.bytesLess a b
 | [],[],_ => rfl
 | [],_ :: _,h => by simp at h
 | _ :: _,[],h => by simp at h
 | x :: a,y :: b,h => by
  have ih := hex_less (a := a) (b := b) (by simpa using h)
  have hx := byte_lt x
  have hy := byte_lt y
  have m1 := hexD_mono (x.toNat / 16) (y.toNat / 16) om om
  have m2 := hexD_mono (x.toNat % 16) (y.toNat % 16) om om
  show Op.bytesLess (hexD (x.toNat / 16) :: hexD (x.toNat % 16) :: hexL a) (hexD (y.toNat / 16) :: hexD (y.toNat % 16) :: hexL b) = _
  simp only [Op.bytesLess,m1.1,m1.2,m2.1,m2.2,ih]
  generalize Op.bytesLess a b = r
  rw [Bool.eq_iff_iff]
  simp only [Bool.or_eq_true,Bool.and_eq_true,decide_eq_true_eq,beq_iff_eq,UInt8.lt_iff_toNat_lt,← UInt8.toNat_inj]
  cases r <;> simp <;> omega
theorem cmpL_less {a b : List UInt8} (ha : a.length = 32) (hb : b.length = 32) : (decide (cmpL a b < (0 : Int))) = Op.bytesLess a b := by
 have hsa : (⟨a.toArray⟩ : ByteArray).size = 32 := by simp [ByteArray.size,ha]
 have hsb : (⟨b.toArray⟩ : ByteArray).size = 32 := by simp [ByteArray.size,hb]
 unfold cmpL Extern.BytealgCompare.cmp
 simp only [hsa,hsb,at_row,Nat.min_self]
 split
 ·rename_i i hf
  obtain ⟨h1,h2,h3⟩ := List.find?_range_eq_some.1 hf
  have hi : i < 32 := List.mem_range.1 h2
  rw [less_first (a := a) (b := b) (i := i) (ha.trans hb.symm) om (fun j hj => by simpa using h3 j hj) (by simpa using h1)]
  by_cases hlt : a.getD i 0 < b.getD i 0
  ·have := UInt8.lt_iff_toNat_lt.1 hlt
   simp only [if_pos hlt]
   exact (decide_eq_true (show (-1 : Int) < 0 by omega)).trans (decide_eq_true (show ((a.getD i 0).toNat : Int) < ((b.getD i 0).toNat : Int) by omega)).symm
  ·have : ¬ (a.getD i 0).toNat < (b.getD i 0).toNat := fun h => hlt (UInt8.lt_iff_toNat_lt.2 h)
   simp only [if_neg hlt]
   exact (decide_eq_false (show ¬ (1 : Int) < 0 by omega)).trans (decide_eq_false (show ¬ ((a.getD i 0).toNat : Int) < ((b.getD i 0).toNat : Int) by omega)).symm
 ·rename_i hf
  have := List.find?_range_eq_none.1 hf
  rw [less_none (eq_all ha hb fun j hj => by simpa using this j hj)]
  rfl
theorem hexS_less {a b : List UInt8} (h : a.length = b.length) : Op.bytesLess (hexS a).toList (hexS b).toList = Op.bytesLess a b := by
 rw [Go.ByteArray.toList_eq,Go.ByteArray.toList_eq]
 exact hex_less h
theorem ba_app (a b : List UInt8) : (⟨a.toArray⟩ : ByteArray) ++ ⟨b.toArray⟩ = ⟨(a ++ b).toArray⟩ := by
 apply ByteArray.ext
 simp
theorem dig_ext (n : Nat) (h : n < 16) : ByteArray.extract ⟨#[48,49,50,51,52,53,54,55,56,57,97,98,99,100,101,102]⟩ n (n + 1) = ⟨[hexD n].toArray⟩ := by
 exact (by decide +kernel : ∀ m : Fin 16,ByteArray.extract ⟨#[48,49,50,51,52,53,54,55,56,57,97,98,99,100,101,102]⟩ m.val (m.val + 1) = ⟨[hexD m.val].toArray⟩) ⟨n,h⟩
theorem hexS_step {l : List UInt8} (hl : l.length = 32) {k : Nat} (hk : k < 32) :
  (hexS (l.take k) ++ ByteArray.extract ⟨#[48,49,50,51,52,53,54,55,56,57,97,98,99,100,101,102]⟩ ((l.getD k 0).toNat / 16) (((l.getD k 0).toNat / 16 + 1) % 256)) ++
   ByteArray.extract ⟨#[48,49,50,51,52,53,54,55,56,57,97,98,99,100,101,102]⟩ ((l.getD k 0).toNat % 16) (((l.getD k 0).toNat % 16 + 1) % 256) = hexS (l.take (k + 1)) := by
 have hb := byte_lt (l.getD k 0)
 have ht : l.take (k + 1) = l.take k ++ [l.getD k 0] := by
  rw [List.take_succ_eq_append_getElem om]; simp [List.getElem?_eq_getElem (show k < l.length by omega)]
 rw [show ((l.getD k 0).toNat / 16 + 1) % 256 = (l.getD k 0).toNat / 16 + 1 by omega,show ((l.getD k 0).toNat % 16 + 1) % 256 = (l.getD k 0).toNat % 16 + 1 by omega]
 rw [dig_ext _ om,dig_ext _ om,ht]
 unfold hexS
 rw [ba_app,ba_app]
 congr 2
 simp [hexL]
theorem hexT_size {l : List UInt8} (hl : l.length = 32) {k : Nat} (hk : k ≤ 32) : (hexS (l.take k)).size = 2 * k := by
 simp [hexS,ByteArray.size,hexL_len]; omega
set_option maxRecDepth 100000 in
theorem refHex (l : List UInt8) (w : World) (hl : l.length = 32) :
  Calls Tryz.prog 50 #[.agg (bv l)] w fun e w' => e = .returned (.string (hexS l)) ∧ Ext [] w w' := by
 refine enter (vs := [.agg (bv l)]) [] [] [] Tryz.func50 rfl kr (HP.start w) ?_
 refine Cfg.begL rfl ?_
 refine Le (Eff.box (v := .agg (bv l)) rfl kr) ?_
 rintro d ⟨hd,nd⟩
 refine Lp 1 [] (some [1]) n0 trivial ?_
 refine CfgL.done rfl ?_
 refine Rg [1,3] [] n0 trivial ?_
 refine Rg [1,3,4] [] n0 trivial ?_
 refine Cfg.loop rfl (ι := Nat) (fun (k : Nat) => [(4,[],.int .i64 (k : Int)),(3,[],.string (hexS (l.take k))),(1,[],pT d)]) (fun (k : Nat) => [(d,.cells (bv l) 36 (0,0))]) (fun (k : Nat) => (k ≤ 32)) (fun (k : Nat) => 32 - k) 0 ?_ (Conv.mk kr) (.cons_cons _ .slnil) ?_
 ·exact Nat.zero_le _
 ·rintro k hk
  refine Rg [1,3,4,6] [] n0 trivial ?_
  refine Cfg.cond rfl (b := (decide ((k : Int) < (32 : Int)))) kr (fun c1r => ?_) (fun c1r => ?_)
  ·have c1 := (dT c1r)
   refine Cfg.regD rfl kr [1,3,4] [dZ,dZ,dZ,(dS (.int .u8 ((l.getD k 0).toNat : Int))),dZ,dZ,dZ,(dS (.int .u8 ((l.getD k 0).toNat : Int))),dZ,dZ,dZ,dZ,dZ,dZ,(dS (.int .u8 ((l.getD k 0).toNat : Int))),dZ,dZ,dZ,(dS (.int .u8 ((l.getD k 0).toNat : Int)))] (Γ' := [(3,[],.string (((hexS (l.take k)) ++ ((⟨#[48,49,50,51,52,53,54,55,56,57,97,98,99,100,101,102]⟩ : ByteArray).extract ((((l.getD k 0).toNat) / 16)) ((((((l.getD k 0).toNat) / 16) + 1) % 256)))) ++ ((⟨#[48,49,50,51,52,53,54,55,56,57,97,98,99,100,101,102]⟩ : ByteArray).extract ((((l.getD k 0).toNat) % 16)) ((((((l.getD k 0).toNat) % 16) + 1) % 256))))),(4,[],.int .i64 (k : Int)),(1,[],pT d)]) (nd := (fun S => [(iL (k : Int) 32),(cE S d k (.int .u8 ((l.getD k 0).toNat : Int))),(0 ≤ ((l.getD k 0).toNat : Int) ∧ ((l.getD k 0).toNat : Int) ≤ 255 ∧ 0 < (16 : Int)),(iL (k : Int) 32),(cE S d k (.int .u8 ((l.getD k 0).toNat : Int))),(0 ≤ ((l.getD k 0).toNat : Int) ∧ ((l.getD k 0).toNat : Int) ≤ 255 ∧ 0 < (16 : Int)),(0 ≤ (((l.getD k 0).toNat : Int) / 16)),(0 ≤ (((((l.getD k 0).toNat : Int) / 16) + 1) % 256)),((((l.getD k 0).toNat) / 16) ≤ (((((l.getD k 0).toNat) / 16) + 1) % 256) ∧ (((((l.getD k 0).toNat) / 16) + 1) % 256) ≤ 16),((hexS (l.take k)).size + ((⟨#[48,49,50,51,52,53,54,55,56,57,97,98,99,100,101,102]⟩ : ByteArray).extract ((((l.getD k 0).toNat) / 16)) ((((((l.getD k 0).toNat) / 16) + 1) % 256))).size ≤ 9223372036854775807),(iL (k : Int) 32),(cE S d k (.int .u8 ((l.getD k 0).toNat : Int))),(0 ≤ ((l.getD k 0).toNat : Int) ∧ 0 < (16 : Int)),(iL (k : Int) 32),(cE S d k (.int .u8 ((l.getD k 0).toNat : Int))),(0 ≤ ((l.getD k 0).toNat : Int) ∧ 0 < (16 : Int)),(0 ≤ (((l.getD k 0).toNat : Int) % 16)),(0 ≤ (((((l.getD k 0).toNat : Int) % 16) + 1) % 256)),((((l.getD k 0).toNat) % 16) ≤ (((((l.getD k 0).toNat) % 16) + 1) % 256) ∧ (((((l.getD k 0).toNat) % 16) + 1) % 256) ≤ 16),(((hexS (l.take k)) ++ ((⟨#[48,49,50,51,52,53,54,55,56,57,97,98,99,100,101,102]⟩ : ByteArray).extract ((((l.getD k 0).toNat) / 16)) ((((((l.getD k 0).toNat) / 16) + 1) % 256)))).size + ((⟨#[48,49,50,51,52,53,54,55,56,57,97,98,99,100,101,102]⟩ : ByteArray).extract ((((l.getD k 0).toNat) % 16)) ((((((l.getD k 0).toNat) % 16) + 1) % 256))).size ≤ 9223372036854775807)])) kr kr (fun _ => kr) ⟨(by have hb := byte_lt (l.getD k 0); omega),(fun w1 h => h.ocell 0 rfl (bv_get hl om)),(by have hb := byte_lt (l.getD k 0); omega),(by have hb := byte_lt (l.getD k 0); omega),(fun w1 h => h.ocell 0 rfl (bv_get hl om)),(by have hb := byte_lt (l.getD k 0); omega),(by have hb := byte_lt (l.getD k 0); omega),(by have hb := byte_lt (l.getD k 0); omega),(by have hb := byte_lt (l.getD k 0); omega),(by have hb := byte_lt (l.getD k 0); have hz := hexT_size hl (show k ≤ 32 by omega); (try simp only [ByteArray.size_append]); (try simp only [ByteArray.size_extract]); omega),(by have hb := byte_lt (l.getD k 0); omega),(fun w1 h => h.ocell 0 rfl (bv_get hl om)),(by have hb := byte_lt (l.getD k 0); omega),(by have hb := byte_lt (l.getD k 0); omega),(fun w1 h => h.ocell 0 rfl (bv_get hl om)),(by have hb := byte_lt (l.getD k 0); omega),(by have hb := byte_lt (l.getD k 0); omega),(by have hb := byte_lt (l.getD k 0); omega),(by have hb := byte_lt (l.getD k 0); omega),(by have hb := byte_lt (l.getD k 0); have hz := hexT_size hl (show k ≤ 32 by omega); (try simp only [ByteArray.size_append]); (try simp only [ByteArray.size_extract]); omega),trivial⟩ ?_
   refine Rg [1,3,4] [] (fun _ => [(i6 ((k : Int) + 1))]) ⟨(by have hb := byte_lt (l.getD k 0); omega),trivial⟩ ?_
   refine Cfg.setS 3 (congrArg Value.string (show (((hexS (l.take k)) ++ ((⟨#[48,49,50,51,52,53,54,55,56,57,97,98,99,100,101,102]⟩ : ByteArray).extract ((((l.getD k 0).toNat) / 16)) ((((((l.getD k 0).toNat) / 16) + 1) % 256)))) ++ ((⟨#[48,49,50,51,52,53,54,55,56,57,97,98,99,100,101,102]⟩ : ByteArray).extract ((((l.getD k 0).toNat) % 16)) ((((((l.getD k 0).toNat) % 16) + 1) % 256)))) = (hexS (l.take (k + 1))) from hexS_step hl om)) ?_
   refine Cfg.again rfl (k + 1) (show k + 1 ≤ 32 by omega) om (Conv.mk kr) (.cons_cons _ .slnil)
  ·have c1 := (dF c1r)
   refine Rg [2] [] n0 trivial ?_
   refine Cfg.ret rfl (rs := [.tmp 2]) rfl [.string (hexS (l.take k))] ⟨kr,trivial⟩ (fun w1 hp => ?_)
   exact ⟨by rw [show l.take k = l from List.take_of_length_le om]; rfl,hp.ext⟩
end Go.Proofs.YtbeegepcdglcaaaGreatDoor
