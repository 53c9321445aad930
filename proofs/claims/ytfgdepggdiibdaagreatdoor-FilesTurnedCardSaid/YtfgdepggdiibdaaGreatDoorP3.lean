/- Texts on which the proof of this claim stands: Wire2, Wire3, Wire4, K24, Jn1, K36, K33, Fl1, FlR, Jn2, K27, Fl2, Sp1, Sp2, Sp3. -/
import Derived.Test.YtfgdepggdiibdaaGreatDoorP2
import Derived.Test.YtfgdepggdiibdaaGreatDoorP1
import Derived.Test.YtfgdepggdiibdaaGreatDoorChecked
import Derived.Lib.Repeat
import Derived.Shelf.Strings.Repeat
namespace Go.Proofs.YtfgdepggdiibdaaGreatDoor
open K
set_option linter.unusedVariables false
def flat {α : Type} (f : α → List UInt8) (l : List α) : List UInt8 := l.flatMap f
theorem flat_app {α : Type} (f : α → List UInt8) (a b : List α) : flat f (a ++ b) = flat f a ++ flat f b := List.flatMap_append ..
theorem flat_succ {α : Type} {f : α → List UInt8} {l : List α} {i : Nat} (d : α) (h : i < l.length) : flat f (l.take (i + 1)) = flat f (l.take i) ++ f (l.getD i d) := by
 rw [List.take_succ_eq_append_getElem h,flat_app]
 simp [flat,List.getElem?_eq_getElem h]
theorem flat_part {α : Type} {f : α → List UInt8} {l : List α} {i : Nat} (d : α) (h : i < l.length) : (flat f (l.take i)).length + (f (l.getD i d)).length ≤ (flat f l).length := by
 have h1 := flat_succ (f := f) d h
 have h2 : flat f l = flat f (l.take (i + 1)) ++ flat f (l.drop (i + 1)) := by rw [← flat_app,List.take_append_drop]
 rw [h2,h1,List.length_append,List.length_append]; omega
theorem cat_tx (l : List UInt8) : cat [tx l] = l := by rw [cat_one,tx_list]
def four (n : Nat) : List UInt8 := be n 4
def eight (n : Nat) : List UInt8 := be n 8
theorem HP.notin {w0 w : World} {M : List Nat} {R Fl A T : List (Nat × Obj)} {d : Nat} {ob : Obj} (h : HP w0 M R (Fl ++ (A ++ T)) w) (hm : (d,ob) ∈ Fl) : d ∉ A.map (·.1) := by
 intro hx
 have hd := h.dist
 rw [List.map_append,List.map_append] at hd
 exact (List.nodup_append.1 hd).2.2 d (List.mem_map.2 ⟨_,hm,rfl⟩) d (mL hx) rfl
theorem zsz32 : (bv (List.replicate 32 0)).size = 32 := rfl
set_option maxRecDepth 100000 in
theorem wByte (s : ByteArray) (n : Nat) (w : World) (hn : n < 256) (hr : s.size + 1 ≤ 140737488355328) :
  Calls Tryz.prog 111 #[.agg #[.string s],.int .u8 (n : Int)] w fun e w' => e = .returned (.agg #[.string (tx (s.data.toList ++ be n 1))]) ∧ Ext [] w w' := by
 refine enter (vs := [.agg #[.string s],.int .u8 (n : Int)]) [] [] [] Tryz.func111 rfl kr (HP.start w) ?_
 refine Cfg.begL rfl ?_
 refine Le (Eff.box (v := .agg #[.string s]) rfl kr) ?_
 rintro o ⟨ho,no⟩
 refine Le (Eff.alloc (z := (.agg #[.string ByteArray.empty])) rfl kr) ?_
 rintro rs ⟨hrs,nrs⟩
 refine CfgL.done rfl ?_
 refine Cg (Γ' := [(4,[],pT rs),(2,[],pT o),(1,[],.int .u8 (n : Int))]) ?_
 refine Cfg.begA rfl kr [(o,.cells #[.string s] 202 (0,0))] ?_
 refine Ap [0,1,2] [(dS (.agg #[.string s]))] (some [4,5,7]) (tF 3 4) (.cons _ (.cons_cons _ .slnil)) 4 (fun S => [(∀ w1,S w1 → (loadVar 202 ⟨o,0,none⟩).run Tryz.prog w1 = .ok (.agg #[.string s]) w1),((0 : Int) ≤ (n : Int) ∧ (n : Int) ≤ 18446744073709551615)]) ⟨(fun w1 h => h.oload 0 rfl Tryz.underlying202 rfl (n := 1) kr rfl),om,trivial⟩ ?_
 refine Ae 3 rfl 3  (Eff.callA (vs := [.int .u64 (n : Int),.int .i64 1]) (.string (beS n 1)) rfl Tryz.func143 rfl rfl kr (fun w1 _ => wNumber1 n w1 om)) (fun _ _ => (.cons _ (.cons_cons _ .slnil))) ?_
 rintro ⟨⟩ -
 refine Ae 4 rfl 2  (Eff.buildSlice (e := 9) (cells := #[.string (beS n 1)]) (parts := #[(0,.string (beS n 1))]) rfl kr (fun _ => kr)) (fun _ _ => (.cons _ (.cons _ (.cons_cons _ .slnil)))) ?_
 rintro x3 ⟨hx3,nx3⟩
 refine Ae 5 rfl 1  (Eff.callA (vs := [.agg #[.string s],.slice (some ⟨x3,0,none⟩) 1 1]) (.agg #[.string (tx (s.data.toList ++ cat [(beS n 1)]))]) rfl Tryz.func142 rfl rfl kr (fun w1 h => wWith s (some ⟨x3,0,none⟩) 1 [(beS n 1)] [(x3,.cells (List.map Value.string [(beS n 1)]).toArray 9 (0,0))] w1 (inS_lit x3 9 (0,0) [(beS n 1)]) (h.has (fun e he => mG 0 (by rw [List.mem_singleton.1 he]; rfl))) (one_len _) (by rw [cat_one,beS_list,be_len]; omega))) (fun _ _ => (.cons _ (.cons _ (.cons_cons _ .slnil)))) ?_
 rintro ⟨⟩ -
 refine Ae 6 rfl 0  (Eff.storeN (b := rs) (off := 0) (vs := #[.string (tx (s.data.toList ++ cat [(beS n 1)]))]) (n := 1) rfl kr kr kr rfl (by simp [K.one]) 1 (cs := #[.string ByteArray.empty]) (e := 202) kr (by simp)) (fun _ _ => (.cons _ (.cons _ (.cons_cons _ .slnil)))) ?_
 rintro ⟨⟩ -
 refine CfgA.setO (congrArg (fun (xq : Array Value) => ([(x3,.cells #[.string (beS n 1)] 9 (0,0)),(rs,.cells xq 202 (0,0)),(o,.cells #[.string s] 202 (0,0))] : LO)) (show _ = #[.string (tx (s.data.toList ++ cat [(beS n 1)]))] from rfl)) ?_
 refine CfgA.done kr ?_
 refine Cg (Γ' := [(4,[],pT rs)]) ?_
 refine Cfg.ret rfl (rs := [.cell 4 202]) rfl [.agg #[.string (tx (s.data.toList ++ cat [(beS n 1)]))]] ⟨⟨_,by kernel_rfl,(fun w1 h => h.oload 1 rfl Tryz.underlying202 rfl (n := 1) kr rfl)⟩,trivial⟩ (fun w1 hp => ?_)
 exact ⟨by rw [cat_one,beS_list]; rfl,hp.ext⟩
set_option maxRecDepth 100000 in
theorem wFour (s : ByteArray) (la : Option Addr) (cap : Nat) (xs : List Nat) (Rl : List (Nat × Obj)) (w : World) (hI : InS Rl la xs.length (fun j => .int .u32 ((xs.getD j 0 : Nat) : Int))) (hR : Has w Rl) (hn : xs.length ≤ maxLen) (hr : s.size + (flat four xs).length ≤ 140737488355328) (hx : ∀ i,xs.getD i 0 < 4294967296) :
  Calls Tryz.prog 114 #[.agg #[.string s],.slice la xs.length cap] w fun e w' => e = .returned (.agg #[.string (tx (s.data.toList ++ flat four xs))]) ∧ Ext [] w w' := by
 unfold maxLen at hn
 refine enter (vs := [.agg #[.string s],.slice la xs.length cap]) [] Rl [] Tryz.func114 rfl kr (HP.ofHas hR) ?_
 refine Cfg.begL rfl ?_
 refine Le (Eff.box (v := .agg #[.string s]) rfl kr) ?_
 rintro o ⟨ho,no⟩
 refine Le (Eff.alloc (z := (.agg #[.string ByteArray.empty])) rfl kr) ?_
 rintro rs ⟨hrs,nrs⟩
 refine CfgL.done rfl ?_
 refine Cg (Γ' := [(4,[],pT rs),(2,[],pT o),(1,[],.slice la xs.length cap)]) ?_
 refine Cfg.begL rfl ?_
 refine Le (Eff.allocB 5 [(rs,.cells #[.string ByteArray.empty] 202 (0,0)),(o,.cells #[.string s] 202 (0,0))] [] rfl rfl kr) ?_
 rintro b ⟨hb,nb⟩
 refine CfgL.done rfl ?_
 refine Rg [2,4,5,8,9,10] [] n0 trivial ?_
 refine Cfg.setO (congrArg (fun (xq : List UInt8) => (([(rs,.cells #[.string ByteArray.empty] 202 (0,0)),(o,.cells #[.string s] 202 (0,0))] ++ (bl 113 5 b xq bd0 ++ [])) : LO)) (show _ = (flat four (xs.take 0)) from by rw [List.take_zero]; rfl)) ?_
 refine Cfg.loop rfl (ι := Nat × Bd) (fun (xz : Nat × Bd) => match xz with | (i,B) => [(10,[],.int .i64 (i : Int)),(9,[],.int .i64 (xs.length : Int)),(8,[],.slice la xs.length cap),(5,[],pT b),(4,[],pT rs),(2,[],pT o)]) (fun (xz : Nat × Bd) => match xz with | (i,B) => ([(rs,.cells #[.string ByteArray.empty] 202 (0,0)),(o,.cells #[.string s] 202 (0,0))] ++ (bl 113 5 b (flat four (xs.take i)) B ++ []))) (fun (xz : Nat × Bd) => match xz with | (i,B) => (i ≤ xs.length) ∧ (BdOk b (flat four (xs.take i)) B)) (fun (xz : Nat × Bd) => match xz with | (i,B) => xs.length - i) (0,bd0) ?_ (Conv.mk kr) slr ?_
 ·exact ⟨Nat.zero_le _,by rw [List.take_zero]; exact (bd0_ok b)⟩
 ·rintro ⟨i,B⟩ ⟨hi,hB⟩
  have hpart := fun (hlt : i < xs.length) => flat_part (f := four) 0 hlt
  refine Rg [2,4,5,8,9,10,11] [] n0 trivial ?_
  refine Cfg.cond rfl (b := (decide ((i : Int) < (xs.length : Int)))) kr (fun c1r => ?_) (fun c1r => ?_)
  ·have c1 := (dT c1r)
   have hpt := hpart om
   obtain ⟨sb,off,cs,te,fre,rfl,hmem,hcs⟩ := hI om
   refine Conv.cfg (Γ' := [(11,[],.bool (decide ((i : Int) < (xs.length : Int)))),(10,[],.int .i64 (i : Int)),(9,[],.int .i64 (xs.length : Int)),(8,[],.slice (some ⟨sb,off,none⟩) xs.length cap),(5,[],pT b),(4,[],pT rs),(2,[],pT o)]) (Conv.mk kr) ?_
   refine Rg [2,4,5,7,8,9,10] [dZ,(dS (.int .u32 ((xs.getD i 0) : Int)))] (fun S => [(0 ≤ (i : Int) ∧ (i : Int) < (xs.length : Int)),(cE S sb (addO off i) (.int .u32 ((xs.getD i 0) : Int)))]) ⟨om,(fun w1 h => by rw [addO_eq]; exact (cell_cells (h.ro _ hmem)).trans (hcs i om)),trivial⟩ ?_
   refine Cfg.begL rfl ?_
   refine Lp 2 [] (some [2,4,5,8,9,10,15]) (fun _ => [((0 : Int) ≤ ((xs.getD i 0) : Int) ∧ ((xs.getD i 0) : Int) ≤ 18446744073709551615)]) ⟨(by have := hx i; omega),trivial⟩ ?_
   refine Le (Eff.callA (vs := [.int .u64 ((xs.getD i 0) : Int),.int .i64 4]) (.string (beS ((xs.getD i 0)) 4)) rfl Tryz.func143 rfl rfl kr (fun w1 _ => wNumber4 ((xs.getD i 0)) w1 (by have := hx i; omega))) ?_
   rintro ⟨⟩ -
   refine Le (Eff.callH (vs := [pT b,.string (beS ((xs.getD i 0)) 4)]) (fun _ => (.tuple #[.int .i64 ((beS ((xs.getD i 0)) 4).size : Int),.nilIface] : Value)) (bl 113 5 b (flat four (xs.take i)) B) (fun B1 => bl 113 5 b ((flat four (xs.take i)) ++ (beS ((xs.getD i 0)) 4).data.toList) B1) (fun B1 => BdOk b ((flat four (xs.take i)) ++ (beS ((xs.getD i 0)) 4).data.toList) B1) [(rs,.cells #[.string ByteArray.empty] 202 (0,0)),(o,.cells #[.string s] 202 (0,0))] [] (by rfl) rfl Tryz.func147 rfl rfl kr (fun w1 h hh hd => bWriteString b (flat four (xs.take i)) B (beS ((xs.getD i 0)) 4) w1 hB hh hd (by rw [beS_size]; have : (four (xs.getD i 0)).length = 4 := be_len _ _; omega))) ?_
   rintro B2 kB2
   refine CfgL.done rfl ?_
   refine Cg (Γ' := [(10,[],.int .i64 (i : Int)),(9,[],.int .i64 (xs.length : Int)),(8,[],.slice (some ⟨sb,off,none⟩) xs.length cap),(5,[],pT b),(4,[],pT rs),(2,[],pT o)]) ?_
   refine Rg [2,4,5,8,9,10] [] (fun _ => [(i6 ((i : Int) + 1))]) ⟨om,trivial⟩ ?_
   have hcs2 : ((flat four (xs.take i)) ++ (beS ((xs.getD i 0)) 4).data.toList) = (flat four (xs.take (i + 1))) := by rw [flat_succ 0 om]; rfl
   refine Cfg.setO (congrArg (fun (xq : List UInt8) => (([(rs,.cells #[.string ByteArray.empty] 202 (0,0)),(o,.cells #[.string s] 202 (0,0))] ++ (bl 113 5 b xq B2 ++ [])) : LO)) (show _ = (flat four (xs.take (i + 1))) from hcs2)) ?_
   refine Cfg.again rfl (i + 1,B2) ⟨by omega,hcs2 ▸ kB2⟩ (by show xs.length - (i + 1) < xs.length - i; omega) (Conv.mk kr) slr
  ·have c1 := (dF c1r)
   obtain rfl : i = xs.length := by omega
   refine Cfg.setO (congrArg (fun (xq : List UInt8) => (([(rs,.cells #[.string ByteArray.empty] 202 (0,0)),(o,.cells #[.string s] 202 (0,0))] ++ (bl 113 5 b xq B ++ [])) : LO)) (show _ = (flat four xs) from by rw [List.take_length])) ?_
   rw [List.take_length] at hB
   refine Conv.cfg (Γ' := [(9,[],.int .i64 (xs.length : Int)),(8,[],.slice la xs.length cap),(5,[],pT b),(4,[],pT rs),(2,[],pT o)]) (Conv.mk kr) ?_
   refine Cfg.begA rfl kr [(o,.cells #[.string s] 202 (0,0))] ?_
   refine Ap [0] [(dS (.agg #[.string s]))] (some [4,5,19]) (tF 1 4) (.cons _ (.cons_cons _ (List.nil_sublist _))) 4 (fun S => [(∀ w1,S w1 → (loadVar 202 ⟨o,0,none⟩).run Tryz.prog w1 = .ok (.agg #[.string s]) w1)]) ⟨(fun w1 h => h.oload 0 rfl Tryz.underlying202 rfl (n := 1) kr rfl),trivial⟩ ?_
   refine Ae 1 rfl 3  (Eff.callH (vs := [pT b]) (fun _ : Unit => (.string (tx (flat four xs)) : Value)) (bl 113 5 b (flat four xs) B) (fun _ => []) (fun _ => True) [(rs,.cells #[.string ByteArray.empty] 202 (0,0)),(o,.cells #[.string s] 202 (0,0))] [] (by rfl) rfl Tryz.func46 rfl rfl kr (fun w1 h hh hd => bString b (flat four xs) B w1 hB hh hd om)) (fun _ _ => (.cons _ (.cons_cons _ .slnil))) ?_
   rintro ⟨⟩ -
   refine Ae 2 rfl 2  (Eff.buildSlice (e := 9) (cells := #[.string (tx (flat four xs))]) (parts := #[(0,.string (tx (flat four xs)))]) rfl kr (fun _ => kr)) (fun _ _ => (.cons _ (.cons _ (.cons_cons _ .slnil)))) ?_
   rintro x3 ⟨hx3,nx3⟩
   refine Ae 3 rfl 1  (Eff.callA (vs := [.agg #[.string s],.slice (some ⟨x3,0,none⟩) 1 1]) (.agg #[.string (tx (s.data.toList ++ cat [(tx (flat four xs))]))]) rfl Tryz.func142 rfl rfl kr (fun w1 h => wWith s (some ⟨x3,0,none⟩) 1 [(tx (flat four xs))] [(x3,.cells (List.map Value.string [(tx (flat four xs))]).toArray 9 (0,0))] w1 (inS_lit x3 9 (0,0) [(tx (flat four xs))]) (h.has (fun e he => mG 0 (by rw [List.mem_singleton.1 he]; rfl))) (one_len _) (by rw [cat_tx]; omega))) (fun _ _ => (.cons _ (.cons _ (.cons_cons _ .slnil)))) ?_
   rintro ⟨⟩ -
   refine Ae 4 rfl 0  (Eff.storeN (b := rs) (off := 0) (vs := #[.string (tx (s.data.toList ++ cat [(tx (flat four xs))]))]) (n := 1) rfl kr kr kr rfl (by simp [K.one]) 1 (cs := #[.string ByteArray.empty]) (e := 202) kr (by simp)) (fun _ _ => (.cons _ (.cons _ (.cons_cons _ .slnil)))) ?_
   rintro ⟨⟩ -
   refine CfgA.setO (congrArg (fun (xq : Array Value) => ([(x3,.cells #[.string (tx (flat four xs))] 9 (0,0)),(rs,.cells xq 202 (0,0)),(o,.cells #[.string s] 202 (0,0))] : LO)) (show _ = #[.string (tx (s.data.toList ++ cat [(tx (flat four xs))]))] from rfl)) ?_
   refine CfgA.done kr ?_
   refine Cg (Γ' := [(4,[],pT rs)]) ?_
   refine Cfg.ret rfl (rs := [.cell 4 202]) rfl [.agg #[.string (tx (s.data.toList ++ cat [(tx (flat four xs))]))]] ⟨⟨_,by kernel_rfl,(fun w1 h => h.oload 1 rfl Tryz.underlying202 rfl (n := 1) kr rfl)⟩,trivial⟩ (fun w1 hp => ?_)
   exact ⟨by rw [cat_tx]; rfl,hp.ext⟩
set_option maxRecDepth 100000 in
theorem wEight (s : ByteArray) (la : Option Addr) (cap : Nat) (xs : List Nat) (Rl : List (Nat × Obj)) (w : World) (hI : InS Rl la xs.length (fun j => .int .u64 ((xs.getD j 0 : Nat) : Int))) (hR : Has w Rl) (hn : xs.length ≤ maxLen) (hr : s.size + (flat eight xs).length ≤ 140737488355328) (hx : ∀ i,xs.getD i 0 < 18446744073709551616) :
  Calls Tryz.prog 134 #[.agg #[.string s],.slice la xs.length cap] w fun e w' => e = .returned (.agg #[.string (tx (s.data.toList ++ flat eight xs))]) ∧ Ext [] w w' := by
 unfold maxLen at hn
 refine enter (vs := [.agg #[.string s],.slice la xs.length cap]) [] Rl [] Tryz.func134 rfl kr (HP.ofHas hR) ?_
 refine Cfg.begL rfl ?_
 refine Le (Eff.box (v := .agg #[.string s]) rfl kr) ?_
 rintro o ⟨ho,no⟩
 refine Le (Eff.alloc (z := (.agg #[.string ByteArray.empty])) rfl kr) ?_
 rintro rs ⟨hrs,nrs⟩
 refine CfgL.done rfl ?_
 refine Cg (Γ' := [(4,[],pT rs),(2,[],pT o),(1,[],.slice la xs.length cap)]) ?_
 refine Cfg.begL rfl ?_
 refine Le (Eff.allocB 5 [(rs,.cells #[.string ByteArray.empty] 202 (0,0)),(o,.cells #[.string s] 202 (0,0))] [] rfl rfl kr) ?_
 rintro b ⟨hb,nb⟩
 refine CfgL.done rfl ?_
 refine Rg [2,4,5,8,9,10] [] n0 trivial ?_
 refine Cfg.setO (congrArg (fun (xq : List UInt8) => (([(rs,.cells #[.string ByteArray.empty] 202 (0,0)),(o,.cells #[.string s] 202 (0,0))] ++ (bl 113 5 b xq bd0 ++ [])) : LO)) (show _ = (flat eight (xs.take 0)) from by rw [List.take_zero]; rfl)) ?_
 refine Cfg.loop rfl (ι := Nat × Bd) (fun (xz : Nat × Bd) => match xz with | (i,B) => [(10,[],.int .i64 (i : Int)),(9,[],.int .i64 (xs.length : Int)),(8,[],.slice la xs.length cap),(5,[],pT b),(4,[],pT rs),(2,[],pT o)]) (fun (xz : Nat × Bd) => match xz with | (i,B) => ([(rs,.cells #[.string ByteArray.empty] 202 (0,0)),(o,.cells #[.string s] 202 (0,0))] ++ (bl 113 5 b (flat eight (xs.take i)) B ++ []))) (fun (xz : Nat × Bd) => match xz with | (i,B) => (i ≤ xs.length) ∧ (BdOk b (flat eight (xs.take i)) B)) (fun (xz : Nat × Bd) => match xz with | (i,B) => xs.length - i) (0,bd0) ?_ (Conv.mk kr) slr ?_
 ·exact ⟨Nat.zero_le _,by rw [List.take_zero]; exact (bd0_ok b)⟩
 ·rintro ⟨i,B⟩ ⟨hi,hB⟩
  have hpart := fun (hlt : i < xs.length) => flat_part (f := eight) 0 hlt
  refine Rg [2,4,5,8,9,10,11] [] n0 trivial ?_
  refine Cfg.cond rfl (b := (decide ((i : Int) < (xs.length : Int)))) kr (fun c1r => ?_) (fun c1r => ?_)
  ·have c1 := (dT c1r)
   have hpt := hpart om
   obtain ⟨sb,off,cs,te,fre,rfl,hmem,hcs⟩ := hI om
   refine Conv.cfg (Γ' := [(11,[],.bool (decide ((i : Int) < (xs.length : Int)))),(10,[],.int .i64 (i : Int)),(9,[],.int .i64 (xs.length : Int)),(8,[],.slice (some ⟨sb,off,none⟩) xs.length cap),(5,[],pT b),(4,[],pT rs),(2,[],pT o)]) (Conv.mk kr) ?_
   refine Rg [2,4,5,7,8,9,10] [dZ,(dS (.int .u64 ((xs.getD i 0) : Int)))] (fun S => [(0 ≤ (i : Int) ∧ (i : Int) < (xs.length : Int)),(cE S sb (addO off i) (.int .u64 ((xs.getD i 0) : Int)))]) ⟨om,(fun w1 h => by rw [addO_eq]; exact (cell_cells (h.ro _ hmem)).trans (hcs i om)),trivial⟩ ?_
   refine Cfg.begL rfl ?_
   refine Lp 1 [] (some [2,4,5,8,9,10,14]) n0 trivial ?_
   refine Le (Eff.callA (vs := [.int .u64 ((xs.getD i 0) : Int),.int .i64 8]) (.string (beS ((xs.getD i 0)) 8)) rfl Tryz.func143 rfl rfl kr (fun w1 _ => wNumber8 ((xs.getD i 0)) w1 (by have := hx i; omega))) ?_
   rintro ⟨⟩ -
   refine Le (Eff.callH (vs := [pT b,.string (beS ((xs.getD i 0)) 8)]) (fun _ => (.tuple #[.int .i64 ((beS ((xs.getD i 0)) 8).size : Int),.nilIface] : Value)) (bl 113 5 b (flat eight (xs.take i)) B) (fun B1 => bl 113 5 b ((flat eight (xs.take i)) ++ (beS ((xs.getD i 0)) 8).data.toList) B1) (fun B1 => BdOk b ((flat eight (xs.take i)) ++ (beS ((xs.getD i 0)) 8).data.toList) B1) [(rs,.cells #[.string ByteArray.empty] 202 (0,0)),(o,.cells #[.string s] 202 (0,0))] [] (by rfl) rfl Tryz.func147 rfl rfl kr (fun w1 h hh hd => bWriteString b (flat eight (xs.take i)) B (beS ((xs.getD i 0)) 8) w1 hB hh hd (by rw [beS_size]; have : (eight (xs.getD i 0)).length = 8 := be_len _ _; omega))) ?_
   rintro B2 kB2
   refine CfgL.done rfl ?_
   refine Cg (Γ' := [(10,[],.int .i64 (i : Int)),(9,[],.int .i64 (xs.length : Int)),(8,[],.slice (some ⟨sb,off,none⟩) xs.length cap),(5,[],pT b),(4,[],pT rs),(2,[],pT o)]) ?_
   refine Rg [2,4,5,8,9,10] [] (fun _ => [(i6 ((i : Int) + 1))]) ⟨om,trivial⟩ ?_
   have hcs2 : ((flat eight (xs.take i)) ++ (beS ((xs.getD i 0)) 8).data.toList) = (flat eight (xs.take (i + 1))) := by rw [flat_succ 0 om]; rfl
   refine Cfg.setO (congrArg (fun (xq : List UInt8) => (([(rs,.cells #[.string ByteArray.empty] 202 (0,0)),(o,.cells #[.string s] 202 (0,0))] ++ (bl 113 5 b xq B2 ++ [])) : LO)) (show _ = (flat eight (xs.take (i + 1))) from hcs2)) ?_
   refine Cfg.again rfl (i + 1,B2) ⟨by omega,hcs2 ▸ kB2⟩ (by show xs.length - (i + 1) < xs.length - i; omega) (Conv.mk kr) slr
  ·have c1 := (dF c1r)
   obtain rfl : i = xs.length := by omega
   refine Cfg.setO (congrArg (fun (xq : List UInt8) => (([(rs,.cells #[.string ByteArray.empty] 202 (0,0)),(o,.cells #[.string s] 202 (0,0))] ++ (bl 113 5 b xq B ++ [])) : LO)) (show _ = (flat eight xs) from by rw [List.take_length])) ?_
   rw [List.take_length] at hB
   refine Conv.cfg (Γ' := [(9,[],.int .i64 (xs.length : Int)),(8,[],.slice la xs.length cap),(5,[],pT b),(4,[],pT rs),(2,[],pT o)]) (Conv.mk kr) ?_
   refine Cfg.begA rfl kr [(o,.cells #[.string s] 202 (0,0))] ?_
   refine Ap [0] [(dS (.agg #[.string s]))] (some [4,5,18]) (tF 1 4) (.cons _ (.cons_cons _ (List.nil_sublist _))) 4 (fun S => [(∀ w1,S w1 → (loadVar 202 ⟨o,0,none⟩).run Tryz.prog w1 = .ok (.agg #[.string s]) w1)]) ⟨(fun w1 h => h.oload 0 rfl Tryz.underlying202 rfl (n := 1) kr rfl),trivial⟩ ?_
   refine Ae 1 rfl 3  (Eff.callH (vs := [pT b]) (fun _ : Unit => (.string (tx (flat eight xs)) : Value)) (bl 113 5 b (flat eight xs) B) (fun _ => []) (fun _ => True) [(rs,.cells #[.string ByteArray.empty] 202 (0,0)),(o,.cells #[.string s] 202 (0,0))] [] (by rfl) rfl Tryz.func46 rfl rfl kr (fun w1 h hh hd => bString b (flat eight xs) B w1 hB hh hd om)) (fun _ _ => (.cons _ (.cons_cons _ .slnil))) ?_
   rintro ⟨⟩ -
   refine Ae 2 rfl 2  (Eff.buildSlice (e := 9) (cells := #[.string (tx (flat eight xs))]) (parts := #[(0,.string (tx (flat eight xs)))]) rfl kr (fun _ => kr)) (fun _ _ => (.cons _ (.cons _ (.cons_cons _ .slnil)))) ?_
   rintro x3 ⟨hx3,nx3⟩
   refine Ae 3 rfl 1  (Eff.callA (vs := [.agg #[.string s],.slice (some ⟨x3,0,none⟩) 1 1]) (.agg #[.string (tx (s.data.toList ++ cat [(tx (flat eight xs))]))]) rfl Tryz.func142 rfl rfl kr (fun w1 h => wWith s (some ⟨x3,0,none⟩) 1 [(tx (flat eight xs))] [(x3,.cells (List.map Value.string [(tx (flat eight xs))]).toArray 9 (0,0))] w1 (inS_lit x3 9 (0,0) [(tx (flat eight xs))]) (h.has (fun e he => mG 0 (by rw [List.mem_singleton.1 he]; rfl))) (one_len _) (by rw [cat_tx]; omega))) (fun _ _ => (.cons _ (.cons _ (.cons_cons _ .slnil)))) ?_
   rintro ⟨⟩ -
   refine Ae 4 rfl 0  (Eff.storeN (b := rs) (off := 0) (vs := #[.string (tx (s.data.toList ++ cat [(tx (flat eight xs))]))]) (n := 1) rfl kr kr kr rfl (by simp [K.one]) 1 (cs := #[.string ByteArray.empty]) (e := 202) kr (by simp)) (fun _ _ => (.cons _ (.cons _ (.cons_cons _ .slnil)))) ?_
   rintro ⟨⟩ -
   refine CfgA.setO (congrArg (fun (xq : Array Value) => ([(x3,.cells #[.string (tx (flat eight xs))] 9 (0,0)),(rs,.cells xq 202 (0,0)),(o,.cells #[.string s] 202 (0,0))] : LO)) (show _ = #[.string (tx (s.data.toList ++ cat [(tx (flat eight xs))]))] from rfl)) ?_
   refine CfgA.done kr ?_
   refine Cg (Γ' := [(4,[],pT rs)]) ?_
   refine Cfg.ret rfl (rs := [.cell 4 202]) rfl [.agg #[.string (tx (s.data.toList ++ cat [(tx (flat eight xs))]))]] ⟨⟨_,by kernel_rfl,(fun w1 h => h.oload 1 rfl Tryz.underlying202 rfl (n := 1) kr rfl)⟩,trivial⟩ (fun w1 hp => ?_)
   exact ⟨by rw [cat_tx]; rfl,hp.ext⟩
set_option maxRecDepth 100000 in
theorem wDigest (s : ByteArray) (la : Option Addr) (cap : Nat) (xs : List (List UInt8)) (Rl : List (Nat × Obj)) (w : World) (hI : InS Rl la (xs.length * 32) (fun j => .int .u8 (((xs.getD (j / 32) []).getD (j % 32) 0).toNat : Int))) (hR : Has w Rl) (hn : xs.length ≤ maxLen) (hr : s.size + (flat id xs).length ≤ 140737488355328) (hx : ∀ i,i < xs.length → (xs.getD i []).length = 32) :
  Calls Tryz.prog 135 #[.agg #[.string s],.slice la xs.length cap] w fun e w' => e = .returned (.agg #[.string (tx (s.data.toList ++ flat id xs))]) ∧ Ext [] w w' := by
 unfold maxLen at hn
 refine enter (vs := [.agg #[.string s],.slice la xs.length cap]) [] Rl [] Tryz.func135 rfl kr (HP.ofHas hR) ?_
 refine Cfg.begL rfl ?_
 refine Le (Eff.box (v := .agg #[.string s]) rfl kr) ?_
 rintro o ⟨ho,no⟩
 refine Le (Eff.alloc (z := (.agg #[.string ByteArray.empty])) rfl kr) ?_
 rintro rs ⟨hrs,nrs⟩
 refine CfgL.done rfl ?_
 refine Cg (Γ' := [(4,[],pT rs),(2,[],pT o),(1,[],.slice la xs.length cap)]) ?_
 refine Cfg.begL rfl ?_
 refine Le (Eff.allocB 5 [(rs,.cells #[.string ByteArray.empty] 202 (0,0)),(o,.cells #[.string s] 202 (0,0))] [] rfl rfl kr) ?_
 rintro b ⟨hb,nb⟩
 refine CfgL.done rfl ?_
 refine Rg [2,4,5,8,9,10] [] n0 trivial ?_
 refine Cfg.setO (congrArg (fun (xq : List UInt8) => (([(rs,.cells #[.string ByteArray.empty] 202 (0,0)),(o,.cells #[.string s] 202 (0,0))] ++ (bl 113 5 b xq bd0 ++ [])) : LO)) (show _ = (flat id (xs.take 0)) from by rw [List.take_zero]; rfl)) ?_
 refine Cfg.loop rfl (ι := Nat × Bd) (fun (xz : Nat × Bd) => match xz with | (i,B) => [(10,[],.int .i64 (i : Int)),(9,[],.int .i64 (xs.length : Int)),(8,[],.slice la xs.length cap),(5,[],pT b),(4,[],pT rs),(2,[],pT o)]) (fun (xz : Nat × Bd) => match xz with | (i,B) => ([(rs,.cells #[.string ByteArray.empty] 202 (0,0)),(o,.cells #[.string s] 202 (0,0))] ++ (bl 113 5 b (flat id (xs.take i)) B ++ []))) (fun (xz : Nat × Bd) => match xz with | (i,B) => (i ≤ xs.length) ∧ (BdOk b (flat id (xs.take i)) B)) (fun (xz : Nat × Bd) => match xz with | (i,B) => xs.length - i) (0,bd0) ?_ (Conv.mk kr) slr ?_
 ·exact ⟨Nat.zero_le _,by rw [List.take_zero]; exact (bd0_ok b)⟩
 ·rintro ⟨i,B⟩ ⟨hi,hB⟩
  have hpart := fun (hlt : i < xs.length) => flat_part (f := id) [] hlt
  refine Rg [2,4,5,8,9,10,11] [] n0 trivial ?_
  refine Cfg.cond rfl (b := (decide ((i : Int) < (xs.length : Int)))) kr (fun c1r => ?_) (fun c1r => ?_)
  ·have c1 := (dT c1r)
   have hpt := hpart om
   obtain ⟨sb,off,cs,te,fre,rfl,hmem,hcs⟩ := hI om
   refine Conv.cfg (Γ' := [(11,[],.bool (decide ((i : Int) < (xs.length : Int)))),(10,[],.int .i64 (i : Int)),(9,[],.int .i64 (xs.length : Int)),(8,[],.slice (some ⟨sb,off,none⟩) xs.length cap),(5,[],pT b),(4,[],pT rs),(2,[],pT o)]) (Conv.mk kr) ?_
   refine Cfg.begL rfl ?_
   refine Lp 2 [dZ,(dS (.agg (bv (xs.getD i []))))] (some [2,4,5,8,9,10,13]) (fun S => [(0 ≤ (i : Int) ∧ (i : Int) < (xs.length : Int)),(∀ w1,S w1 → (loadVar 226 ⟨sb,(addO off (i * 32)),none⟩).run Tryz.prog w1 = .ok (.agg (bv (xs.getD i []))) w1)]) ⟨om,(fun w1 h => load_bytes Tryz.underlying226 rfl kr (hx i om) (fun j hj => by rw [addO_eq]; exact (cell_cells (h.ro _ hmem)).trans ((congrArg (fun z => cs[z]?) (show off + i * 32 + j = off + (i * 32 + j) by omega)).trans ((hcs (i * 32 + j) om).trans (by simp only [show (i * 32 + j) / 32 = i by omega,show (i * 32 + j) % 32 = j by omega]))))),trivial⟩ ?_
   refine Le (Eff.alloc (z := (.agg (bv (List.replicate 32 0)))) rfl kr) ?_
   rintro d ⟨hd,nd⟩
   refine Le (Eff.storeN (b := d) (off := 0) (vs := (bv (xs.getD i []))) (n := 32) rfl kr kr kr ((bv_size _).trans (hx i om)) (all_bv _) 0 (cs := (bv (List.replicate 32 0))) (e := 226) kr (by rw [zsz32]; omega)) ?_
   rintro ⟨⟩ -
   refine CfgL.setO (congrArg (fun (xq : Array Value) => (([(d,.cells xq 226 (0,0)),(rs,.cells #[.string ByteArray.empty] 202 (0,0)),(o,.cells #[.string s] 202 (0,0))] ++ (bl 113 5 b (flat id (xs.take i)) B ++ [])) : LO)) (show _ = (bv (xs.getD i [])) from spl_all (((bv_size _).trans (hx i om)).trans zsz32.symm))) ?_
   refine CfgL.done rfl ?_
   refine Cg (Γ' := [(7,[],pT d),(10,[],.int .i64 (i : Int)),(9,[],.int .i64 (xs.length : Int)),(8,[],.slice (some ⟨sb,off,none⟩) xs.length cap),(5,[],pT b),(4,[],pT rs),(2,[],pT o)]) ?_
   refine Cfg.begL rfl ?_
   refine Lp 1 [] (some [2,4,5,8,9,10,14]) (fun _ => [(32 ≤ 32)]) ⟨om,trivial⟩ ?_
   refine Le (Eff.callH (vs := [pT b,.slice (some ⟨d,0,none⟩) 32 32]) (fun _ => (.tuple #[.int .i64 32,.nilIface] : Value)) (bl 113 5 b (flat id (xs.take i)) B) (fun B1 => bl 113 5 b ((flat id (xs.take i)) ++ (xs.getD i [])) B1) (fun B1 => BdOk b ((flat id (xs.take i)) ++ (xs.getD i [])) B1) [(d,.cells (bv (xs.getD i [])) 226 (0,0)),(rs,.cells #[.string ByteArray.empty] 202 (0,0)),(o,.cells #[.string s] 202 (0,0))] [] (by rfl) rfl Tryz.func45 rfl rfl kr (fun w1 h hh hd => bWrite b (flat id (xs.take i)) B d 32 32 (xs.getD i []) 226 w1 hB hh hd (by have h32 := hx i om; have hid : (id (xs.getD i []) : List UInt8).length = 32 := h32; omega) (by decide) (hx i om) (h.own (d,_) (mG 0 rfl)) (HP.notin h (mG 0 rfl)))) ?_
   rintro B1 kB1
   refine CfgL.done rfl ?_
   refine Cg (Γ' := [(10,[],.int .i64 (i : Int)),(9,[],.int .i64 (xs.length : Int)),(8,[],.slice (some ⟨sb,off,none⟩) xs.length cap),(5,[],pT b),(4,[],pT rs),(2,[],pT o)]) ?_
   refine Rg [2,4,5,8,9,10] [] (fun _ => [(i6 ((i : Int) + 1))]) ⟨om,trivial⟩ ?_
   have hcs2 : ((flat id (xs.take i)) ++ (xs.getD i [])) = (flat id (xs.take (i + 1))) := by rw [flat_succ [] om]; rfl
   refine Cfg.setO (congrArg (fun (xq : List UInt8) => (([(d,.cells (bv (xs.getD i [])) 226 (0,0)),(rs,.cells #[.string ByteArray.empty] 202 (0,0)),(o,.cells #[.string s] 202 (0,0))] ++ (bl 113 5 b xq B1 ++ [])) : LO)) (show _ = (flat id (xs.take (i + 1))) from hcs2)) ?_
   refine Cfg.again rfl (i + 1,B1) ⟨by omega,hcs2 ▸ kB1⟩ (by show xs.length - (i + 1) < xs.length - i; omega) (Conv.mk kr) (.cons _ slr)
  ·have c1 := (dF c1r)
   obtain rfl : i = xs.length := by omega
   refine Cfg.setO (congrArg (fun (xq : List UInt8) => (([(rs,.cells #[.string ByteArray.empty] 202 (0,0)),(o,.cells #[.string s] 202 (0,0))] ++ (bl 113 5 b xq B ++ [])) : LO)) (show _ = (flat id xs) from by rw [List.take_length])) ?_
   rw [List.take_length] at hB
   refine Conv.cfg (Γ' := [(9,[],.int .i64 (xs.length : Int)),(8,[],.slice la xs.length cap),(5,[],pT b),(4,[],pT rs),(2,[],pT o)]) (Conv.mk kr) ?_
   refine Cfg.begA rfl kr [(o,.cells #[.string s] 202 (0,0))] ?_
   refine Ap [0] [(dS (.agg #[.string s]))] (some [4,5,17]) (tF 1 4) (.cons _ (.cons_cons _ (List.nil_sublist _))) 4 (fun S => [(∀ w1,S w1 → (loadVar 202 ⟨o,0,none⟩).run Tryz.prog w1 = .ok (.agg #[.string s]) w1)]) ⟨(fun w1 h => h.oload 0 rfl Tryz.underlying202 rfl (n := 1) kr rfl),trivial⟩ ?_
   refine Ae 1 rfl 3  (Eff.callH (vs := [pT b]) (fun _ : Unit => (.string (tx (flat id xs)) : Value)) (bl 113 5 b (flat id xs) B) (fun _ => []) (fun _ => True) [(rs,.cells #[.string ByteArray.empty] 202 (0,0)),(o,.cells #[.string s] 202 (0,0))] [] (by rfl) rfl Tryz.func46 rfl rfl kr (fun w1 h hh hd => bString b (flat id xs) B w1 hB hh hd om)) (fun _ _ => (.cons _ (.cons_cons _ .slnil))) ?_
   rintro ⟨⟩ -
   refine Ae 2 rfl 2  (Eff.buildSlice (e := 9) (cells := #[.string (tx (flat id xs))]) (parts := #[(0,.string (tx (flat id xs)))]) rfl kr (fun _ => kr)) (fun _ _ => (.cons _ (.cons _ (.cons_cons _ .slnil)))) ?_
   rintro x4 ⟨hx4,nx4⟩
   refine Ae 3 rfl 1  (Eff.callA (vs := [.agg #[.string s],.slice (some ⟨x4,0,none⟩) 1 1]) (.agg #[.string (tx (s.data.toList ++ cat [(tx (flat id xs))]))]) rfl Tryz.func142 rfl rfl kr (fun w1 h => wWith s (some ⟨x4,0,none⟩) 1 [(tx (flat id xs))] [(x4,.cells (List.map Value.string [(tx (flat id xs))]).toArray 9 (0,0))] w1 (inS_lit x4 9 (0,0) [(tx (flat id xs))]) (h.has (fun e he => mG 0 (by rw [List.mem_singleton.1 he]; rfl))) (one_len _) (by rw [cat_tx]; omega))) (fun _ _ => (.cons _ (.cons _ (.cons_cons _ .slnil)))) ?_
   rintro ⟨⟩ -
   refine Ae 4 rfl 0  (Eff.storeN (b := rs) (off := 0) (vs := #[.string (tx (s.data.toList ++ cat [(tx (flat id xs))]))]) (n := 1) rfl kr kr kr rfl (by simp [K.one]) 1 (cs := #[.string ByteArray.empty]) (e := 202) kr (by simp)) (fun _ _ => (.cons _ (.cons _ (.cons_cons _ .slnil)))) ?_
   rintro ⟨⟩ -
   refine CfgA.setO (congrArg (fun (xq : Array Value) => ([(x4,.cells #[.string (tx (flat id xs))] 9 (0,0)),(rs,.cells xq 202 (0,0)),(o,.cells #[.string s] 202 (0,0))] : LO)) (show _ = #[.string (tx (s.data.toList ++ cat [(tx (flat id xs))]))] from rfl)) ?_
   refine CfgA.done kr ?_
   refine Cg (Γ' := [(4,[],pT rs)]) ?_
   refine Cfg.ret rfl (rs := [.cell 4 202]) rfl [.agg #[.string (tx (s.data.toList ++ cat [(tx (flat id xs))]))]] ⟨⟨_,by kernel_rfl,(fun w1 h => h.oload 1 rfl Tryz.underlying202 rfl (n := 1) kr rfl)⟩,trivial⟩ (fun w1 hp => ?_)
   exact ⟨by rw [cat_tx]; rfl,hp.ext⟩
set_option maxRecDepth 100000 in
theorem wRaw (s : ByteArray) (la : Option Addr) (cap : Nat) (ss : List ByteArray) (Rl : List (Nat × Obj)) (w : World) (hI : InS Rl la ss.length (fun j => .string (sat ss j))) (hR : Has w Rl) (hn : ss.length ≤ maxLen) (hr : s.size + (cat ss).length ≤ 140737488355328) :
  Calls Tryz.prog 112 #[.agg #[.string s],.slice la ss.length cap] w fun e w' => e = .returned (.agg #[.string (tx (s.data.toList ++ cat ss))]) ∧ Ext [] w w' := by
 refine enter (vs := [.agg #[.string s],.slice la ss.length cap]) [] Rl [] Tryz.func112 rfl kr (HP.ofHas hR) ?_
 refine Cfg.begL rfl ?_
 refine Le (Eff.box (v := .agg #[.string s]) rfl kr) ?_
 rintro o ⟨ho,no⟩
 refine Le (Eff.alloc (z := (.agg #[.string ByteArray.empty])) rfl kr) ?_
 rintro rs ⟨hrs,nrs⟩
 refine CfgL.done rfl ?_
 refine Cg (Γ' := [(4,[],pT rs),(2,[],pT o),(1,[],.slice la ss.length cap)]) ?_
 refine Cfg.begL rfl ?_
 refine Lp 2 [(dS (.agg #[.string s]))] (some [4,5,6]) (fun S => [(∀ w1,S w1 → (loadVar 202 ⟨o,0,none⟩).run Tryz.prog w1 = .ok (.agg #[.string s]) w1)]) ⟨(fun w1 h => h.oload 1 rfl Tryz.underlying202 rfl (n := 1) kr rfl),trivial⟩ ?_
 refine Le (Eff.callA (vs := [.agg #[.string s],.slice la ss.length cap]) (.agg #[.string (tx (s.data.toList ++ cat ss))]) rfl Tryz.func142 rfl rfl kr (fun w1 h => wWith s la cap ss Rl w1 hI (h.hasR (fun _ he => he)) hn hr)) ?_
 rintro ⟨⟩ -
 refine Le (Eff.storeN (b := rs) (off := 0) (vs := #[.string (tx (s.data.toList ++ cat ss))]) (n := 1) rfl kr kr kr rfl (by simp [K.one]) 0 (cs := #[.string ByteArray.empty]) (e := 202) kr (by simp)) ?_
 rintro ⟨⟩ -
 refine CfgL.setO (congrArg (fun (xq : Array Value) => ([(rs,.cells xq 202 (0,0)),(o,.cells #[.string s] 202 (0,0))] : LO)) (show _ = #[.string (tx (s.data.toList ++ cat ss))] from rfl)) ?_
 refine CfgL.done rfl ?_
 refine Cg (Γ' := [(4,[],pT rs)]) ?_
 refine Cfg.ret rfl (rs := [.cell 4 202]) rfl [.agg #[.string (tx (s.data.toList ++ cat ss))]] ⟨⟨_,by kernel_rfl,(fun w1 h => h.oload 0 rfl Tryz.underlying202 rfl (n := 1) kr rfl)⟩,trivial⟩ (fun w1 hp => ?_)
 exact ⟨rfl,hp.ext⟩
set_option maxRecDepth 100000 in
theorem wString (s : ByteArray) (w : World) :
  Calls Tryz.prog 115 #[.agg #[.string s]] w fun e w' => e = .returned (.string s) ∧ Ext [] w w' := by
 refine enter (vs := [.agg #[.string s]]) [] [] [] Tryz.func115 rfl kr (HP.start w) ?_
 refine Cfg.begL rfl ?_
 refine Le (Eff.box (v := .agg #[.string s]) rfl kr) ?_
 rintro o ⟨ho,no⟩
 refine Lp 1 [] (some [1]) n0 trivial ?_
 refine CfgL.done rfl ?_
 refine Rg [2] [dZ,(dS (.string s))] (fun S => [(cE S o 0 (.string s))]) ⟨(oC 0 rfl rfl),trivial⟩ ?_
 refine Cfg.ret rfl (rs := [.tmp 2]) rfl [.string s] ⟨kr,trivial⟩ (fun w1 hp => ?_)
 exact ⟨rfl,hp.ext⟩
end Go.Proofs.YtfgdepggdiibdaaGreatDoor
namespace Go.Proofs.YtfgdepggdiibdaaGreatDoor
open K
set_option linter.unusedVariables false
theorem byteLt (b : UInt8) : b.toNat < 256 := UInt8.toNat_lt b
structure IN where
 er : Int
 rest : List UInt8
def inC (z : IN) : Array Value := #[.int .i64 z.er,.string (tx z.rest)]
def failF (z : IN) (e : Int) : IN := if z.er = 0 then ⟨e,z.rest⟩ else z
def nextF (z : IN) (n : Int) : List UInt8 × IN := if z.er ≠ 0 then ([],z) else if n < 0 ∨ n > (z.rest.length : Int) then ([],⟨3,z.rest⟩) else (z.rest.take n.toNat,⟨z.er,z.rest.drop n.toNat⟩)
theorem tx_take (l : List UInt8) (n : Nat) : (tx l).extract 0 n = tx (l.take n) := by
 apply ByteArray.ext
 apply Array.ext'
 rw [ByteArray.data_extract,Array.toList_extract,List.extract_eq_take_drop]
 simp [tx]
theorem tx_drop (l : List UInt8) (n : Nat) : (tx l).extract n (tx l).size = tx (l.drop n) := by
 apply ByteArray.ext
 apply Array.ext'
 rw [ByteArray.data_extract,Array.toList_extract,List.extract_eq_take_drop,tx_size]
 simp only [tx,List.take_of_length_le (show (l.drop n).length ≤ l.length - n by simp)]
theorem nextF_len (z : IN) (n : Nat) : (nextF z n).1.length ≤ n := by
 unfold nextF
 split
 ·simp
 ·split
  ·simp
  ·simp; omega
def vf (n : Nat) (b : UInt8) : Nat := n * 256 % 18446744073709551616 + b.toNat
def valF (l : List UInt8) : Nat := l.foldl vf 0
theorem vf_lt (n : Nat) (b : UInt8) : vf n b < 18446744073709551616 := by have := byteLt b; unfold vf; omega
theorem foldl_lt : ∀ (l : List UInt8) (n : Nat),n < 18446744073709551616 → l.foldl vf n < 18446744073709551616
 | [],n,h => h
 | b :: l,n,_ => foldl_lt l (vf n b) (vf_lt n b)
theorem valF_lt (l : List UInt8) : valF l < 18446744073709551616 := foldl_lt l 0 (by decide)
theorem or256 (a b : Nat) (hb : b < 256) : 256 * a ||| b = 256 * a + b := by
 have := Nat.two_pow_add_eq_or_of_lt (i := 8) (b := b) (by simpa using hb) a
 simpa using this.symm
theorem vf_or (n : Nat) (b : UInt8) : ((((n : Int) * 256) % 18446744073709551616).toNat ||| b.toNat) = vf n b := by
 have := byteLt b
 rw [show (((n : Int) * 256) % 18446744073709551616).toNat = 256 * (n % 72057594037927936) by omega,or256 _ _ this]
 unfold vf; omega
def gb (l : List UInt8) (i : Nat) : UInt8 := l.getD i 0
theorem val_succ {l : List UInt8} {i : Nat} (h : i < l.length) : valF (l.take (i + 1)) = vf (valF (l.take i)) (gb l i) := by
 unfold valF
 rw [List.take_succ_eq_append_getElem h,List.foldl_append]
 simp [gb,List.getElem?_eq_getElem h]
def byteF (z : IN) : Nat × IN := (valF (nextF z 1).1 % 256,(nextF z 1).2)
def fourF (z : IN) : Nat × IN := (valF (nextF z 4).1 % 4294967296,(nextF z 4).2)
def eightF (z : IN) : Nat × IN := (valF (nextF z 8).1,(nextF z 8).2)
def boundF (z : IN) (most e : Int) : Nat × IN := if (fourF z).1 > (if 0 > most then 0 else most).toNat then (0,failF (fourF z).2 e) else fourF z
theorem fourF_lt (z : IN) : (fourF z).1 < 4294967296 := Nat.mod_lt _ (by decide)
theorem sbyte_gb (l : List UInt8) (i : Nat) : sbyte (tx l) (i : Int) = ((gb l i).toNat : Int) := rfl
set_option maxRecDepth 100000 in
theorem wOf (l : List UInt8) (w : World) :
  Calls Tryz.prog 66 #[.string (tx l)] w fun e w' => ∃ b : Nat,True ∧ e = .returned (.pointer (some ⟨b,0,none⟩)) ∧ w.heap.size ≤ b ∧ w'.heap[b]? = some (.cells (inC ⟨0,l⟩) 196 (0,0)) ∧ Ext [] w w' := by
 refine enter (vs := [.string (tx l)]) [] [] [] Tryz.func66 rfl kr (HP.start w) ?_
 refine Rg [0] [] n0 trivial ?_
 refine Cfg.begL rfl ?_
 refine Lp 2 [dZ,(dS (.agg (inC ⟨0,l⟩)))] (some [4]) (fun S => [(∀ w1,S w1 → (Instr.build 196 #[(1,.string (tx l))]).run Tryz.prog w1 = .ok (.agg (inC ⟨0,l⟩)) w1)]) ⟨(fun _ _ => kr),trivial⟩ ?_
 refine Le (Eff.box (v := .agg (inC ⟨0,l⟩)) rfl kr) ?_
 rintro b1 ⟨hb1,nb1⟩
 refine Lp 1 [] (some [2]) n0 trivial ?_
 refine CfgL.done rfl ?_
 refine Cfg.ret rfl (rs := [.tmp 2]) rfl [pT b1] ⟨kr,trivial⟩ (fun w1 hp => ?_)
 exact ⟨b1,trivial,rfl,hb1,hp.own (b1,_) mH,hp.ext⟩
set_option maxRecDepth 100000 in
theorem wFailed (b : Nat) (z : IN) (w : World) (hB : w.heap[b]? = some (.cells (inC z) 196 (0,0))) :
  Calls Tryz.prog 139 #[.pointer (some ⟨b,0,none⟩)] w fun e w' => e = .returned (.bool (z.er != (0 : Int))) ∧ Ext [] w w' := by
 refine enter (vs := [pT b]) [] [(b,.cells (inC z) 196 (0,0))] [] Tryz.func139 rfl kr (HP.ofHas (fun e he => by rw [List.mem_singleton.1 he]; exact hB)) ?_
 refine Rg [0] [] n0 trivial ?_
 refine Rg [2] [dZ,dZ,dZ,(dS (.int .i64 z.er))] (fun S => [(cE S b 0 (.int .i64 z.er))]) ⟨(rC 0 rfl rfl),trivial⟩ ?_
 refine Cfg.ret rfl (rs := [.tmp 2]) rfl [.bool (z.er != (0 : Int))] ⟨kr,trivial⟩ (fun w1 hp => ?_)
 exact ⟨rfl,hp.ext⟩
set_option maxRecDepth 100000 in
theorem wNote (b : Nat) (z : IN) (x : Int) (w : World) (hB : w.heap[b]? = some (.cells (inC z) 196 (0,0))) :
  Calls Tryz.prog 140 #[.pointer (some ⟨b,0,none⟩),.int .i64 x] w fun e w' => e = .returned (.tuple #[]) ∧ Ext [b] w w' ∧ w'.heap[b]? = some (.cells (inC (failF z x)) 196 (0,0)) := by
 refine enter (vs := [pT b,.int .i64 x]) [b] [] [(b,.cells (inC z) 196 (0,0))] Tryz.func140 rfl kr (HP.startM (R := []) (fun _ h => by cases h) hB (by simp)) ?_
 refine Rg [0,1,8] [dZ,dZ,dZ,(dS (.int .i64 z.er))] (fun S => [(cE S b 0 (.int .i64 z.er))]) ⟨(oC 0 rfl rfl),trivial⟩ ?_
 refine Cfg.cond rfl (b := (z.er == (0 : Int))) kr (fun c1r => ?_) (fun c1r => ?_)
 ·have c1 := (beq_iff_eq.1 c1r)
  refine Cfg.begL rfl ?_
  refine Lp 4 [] (some [10,12]) n0 trivial ?_
  refine Le (Eff.store1 (b := b) (off := 0) (v := .int .i64 x) rfl kr kr rfl kr 0 (cs := (inC z)) (e := 196) kr (by simp [inC])) ?_
  rintro ⟨⟩ -
  refine CfgL.done rfl ?_
  refine Cg (Γ' := []) ?_
  refine Cfg.fin rfl (rs := []) rfl [] trivial (fun w1 hp => ?_)
  exact ⟨rfl,hp.ext,(show failF z x = ⟨x,z.rest⟩ from if_pos c1).symm ▸ hp.own (b,_) mH⟩
 ·have c1 := (beq_eq_false_iff_ne.1 c1r)
  refine Cfg.fin rfl (rs := []) rfl [] trivial (fun w1 hp => ?_)
  exact ⟨rfl,hp.ext,(show failF z x = z from if_neg c1).symm ▸ hp.own (b,_) mH⟩
set_option maxRecDepth 100000 in
theorem wNext (b : Nat) (z : IN) (n : Int) (w : World) (hB : w.heap[b]? = some (.cells (inC z) 196 (0,0))) :
  Calls Tryz.prog 105 #[.pointer (some ⟨b,0,none⟩),.int .i64 n] w fun e w' => e = .returned (.string (tx (nextF z n).1)) ∧ Ext [b] w w' ∧ w'.heap[b]? = some (.cells (inC (nextF z n).2) 196 (0,0)) := by
 have hts := tx_size z.rest
 refine enter (vs := [pT b,.int .i64 n]) [b] [] [(b,.cells (inC z) 196 (0,0))] Tryz.func105 rfl kr (HP.startM (R := []) (fun _ h => by cases h) hB (by simp)) ?_
 refine Rg [0,1] [] n0 trivial ?_
 refine Cfg.begL rfl ?_
 refine Lp 6 [dZ,dZ,dZ,(1,false,none),(1,false,none),(1,false,none)] (some [0,1,8,11]) (fun _ => [((.bool false : Value) = .bool false),((.bool false : Value) = .bool false),((.bool false : Value) = .bool false)]) ⟨rfl,rfl,rfl,trivial⟩ ?_
 refine Le (Eff.callA (vs := [pT b]) (.bool (z.er != (0 : Int))) rfl Tryz.func139 rfl rfl kr (fun w1 h => wFailed b z w1 (h.own (b,_) (mG 0 rfl)))) ?_
 rintro ⟨⟩ -
 refine Lp 1 [] (some [0,1,13]) n0 trivial ?_
 refine CfgL.done rfl ?_
 refine Cfg.cond rfl (b := (z.er != (0 : Int))) kr (fun c1r => ?_) (fun c1r => ?_)
 ·have c1 := (bne_iff_ne.1 c1r)
  refine Rg [4] [] n0 trivial ?_
  refine Cfg.ret rfl (rs := [.tmp 4]) rfl [.string ⟨#[]⟩] ⟨kr,trivial⟩ (fun w1 hp => ?_)
  have hx : nextF z n = ([],z) := if_pos c1
  rw [hx]
  exact ⟨rfl,hp.ext,hp.own (b,_) mH⟩
 ·have c1 := (bne_eq_false_iff_eq.1 c1r)
  refine Rg [0,1,24] [dZ,dZ,dZ,dZ,dZ,dZ,dZ,(dS (.string (tx z.rest)))] (fun S => [((.bool (decide (n < (0 : Int))) : Value) = .bool false → (cE S b 1 (.string (tx z.rest))))]) ⟨(fun g0 => have q0 : (¬ (n < (0 : Int))) := (dF (boolV g0)); (oC 0 rfl rfl)),trivial⟩ ?_
  refine Cfg.cond rfl (b := ((decide (n < (0 : Int))) || (decide (n > ((tx z.rest).size : Int))))) kr (fun c2r => ?_) (fun c2r => ?_)
  ·have c2 : ((n < (0 : Int)) ∨ (n > ((tx z.rest).size : Int))) := ((orT c2r).elim (fun h => Or.inl (dT h)) (fun h => Or.inr (dT h)))
   refine Cfg.begL rfl ?_
   refine Lp 3 [] (some [27]) n0 trivial ?_
   refine Le (Eff.callM (vs := [pT b,.int .i64 3]) (.tuple #[]) 0 (b := b) (ob := .cells (inC z) 196 (0,0)) (.cells (inC (failF z (3 : Int))) 196 (0,0)) rfl Tryz.func140 rfl rfl kr kr (fun w1 h => wNote b z (3 : Int) w1 (h.own (b,_) (mG 0 rfl)))) ?_
   rintro ⟨⟩ -
   refine CfgL.done rfl ?_
   refine Cg (Γ' := []) ?_
   refine Rg [4] [] n0 trivial ?_
   refine Cfg.ret rfl (rs := [.tmp 4]) rfl [.string ⟨#[]⟩] ⟨kr,trivial⟩ (fun w1 hp => ?_)
   have hx : nextF z n = ([],⟨3,z.rest⟩) := (if_neg om).trans (if_pos om)
   have hf : failF z (3 : Int) = ⟨3,z.rest⟩ := if_pos om
   rw [hx]
   exact ⟨rfl,hp.ext,hf ▸ hp.own (b,_) mH⟩
  ·have c2 : ((¬ (n < (0 : Int))) ∧ (¬ (n > ((tx z.rest).size : Int)))) := ⟨(dF (orF1 c2r)),(dF (orF2 c2r))⟩
   refine Rg [0,1,5] [dZ,dZ,dZ,(dS (.string (tx z.rest)))] (fun S => [(cE S b 1 (.string (tx z.rest))),(0 ≤ n),(0 ≤ (n).toNat ∧ (n).toNat ≤ (tx z.rest).size)]) ⟨(oC 0 rfl rfl),om,om,trivial⟩ ?_
   refine Cfg.begL rfl ?_
   refine Lp 9 [dZ,dZ,dZ,dZ,(dS (.string (tx z.rest)))] (some [5,41,43]) (fun S => [(cE S b 1 (.string (tx z.rest))),(0 ≤ n),((n).toNat ≤ (tx z.rest).size ∧ (tx z.rest).size ≤ (tx z.rest).size)]) ⟨(oC 0 rfl rfl),om,om,trivial⟩ ?_
   refine Le (Eff.store1 (b := b) (off := 1) (v := .string ((tx z.rest).extract ((n).toNat) ((tx z.rest).size))) rfl kr kr rfl kr 0 (cs := (inC z)) (e := 196) kr (by simp [inC])) ?_
   rintro ⟨⟩ -
   refine CfgL.done rfl ?_
   refine Cg (Γ' := [(5,[],.string ((tx z.rest).extract 0 ((n).toNat)))]) ?_
   refine Rg [4] [] n0 trivial ?_
   refine Cfg.ret rfl (rs := [.tmp 4]) rfl [.string ((tx z.rest).extract 0 ((n).toNat))] ⟨kr,trivial⟩ (fun w1 hp => ?_)
   have hx : nextF z n = (z.rest.take n.toNat,⟨z.er,z.rest.drop n.toNat⟩) := (if_neg om).trans (if_neg om)
   rw [hx]
   exact ⟨by rw [tx_take]; rfl,hp.ext,by show w1.heap[b]? = some (.cells #[.int .i64 z.er,.string (tx (z.rest.drop n.toNat))] 196 (0,0)); rw [← tx_drop]; exact hp.own (b,_) mH⟩
set_option maxRecDepth 100000 in
theorem wValue (l : List UInt8) (w : World) (hl : l.length ≤ 9223372036854775807) :
  Calls Tryz.prog 109 #[.string (tx l)] w fun e w' => e = .returned (.int .u64 (valF l : Int)) ∧ Ext [] w w' := by
 have hts := tx_size l
 refine enter (vs := [.string (tx l)]) [] [] [] Tryz.func109 rfl kr (HP.start w) ?_
 refine Rg [0] [] n0 trivial ?_
 refine Rg [0,3] [] n0 trivial ?_
 refine Rg [0,3,6,7] [] n0 trivial ?_
 refine Cfg.loop rfl (ι := Nat) (fun (i : Nat) => [(7,[],.int .i64 (i : Int)),(6,[],.int .i64 ((tx l).size : Int)),(3,[],.int .u64 ((valF (l.take i)) : Int)),(0,[],.string (tx l))]) (fun (i : Nat) => []) (fun (i : Nat) => (i ≤ l.length)) (fun (i : Nat) => l.length - i) 0 ?_ (Conv.mk kr) .slnil ?_
 ·exact Nat.zero_le _
 ·rintro i hi
  refine Rg [0,3,6,7,8] [] n0 trivial ?_
  refine Cfg.cond rfl (b := (decide ((i : Int) < ((tx l).size : Int)))) kr (fun c1r => ?_) (fun c1r => ?_)
  ·have c1 := (dT c1r)
   refine Rg [0,3,4,6,7] [] n0 trivial ?_
   refine Rg [0,3,6,7] [] (fun _ => [(0 ≤ (8 : Int) ∧ 8 ≤ 64),(0 ≤ (i : Int) ∧ (i : Int) < ((tx l).size : Int)),((0 : Int) ≤ (sbyte (tx l) (i : Int)) ∧ (sbyte (tx l) (i : Int)) ≤ 18446744073709551615),((0 ≤ ((((valF (l.take i)) : Int) * 256) % 18446744073709551616) ∧ ((((valF (l.take i)) : Int) * 256) % 18446744073709551616) ≤ 18446744073709551615) ∧ 0 ≤ (sbyte (tx l) (i : Int)) ∧ (sbyte (tx l) (i : Int)) ≤ 18446744073709551615)]) ⟨om,om,(by have := byteLt (gb l i); have := valF_lt (l.take i); have := sbyte_gb l i; omega),(by have := byteLt (gb l i); have := valF_lt (l.take i); have := sbyte_gb l i; omega),trivial⟩ ?_
   refine Rg [0,3,6,7] [] (fun _ => [(i6 ((i : Int) + 1))]) ⟨om,trivial⟩ ?_
   refine Cfg.setS 3 (congrArg (fun (xq : Int) => (.int .u64 xq : Value)) (show (((((((valF (l.take i)) : Int) * 256) % 18446744073709551616)).toNat ||| ((sbyte (tx l) (i : Int))).toNat : Nat) : Int) = ((valF (l.take (i + 1))) : Int) from by rw [val_succ om,← vf_or,sbyte_gb]; rfl)) ?_
   refine Cfg.again rfl (i + 1) (show i + 1 ≤ l.length by omega) om (Conv.mk kr) .slnil
  ·have c1 := (dF c1r)
   refine Rg [2] [] n0 trivial ?_
   refine Cfg.ret rfl (rs := [.tmp 2]) rfl [.int .u64 ((valF (l.take i)) : Int)] ⟨kr,trivial⟩ (fun w1 hp => ?_)
   exact ⟨by rw [show l.take i = l from List.take_of_length_le om]; rfl,hp.ext⟩
set_option maxRecDepth 100000 in
theorem wTByte (b : Nat) (z : IN) (w : World) (hB : w.heap[b]? = some (.cells (inC z) 196 (0,0))) :
  Calls Tryz.prog 69 #[.pointer (some ⟨b,0,none⟩)] w fun e w' => e = .returned (.int .u8 ((byteF z).1 : Int)) ∧ Ext [b] w w' ∧ w'.heap[b]? = some (.cells (inC (byteF z).2) 196 (0,0)) := by
 refine enter (vs := [pT b]) [b] [] [(b,.cells (inC z) 196 (0,0))] Tryz.func69 rfl kr (HP.startM (R := []) (fun _ h => by cases h) hB (by simp)) ?_
 refine Rg [0] [] n0 trivial ?_
 refine Cfg.begL rfl ?_
 refine Lp 1 [] (some [3]) n0 trivial ?_
 refine Le (Eff.callM (vs := [pT b,.int .i64 1]) (.string (tx (nextF z (1 : Int)).1)) 0 (b := b) (ob := .cells (inC z) 196 (0,0)) (.cells (inC ((nextF z (1 : Int)).2)) 196 (0,0)) rfl Tryz.func105 rfl rfl kr kr (fun w1 h => wNext b z (1 : Int) w1 (h.own (b,_) (mG 0 rfl)))) ?_
 rintro ⟨⟩ -
 refine Le (Eff.callA (vs := [.string (tx (nextF z (1 : Int)).1)]) (.int .u64 ((valF ((nextF z (1 : Int)).1)) : Int)) rfl Tryz.func109 rfl rfl kr (fun w1 _ => wValue ((nextF z (1 : Int)).1) w1 (Nat.le_trans (nextF_len _ _) (by decide)))) ?_
 rintro ⟨⟩ -
 refine Lp 2 [] (some [2]) n0 trivial ?_
 refine CfgL.done rfl ?_
 refine Cfg.ret rfl (rs := [.tmp 2]) rfl [.int .u8 (((valF ((nextF z (1 : Int)).1)) : Int) % 256)] ⟨kr,trivial⟩ (fun w1 hp => ?_)
 exact ⟨rfl,hp.ext,hp.own (b,_) mH⟩
set_option maxRecDepth 100000 in
theorem wTFour (b : Nat) (z : IN) (w : World) (hB : w.heap[b]? = some (.cells (inC z) 196 (0,0))) :
  Calls Tryz.prog 70 #[.pointer (some ⟨b,0,none⟩)] w fun e w' => e = .returned (.int .u32 ((fourF z).1 : Int)) ∧ Ext [b] w w' ∧ w'.heap[b]? = some (.cells (inC (fourF z).2) 196 (0,0)) := by
 refine enter (vs := [pT b]) [b] [] [(b,.cells (inC z) 196 (0,0))] Tryz.func70 rfl kr (HP.startM (R := []) (fun _ h => by cases h) hB (by simp)) ?_
 refine Rg [0] [] n0 trivial ?_
 refine Cfg.begL rfl ?_
 refine Lp 1 [] (some [3]) n0 trivial ?_
 refine Le (Eff.callM (vs := [pT b,.int .i64 4]) (.string (tx (nextF z (4 : Int)).1)) 0 (b := b) (ob := .cells (inC z) 196 (0,0)) (.cells (inC ((nextF z (4 : Int)).2)) 196 (0,0)) rfl Tryz.func105 rfl rfl kr kr (fun w1 h => wNext b z (4 : Int) w1 (h.own (b,_) (mG 0 rfl)))) ?_
 rintro ⟨⟩ -
 refine Le (Eff.callA (vs := [.string (tx (nextF z (4 : Int)).1)]) (.int .u64 ((valF ((nextF z (4 : Int)).1)) : Int)) rfl Tryz.func109 rfl rfl kr (fun w1 _ => wValue ((nextF z (4 : Int)).1) w1 (Nat.le_trans (nextF_len _ _) (by decide)))) ?_
 rintro ⟨⟩ -
 refine Lp 2 [] (some [2]) n0 trivial ?_
 refine CfgL.done rfl ?_
 refine Cfg.ret rfl (rs := [.tmp 2]) rfl [.int .u32 (((valF ((nextF z (4 : Int)).1)) : Int) % 4294967296)] ⟨kr,trivial⟩ (fun w1 hp => ?_)
 exact ⟨rfl,hp.ext,hp.own (b,_) mH⟩
set_option maxRecDepth 100000 in
theorem wTEight (b : Nat) (z : IN) (w : World) (hB : w.heap[b]? = some (.cells (inC z) 196 (0,0))) :
  Calls Tryz.prog 99 #[.pointer (some ⟨b,0,none⟩)] w fun e w' => e = .returned (.int .u64 ((eightF z).1 : Int)) ∧ Ext [b] w w' ∧ w'.heap[b]? = some (.cells (inC (eightF z).2) 196 (0,0)) := by
 refine enter (vs := [pT b]) [b] [] [(b,.cells (inC z) 196 (0,0))] Tryz.func99 rfl kr (HP.startM (R := []) (fun _ h => by cases h) hB (by simp)) ?_
 refine Rg [0] [] n0 trivial ?_
 refine Cfg.begL rfl ?_
 refine Lp 1 [] (some [3]) n0 trivial ?_
 refine Le (Eff.callM (vs := [pT b,.int .i64 8]) (.string (tx (nextF z (8 : Int)).1)) 0 (b := b) (ob := .cells (inC z) 196 (0,0)) (.cells (inC ((nextF z (8 : Int)).2)) 196 (0,0)) rfl Tryz.func105 rfl rfl kr kr (fun w1 h => wNext b z (8 : Int) w1 (h.own (b,_) (mG 0 rfl)))) ?_
 rintro ⟨⟩ -
 refine Le (Eff.callA (vs := [.string (tx (nextF z (8 : Int)).1)]) (.int .u64 ((valF ((nextF z (8 : Int)).1)) : Int)) rfl Tryz.func109 rfl rfl kr (fun w1 _ => wValue ((nextF z (8 : Int)).1) w1 (Nat.le_trans (nextF_len _ _) (by decide)))) ?_
 rintro ⟨⟩ -
 refine Lp 1 [] (some [2]) n0 trivial ?_
 refine CfgL.done rfl ?_
 refine Cfg.ret rfl (rs := [.tmp 2]) rfl [.int .u64 ((valF ((nextF z (8 : Int)).1)) : Int)] ⟨kr,trivial⟩ (fun w1 hp => ?_)
 exact ⟨rfl,hp.ext,hp.own (b,_) mH⟩
set_option maxRecDepth 100000 in
theorem wFail (b : Nat) (z : IN) (x : Int) (w : World) (hB : w.heap[b]? = some (.cells (inC z) 196 (0,0))) :
  Calls Tryz.prog 164 #[.pointer (some ⟨b,0,none⟩),.int .i64 x] w fun e w' => e = .returned (.tuple #[]) ∧ Ext [b] w w' ∧ w'.heap[b]? = some (.cells (inC (failF z x)) 196 (0,0)) := by
 refine enter (vs := [pT b,.int .i64 x]) [b] [] [(b,.cells (inC z) 196 (0,0))] Tryz.func164 rfl kr (HP.startM (R := []) (fun _ h => by cases h) hB (by simp)) ?_
 refine Rg [0,1,5] [] n0 trivial ?_
 refine Cfg.condT rfl (b := true) kr rfl ?_
 refine Cfg.begL rfl ?_
 refine Lp 4 [] (some [8,9]) n0 trivial ?_
 refine Le (Eff.callM (vs := [pT b,.int .i64 x]) (.tuple #[]) 0 (b := b) (ob := .cells (inC z) 196 (0,0)) (.cells (inC (failF z x)) 196 (0,0)) rfl Tryz.func140 rfl rfl kr kr (fun w1 h => wNote b z x w1 (h.own (b,_) (mG 0 rfl)))) ?_
 rintro ⟨⟩ -
 refine CfgL.done rfl ?_
 refine Cg (Γ' := []) ?_
 refine Cfg.fin rfl (rs := []) rfl [] trivial (fun w1 hp => ?_)
 exact ⟨rfl,hp.ext,hp.own (b,_) mH⟩
set_option maxRecDepth 100000 in
theorem wBounded (b : Nat) (z : IN) (most x : Int) (w : World) (hB : w.heap[b]? = some (.cells (inC z) 196 (0,0))) (hm : most ≤ 9223372036854775807) :
  Calls Tryz.prog 133 #[.pointer (some ⟨b,0,none⟩),.int .i64 most,.int .i64 x] w fun e w' => e = .returned (.int .i64 ((boundF z most x).1 : Int)) ∧ Ext [b] w w' ∧ w'.heap[b]? = some (.cells (inC (boundF z most x).2) 196 (0,0)) := by
 have hfl := fourF_lt z
 have hmx : (if (0 : Int) > most then (0 : Int) else most) ≤ 9223372036854775807 ∧ 0 ≤ (if (0 : Int) > most then (0 : Int) else most) := by split <;> omega
 refine enter (vs := [pT b,.int .i64 most,.int .i64 x]) [b] [] [(b,.cells (inC z) 196 (0,0))] Tryz.func133 rfl kr (HP.startM (R := []) (fun _ h => by cases h) hB (by simp)) ?_
 refine Rg [0,1,2] [] n0 trivial ?_
 refine Cfg.begL rfl ?_
 refine Lp 1 [] none n0 trivial ?_
 refine Le (Eff.callM (vs := [pT b]) (.int .u32 ((fourF z).1 : Int)) 0 (b := b) (ob := .cells (inC z) 196 (0,0)) (.cells (inC ((fourF z).2)) 196 (0,0)) rfl Tryz.func70 rfl rfl kr kr (fun w1 h => wTFour b z w1 (h.own (b,_) (mG 0 rfl)))) ?_
 rintro ⟨⟩ -
 refine Lp 1 [] (some [0,1,2,7]) n0 trivial ?_
 refine CfgL.done rfl ?_
 refine Cfg.begL rfl ?_
 refine Lp 3 [] (some [0,2,7,11,12]) (fun _ => [((0 : Int) ≤ ((fourF z).1 : Int) ∧ ((fourF z).1 : Int) ≤ 18446744073709551615)]) ⟨om,trivial⟩ ?_
 refine Le (Eff.maxI (k := .i64) (a := most) (b := 0) rfl kr kr) ?_
 rintro ⟨⟩ -
 refine Lp 2 [] (some [0,2,7,15]) n0 trivial ?_
 refine CfgL.done rfl ?_
 refine Cfg.cond rfl (b := (decide (((fourF z).1 : Int) > ((if (0 : Int) > most then (0 : Int) else most) % 18446744073709551616)))) kr (fun c1r => ?_) (fun c1r => ?_)
 ·have c1 := (dT c1r)
  refine Cfg.begL rfl ?_
  refine Lp 2 [] (some [16,17]) n0 trivial ?_
  refine Le (Eff.callM (vs := [pT b,.int .i64 x]) (.tuple #[]) 0 (b := b) (ob := .cells (inC ((fourF z).2)) 196 (0,0)) (.cells (inC (failF ((fourF z).2) x)) 196 (0,0)) rfl Tryz.func164 rfl rfl kr kr (fun w1 h => wFail b ((fourF z).2) x w1 (h.own (b,_) (mG 0 rfl)))) ?_
  rintro ⟨⟩ -
  refine CfgL.done rfl ?_
  refine Cg (Γ' := []) ?_
  refine Rg [6] [] n0 trivial ?_
  refine Cfg.ret rfl (rs := [.tmp 6]) rfl [.int .i64 0] ⟨kr,trivial⟩ (fun w1 hp => ?_)
  have hx : boundF z most x = (0,failF (fourF z).2 x) := if_pos om
  rw [hx]
  exact ⟨rfl,hp.ext,hp.own (b,_) mH⟩
 ·have c1 := (dF c1r)
  refine Rg [6] [] (fun _ => [(i6 ((fourF z).1 : Int))]) ⟨om,trivial⟩ ?_
  refine Cfg.ret rfl (rs := [.tmp 6]) rfl [.int .i64 ((fourF z).1 : Int)] ⟨kr,trivial⟩ (fun w1 hp => ?_)
  have hx : boundF z most x = fourF z := if_neg om
  rw [hx]
  exact ⟨rfl,hp.ext,hp.own (b,_) mH⟩
set_option maxRecDepth 100000 in
theorem wCount (b : Nat) (z : IN) (most : Int) (w : World) (hB : w.heap[b]? = some (.cells (inC z) 196 (0,0))) (hm : most ≤ 9223372036854775807) :
  Calls Tryz.prog 100 #[.pointer (some ⟨b,0,none⟩),.int .i64 most] w fun e w' => e = .returned (.int .i64 ((boundF z most 6).1 : Int)) ∧ Ext [b] w w' ∧ w'.heap[b]? = some (.cells (inC (boundF z most 6).2) 196 (0,0)) := by
 refine enter (vs := [pT b,.int .i64 most]) [b] [] [(b,.cells (inC z) 196 (0,0))] Tryz.func100 rfl kr (HP.startM (R := []) (fun _ h => by cases h) hB (by simp)) ?_
 refine Rg [0,1] [] n0 trivial ?_
 refine Cfg.begL rfl ?_
 refine Lp 2 [] (some [5,6]) n0 trivial ?_
 refine Le (Eff.callM (vs := [pT b,.int .i64 most,.int .i64 6]) (.int .i64 ((boundF z most (6 : Int)).1 : Int)) 0 (b := b) (ob := .cells (inC z) 196 (0,0)) (.cells (inC ((boundF z most (6 : Int)).2)) 196 (0,0)) rfl Tryz.func133 rfl rfl kr kr (fun w1 h => wBounded b z most (6 : Int) w1 (h.own (b,_) (mG 0 rfl)) om)) ?_
 rintro ⟨⟩ -
 refine Lp 1 [] (some [4]) n0 trivial ?_
 refine CfgL.done rfl ?_
 refine Cfg.ret rfl (rs := [.tmp 4]) rfl [.int .i64 ((boundF z most (6 : Int)).1 : Int)] ⟨kr,trivial⟩ (fun w1 hp => ?_)
 exact ⟨rfl,hp.ext,hp.own (b,_) mH⟩
set_option maxRecDepth 100000 in
theorem wTRaw (b : Nat) (z : IN) (n : Int) (w : World) (hB : w.heap[b]? = some (.cells (inC z) 196 (0,0))) :
  Calls Tryz.prog 67 #[.pointer (some ⟨b,0,none⟩),.int .i64 n] w fun e w' => e = .returned (.string (tx (nextF z n).1)) ∧ Ext [b] w w' ∧ w'.heap[b]? = some (.cells (inC (nextF z n).2) 196 (0,0)) := by
 refine enter (vs := [pT b,.int .i64 n]) [b] [] [(b,.cells (inC z) 196 (0,0))] Tryz.func67 rfl kr (HP.startM (R := []) (fun _ h => by cases h) hB (by simp)) ?_
 refine Rg [0,1] [] n0 trivial ?_
 refine Cfg.begL rfl ?_
 refine Lp 2 [] (some [5,6]) n0 trivial ?_
 refine Le (Eff.callM (vs := [pT b,.int .i64 n]) (.string (tx (nextF z n).1)) 0 (b := b) (ob := .cells (inC z) 196 (0,0)) (.cells (inC ((nextF z n).2)) 196 (0,0)) rfl Tryz.func105 rfl rfl kr kr (fun w1 h => wNext b z n w1 (h.own (b,_) (mG 0 rfl)))) ?_
 rintro ⟨⟩ -
 refine Lp 1 [] (some [4]) n0 trivial ?_
 refine CfgL.done rfl ?_
 refine Cfg.ret rfl (rs := [.tmp 4]) rfl [.string (tx (nextF z n).1)] ⟨kr,trivial⟩ (fun w1 hp => ?_)
 exact ⟨rfl,hp.ext,hp.own (b,_) mH⟩
set_option maxRecDepth 100000 in
theorem wErr (b : Nat) (z : IN) (w : World) (hB : w.heap[b]? = some (.cells (inC z) 196 (0,0))) :
  Calls Tryz.prog 101 #[.pointer (some ⟨b,0,none⟩)] w fun e w' => e = .returned (.int .i64 z.er) ∧ Ext [] w w' := by
 refine enter (vs := [pT b]) [] [(b,.cells (inC z) 196 (0,0))] [] Tryz.func101 rfl kr (HP.ofHas (fun e he => by rw [List.mem_singleton.1 he]; exact hB)) ?_
 refine Rg [0] [] n0 trivial ?_
 refine Rg [0,4] [] n0 trivial ?_
 refine Cfg.condF rfl (b := false) kr rfl ?_
 refine Rg [2] [dZ,dZ,dZ,dZ,(dS (.int .i64 z.er))] (fun S => [(cE S b 0 (.int .i64 z.er))]) ⟨(rC 0 rfl rfl),trivial⟩ ?_
 refine Cfg.ret rfl (rs := [.tmp 2]) rfl [.int .i64 z.er] ⟨kr,trivial⟩ (fun w1 hp => ?_)
 exact ⟨rfl,hp.ext⟩
end Go.Proofs.YtfgdepggdiibdaaGreatDoor
namespace Go.Proofs.YtfgdepggdiibdaaGreatDoor
open K
set_option linter.unusedVariables false
def nd (n i : Nat) : Nat := n / 256 ^ i
theorem inS_num (bk : Nat) (t : TypeId) (fr : Nat × Nat) (k : IntKind) (n : Nat) : InS [(bk,.cells #[.int k (n : Int)] t fr)] (some ⟨bk,0,none⟩) [n].length (fun j => .int k (([n].getD j 0 : Nat) : Int)) := by
 intro _
 refine ⟨bk,0,_,t,fr,rfl,List.mem_singleton.2 rfl,fun j hj => ?_⟩
 obtain rfl : j = 0 := by simpa using hj
 rfl
theorem one_get {n m : Nat} (h : n < m) (hm : 0 < m) (i : Nat) : [n].getD i 0 < m := by
 cases i with
 | zero => exact h
 | succ i => exact hm
theorem flat_one {α : Type} (f : α → List UInt8) (x : α) : flat f [x] = f x := by simp [flat]
end Go.Proofs.YtfgdepggdiibdaaGreatDoor
namespace Go.Proofs.YtfgdepggdiibdaaGreatDoor
namespace K
section
variable {C : Cx} {R O : List (Nat × Obj)} {Γ : Env} {op : Oper}
theorem Eff.sliceTo {t e : TypeId} {x h : Operand} (ho : op.op = .slice t x none (some h) none) (ht : C.P.underlying t = some (.slice e)) (hsz : ((C.P.info? e).map (·.size)).isSome = true)
  {a : Option Addr} {n c m : Nat} (hx : opd Γ [] x = some (.slice a n c)) (hh : opd Γ [] h = some (.int .i64 (m : Int))) (hm : m ≤ c) : Eff C R O Γ op Unit (fun _ => .slice a m c) (fun _ => O) (fun _ => True) := by
 obtain ⟨sz,hsz⟩ := Option.isSome_iff_exists.1 hsz
 obtain ⟨inf,hi,hs1⟩ := Option.map_eq_some_iff.1 hsz
 refine Eff.of_run fun ac w hs hp => ⟨(),w,trivial,?_,hp⟩
 have hb : ∀ (x y : Nat) (code : BoundsCode),x ≤ y → (Instr.sliceBound (.int .i64 (x : Int)) y code).run C.P w = .ok x w := by
  intro x y code hxy
  have hai : (asIntOf (.int .i64 (x : Int))).run C.P w = .ok (.i64,(x : Int)) w := rfl
  have h2 : (0 : Int) ≤ (x : Int) ∧ (x : Int) ≤ (y : Int) := ⟨by omega,by omega⟩
  simp [Instr.sliceBound,hai,hxy]
 have hbs : (Instr.sliceBounds true n c none (some (.int .i64 (m : Int))) none).run C.P w = .ok (0,m,c) w := by
  simp [Instr.sliceBounds,hb m c _ hm,Result.andThen_ok]
 have hr : (Instr.slice t (.slice a n c) none (some (.int .i64 (m : Int))) none).run C.P w = .ok (.slice a m c) w := by
  simp only [Instr.slice,Sem.run_bind,run_underlying' ht,Result.andThen_ok,hbs,run_sizeOf' hi,Sem.run_pure]
  cases a <;> simp [Addr.add]
 have e1 := opd_ok hs (holds_nil _) hx
 have e2 := opd_ok hs (holds_nil _) hh
 simp only [execOp,ho]
 refine run_v ?_
 simp only [Option.map_some,Option.map_none,e1,e2,Instr.sliceAt,Sem.run_bind,run_underlying' ht,Result.andThen_ok]
 exact hr
end
end K
end Go.Proofs.YtfgdepggdiibdaaGreatDoor
namespace Go.Proofs.YtfgdepggdiibdaaGreatDoor
open K
set_option linter.unusedVariables false
abbrev Wr := Int × List UInt8
def wz : Wr := (0,zb)
def jc (r : Wr) : List Value := .int .i64 r.1 :: (bv r.2).toList
def jv (l : List Wr) : List Value := l.flatMap jc
def WW (l : List Wr) : Prop := ∀ r ∈ l,r.2.length = 512
theorem jc_len {r : Wr} (h : r.2.length = 512) : (jc r).length = 513 := by unfold jc; rw [List.length_cons,Array.length_toList,bv_size,h]
theorem WW.tail {r : Wr} {l : List Wr} (h : WW (r :: l)) : WW l := fun x hx => h x (List.mem_cons_of_mem _ hx)
theorem WW.nil : WW [] := fun _ h => by cases h
theorem WW.app {a b : List Wr} (ha : WW a) (hb : WW b) : WW (a ++ b) := fun x hx => (List.mem_append.1 hx).elim (ha x) (hb x)
theorem WW.take {l : List Wr} (h : WW l) (i : Nat) : WW (l.take i) := fun x hx => h x (List.mem_of_mem_take hx)
theorem WW.drop {l : List Wr} (h : WW l) (i : Nat) : WW (l.drop i) := fun x hx => h x (List.mem_of_mem_drop hx)
theorem WW.at {l : List Wr} (h : WW l) (i : Nat) : (l.getD i wz).2.length = 512 := by
 rw [List.getD_eq_getElem?_getD]
 by_cases hi : i < l.length
 ·rw [List.getElem?_eq_getElem hi]; exact h _ (List.getElem_mem hi)
 ·rw [List.getElem?_eq_none om]; exact zb_len
theorem jv_cons (r : Wr) (l : List Wr) : jv (r :: l) = jc r ++ jv l := rfl
theorem jv_app (a b : List Wr) : jv (a ++ b) = jv a ++ jv b := by simp [jv]
theorem jv_one (r : Wr) : jv [r] = jc r := by simp [jv]
theorem jv_len {l : List Wr} (h : WW l) : (jv l).length = l.length * 513 := by
 induction l with
 | nil => rfl
 | cons r l ih => rw [jv_cons,List.length_append,jc_len (h r mH),ih h.tail,List.length_cons]; omega
theorem jc_all (r : Wr) : ∀ v ∈ jc r,K.one v = true := by
 intro v hv
 rcases List.mem_cons.1 hv with rfl | hv
 ·rfl
 ·exact all_bv _ v hv
theorem jv_get {l : List Wr} (h : WW l) : ∀ {i j : Nat},i < l.length → j < 513 → (jv l)[i * 513 + j]? = (jc (l.getD i wz))[j]? := by
 induction l with
 | nil => intro i j hi; simp at hi
 | cons r l ih =>
  intro i j hi hj
  have hr := jc_len (h r mH)
  rw [jv_cons]
  cases i with
  | zero => rw [Nat.zero_mul,Nat.zero_add,List.getElem?_append_left om]; rfl
  | succ i =>
   rw [List.getElem?_append_right om,hr,show (i + 1) * 513 + j - 513 = i * 513 + j by omega]
   exact ih h.tail (by simpa using hi) hj
theorem jc_some {r : Wr} {j : Nat} {v : Value} (h : r.2.length = 512) (hv : (jc r)[j]? = some v) : j < 513 := by
 have := (List.getElem?_eq_some_iff.1 hv).1
 rw [jc_len h] at this; exact this
theorem wr_cell {l : List Wr} {cs : Array Value} {off i : Nat} (hW : WW l) (hcs : ∀ j,j < l.length * 513 → cs[off + j]? = some ((jv l).getD j undef)) (hi : i < l.length) {j : Nat} {v : Value} (hv : (jc (l.getD i wz))[j]? = some v) : cs[off + i * 513 + j]? = some v := by
 have hj := jc_some (hW.at i) hv
 rw [Nat.add_assoc,hcs (i * 513 + j) om,List.getD_eq_getElem?_getD,jv_get hW hi hj,hv]; rfl
def InW (Rl : List (Nat × Obj)) (la : Option Addr) (l : List Wr) : Prop := InS Rl la (l.length * 513) (fun j => (jv l).getD j undef)
theorem InW.mono {Rl Rl' : List (Nat × Obj)} {la : Option Addr} {l : List Wr} (h : InW Rl la l) (hR : ∀ e ∈ Rl,e ∈ Rl') : InW Rl' la l := InS.mono h hR
theorem inW_own {o : K.Own} {e : TypeId} {l : List Wr} (hok : OwnOk o 513 l.length (jv l)) : InW (o.o e (jv l)) o.a l := by
 intro hn
 obtain ⟨p,rfl⟩ := own_some hok om
 refine ⟨p.1,0,_,e,(0,0),rfl,mH,fun j hj => ?_⟩
 have hl := hok.len
 rw [Nat.zero_add]
 simp only [List.getElem?_toArray]
 rw [List.getElem?_append_left om,List.getD_eq_getElem?_getD,List.getElem?_eq_getElem om]; rfl
def two (a : Int) : List UInt8 := [UInt8.ofNat ((a / 256) % 256).toNat,UInt8.ofNat (a % 256).toNat]
def twoW (r : Wr) : List UInt8 := two r.1
def blkW (r : Wr) : List UInt8 := r.2
theorem twoW_len (r : Wr) : (twoW r).length = 2 := rfl
def mkL : List UInt8 := [80,82,84,82]
def hdS (n : Nat) (l : List Wr) : List UInt8 := mkL ++ eight n ++ four l.length ++ flat twoW l
def hdL (n : Nat) (l : List Wr) : List UInt8 := hdS n l ++ shaD (hdS n l ++ flat blkW l)
def headF (n : Nat) (l : List Wr) : List UInt8 := hdL n (l.take 96) ++ List.replicate (512 - (hdL n (l.take 96)).length) 0
theorem flat2_len (l : List Wr) : (flat twoW l).length = 2 * l.length := by
 induction l with
 | nil => rfl
 | cons a l ih => rw [show a :: l = [a] ++ l from rfl,flat_app,List.length_append,ih]; simp only [flat,List.flatMap_cons,List.flatMap_nil,List.append_nil,twoW_len,List.length_append,List.length_cons,List.length_nil]; omega
theorem hdS_len (n : Nat) (l : List Wr) : (hdS n l).length = 16 + 2 * l.length := by
 unfold hdS; rw [List.length_append,List.length_append,List.length_append,flat2_len]; unfold eight four; rw [be_len,be_len]; simp only [mkL,List.length_cons,List.length_nil]
theorem hdL_len (n : Nat) (l : List Wr) : (hdL n l).length = 48 + 2 * l.length := by
 unfold hdL; rw [List.length_append,hdS_len,shaD_len]; omega
theorem t96_len (l : List Wr) : (l.take 96).length ≤ 96 := by rw [List.length_take]; omega
theorem headF_len (n : Nat) (l : List Wr) : (headF n l).length = 512 := by
 have h1 := hdL_len n (l.take 96)
 have h2 := t96_len l
 unfold headF; rw [List.length_append,List.length_replicate]; omega
end Go.Proofs.YtfgdepggdiibdaaGreatDoor
namespace Go.Proofs.YtfgdepggdiibdaaGreatDoor
namespace K
open Go.MapKept
theorem ba_eqb (a b : ByteArray) : (a == b) = decide (a = b) := by
 obtain ⟨x⟩ := a
 obtain ⟨y⟩ := b
 show (x == y) = _
 by_cases h : x = y
 ·rw [h,decide_eq_true rfl]; exact beq_self_eq_true _
 ·rw [decide_eq_false (fun e => h (by injection e))]; exact beq_eq_false_iff_ne.2 h
theorem era_map {α β : Type} (f : α → β) : ∀ (l : List α) (i : Nat),(l.eraseIdx i).map f = (l.map f).eraseIdx i
 | [],_ => rfl
 | _ :: _,0 => rfl
 | a :: l,i + 1 => by rw [List.eraseIdx_cons_succ,List.map_cons,List.map_cons,List.eraseIdx_cons_succ,era_map f l i]
structure SMapOk (es : Array MapEntry) (ck : Nat) (W : List (ByteArray × Value)) : Prop where
 rel : es.toList.map (fun e => (e.key,e.val)) = W.map fun p => (Value.string p.1,p.2)
 st : Stamped es ck
def smfind (k : ByteArray) : List (ByteArray × Value) → Nat → Option (Nat × Value)
 | [],_ => none
 | p :: W,i => if k = p.1 then some (i,p.2) else smfind k W (i + 1)
def smget (W : List (ByteArray × Value)) (k : ByteArray) : Option Value := match W with
 | [] => none
 | p :: W => if k = p.1 then some p.2 else smget W k
def smset (W : List (ByteArray × Value)) (k : ByteArray) (v : Value) : List (ByteArray × Value) := match W with
 | [] => [(k,v)]
 | p :: W => if k = p.1 then (k,v) :: W else p :: smset W k v
theorem smfind_get (k : ByteArray) : ∀ (W : List (ByteArray × Value)) (i : Nat),(smfind k W i).map (·.2) = smget W k
 | [],_ => rfl
 | p :: W,i => by
  unfold smfind smget
  split
  ·rfl
  ·exact smfind_get k W (i + 1)
theorem smset_keys {W : List (ByteArray × Value)} {k : ByteArray} {v : Value} : ∀ p ∈ smset W k v,p.1 = k ∨ p ∈ W := by
 induction W with
 | nil => intro p hp; rw [smset] at hp; rw [List.mem_singleton.1 hp]; exact .inl rfl
 | cons q W ih =>
  intro p hp
  unfold smset at hp
  split at hp
  ·rcases List.mem_cons.1 hp with rfl | hp
   ·exact .inl rfl
   ·exact .inr (List.mem_cons_of_mem _ hp)
  ·rcases List.mem_cons.1 hp with rfl | hp
   ·exact .inr mH
   ·rcases ih p hp with h | h
    ·exact .inl h
    ·exact .inr (List.mem_cons_of_mem _ h)
theorem sfindNow_of (k : ByteArray) : ∀ (es : List MapEntry) (W : List (ByteArray × Value)) (i : Nat),es.map (fun e => (e.key,e.val)) = W.map (fun p => (Value.string p.1,p.2)) → Instr.findNow .string (.string k) es i = some (smfind k W i)
 | [],[],_,_ => rfl
 | [],_ :: _,_,h => by simp at h
 | _ :: _,[],_,h => by simp at h
 | e :: es,p :: W,i,h => by
  simp only [List.map_cons,List.cons.injEq,Prod.mk.injEq] at h
  obtain ⟨⟨h1,h2⟩,h3⟩ := h
  unfold Instr.findNow smfind
  rw [h1]
  simp only [Instr.sameNow]
  by_cases hk : k = p.1
  ·subst hk; rw [ba_eqb,decide_eq_true rfl]; simp [h2]
  ·rw [if_neg hk,ba_eqb,decide_eq_false hk]
   exact sfindNow_of k es W (i + 1) h3
theorem smfind_some {k : ByteArray} : ∀ {W : List (ByteArray × Value)} {i j : Nat} {v : Value},smfind k W i = some (j,v) → i ≤ j ∧ W[j - i]? = some (k,v)
 | [],_,_,_,h => by cases h
 | p :: W,i,j,v,h => by
  unfold smfind at h
  split at h
  ·rename_i hk
   simp only [Option.some.injEq,Prod.mk.injEq] at h
   obtain ⟨rfl,rfl⟩ := h
   refine ⟨Nat.le_refl _,?_⟩
   rw [Nat.sub_self,List.getElem?_cons_zero,hk]
  ·obtain ⟨h1,h2⟩ := smfind_some h
   refine ⟨by omega,?_⟩
   rw [show j - i = (j - (i + 1)) + 1 by omega,List.getElem?_cons_succ]; exact h2
theorem smfind_set {k : ByteArray} (u : Value) : ∀ {W : List (ByteArray × Value)} {i j : Nat} {v : Value},smfind k W i = some (j,v) → smset W k u = W.set (j - i) (k,u)
 | [],_,_,_,h => by cases h
 | p :: W,i,j,v,h => by
  unfold smfind at h
  unfold smset
  split at h
  ·rename_i hk
   simp only [Option.some.injEq,Prod.mk.injEq] at h
   obtain ⟨rfl,rfl⟩ := h
   rw [if_pos hk,Nat.sub_self,List.set_cons_zero]
  ·rename_i hk
   have h1 := (smfind_some h).1
   rw [if_neg hk,smfind_set u h,show j - i = (j - (i + 1)) + 1 by omega,List.set_cons_succ]
theorem smfind_none {k : ByteArray} (u : Value) : ∀ {W : List (ByteArray × Value)} {i : Nat},smfind k W i = none → smset W k u = W ++ [(k,u)] ∧ ∀ p ∈ W,p.1 ≠ k
 | [],_,_ => ⟨rfl,fun p h => by cases h⟩
 | p :: W,i,h => by
  unfold smfind at h
  unfold smset
  split at h
  ·cases h
  ·rename_i hk
   obtain ⟨h1,h2⟩ := smfind_none u h
   rw [if_neg hk,h1]
   refine ⟨rfl,fun q hq => ?_⟩
   rcases List.mem_cons.1 hq with rfl | hq
   ·exact fun e => hk e.symm
   ·exact h2 q hq
section
variable {P : Program} {w : World}
theorem str_key {k : ByteArray} {kt : TypeId} (hd : P.underlying kt = some .string) (e : Bool) : (Instr.checkKey e 10000 kt (.string k)).run P w = .ok () w := by
 show (Instr.checkKey e (9999 + 1) kt (.string k)).run P w = _
 unfold Instr.checkKey
 simp only [Sem.run_bind,run_underlying' hd,Result.andThen_ok]; rfl
theorem str_find {k : ByteArray} {kt : TypeId} (hd : P.underlying kt = some .string) {es : Array MapEntry} {ck : Nat} {W : List (ByteArray × Value)} (h : SMapOk es ck W) : (Instr.findKey kt (.string k) es.toList).run P w = .ok (smfind k W 0) w := by
 unfold Instr.findKey
 simp only [Sem.run_bind,run_underlying' hd,Result.andThen_ok,sfindNow_of k _ _ 0 h.rel]; rfl
theorem srun_lookup {t kt e : TypeId} {k : ByteArray} {r : Nat} {es : Array MapEntry} {ck : Nat} {W : List (ByteArray × Value)} {z : Value} (hm : P.underlying t = some (.map kt e)) (hd : P.underlying kt = some .string) (hz0 : (P.info? e).bind (·.zero) = some z) (hb : w.heap[r]? = some (.map es ck)) (h : SMapOk es ck W) (ok : Bool) :
  (Instr.lookup t (.map (some r)) (.string k) ok).run P w = .ok (if ok then .tuple #[(smget W k).getD z,.bool (smget W k).isSome] else (smget W k).getD z) w := by
 obtain ⟨inf,hi,hz⟩ := Option.bind_eq_some_iff.1 hz0
 have hzv : (zeroValue e).run P w = .ok z w := by simp [zeroValue,typeInfo,program,Sem.run,hi,hz]
 unfold Instr.lookup
 simp only [Sem.run_bind,run_underlying' hm,Result.andThen_ok,Go.MapKept.run_getObj_map hb,Sem.run_pure,str_key hd,str_find hd h]
 rw [← smfind_get k W 0]
 cases smfind k W 0 with
 | none => simp only [Sem.run_bind,hzv,Result.andThen_ok,Sem.run_pure]; cases ok <;> rfl
 | some p => cases ok <;> rfl
theorem srun_mapUpdate {t kt e : TypeId} {k : ByteArray} {v : Value} {r : Nat} {es : Array MapEntry} {ck : Nat} {W : List (ByteArray × Value)} (hm : P.underlying t = some (.map kt e)) (hd : P.underlying kt = some .string) (hb : w.heap[r]? = some (.map es ck)) (h : SMapOk es ck W) :
  ∃ es' ck',SMapOk es' ck' (smset W k v) ∧ (Instr.mapUpdate t (.map (some r)) (.string k) v).run P w = .ok () { w with heap := w.heap.setIfInBounds r (.map es' ck') } := by
 cases hf : smfind k W 0 with
 | none =>
  obtain ⟨h1,h2⟩ := smfind_none v hf
  refine ⟨es.push { key := .string k,val := v,born := ck },ck + 1,⟨?_,stamped_push h.st ?_⟩,?_⟩
  ·rw [Array.toList_push,List.map_append,h.rel,h1,List.map_append]; rfl
  ·intro x hx hk
   have hx2 : (x.key,x.val) ∈ W.map fun p => (Value.string p.1,p.2) := by rw [← h.rel]; exact List.mem_map.2 ⟨x,hx,rfl⟩
   obtain ⟨p,hp,he⟩ := List.mem_map.1 hx2
   simp only [Prod.mk.injEq] at he
   rw [hk] at he
   have := he.1
   simp only [Value.string.injEq] at this
   exact h2 p hp this
  ·simp only [Instr.mapUpdate,Sem.run_bind,run_underlying' hm,Result.andThen_ok,Go.MapKept.run_getObj_map hb,str_key hd,str_find hd h,hf,Go.MapKept.run_setObj_map _ hb]
 | some jp =>
  obtain ⟨j,u⟩ := jp
  obtain ⟨_,hW⟩ := smfind_some hf
  rw [Nat.sub_zero] at hW
  have hlen : es.toList.length = W.length := by have := congrArg List.length h.rel; simpa using this
  have hjW : j < W.length := (List.getElem?_eq_some_iff.1 hW).1
  have hj : j < es.size := by rw [← Array.length_toList]; omega
  have hej : (es[j].key,es[j].val) = (Value.string k,u) := by
   have h3 : (es.toList.map (fun e => (e.key,e.val)))[j]? = (W.map fun p => (Value.string p.1,p.2))[j]? := by rw [h.rel]
   rw [List.getElem?_map,List.getElem?_map,hW,Array.getElem?_toList,Array.getElem?_eq_getElem hj] at h3
   simpa using h3
  simp only [Prod.mk.injEq] at hej
  have hkt : (Instr.keyThatStays (((es[j]?).map (·.key)).getD (.string k)) (.string k)).run P w = .ok (.string k) w := by
   rw [Array.getElem?_eq_getElem hj,Option.map_some,Option.getD_some,hej.1]
   exact run_keyThatStays (d := .string) (by first | trivial | rfl | exact ⟨_,rfl⟩)
  refine ⟨es.modify j (fun e => { e with key := .string k,val := v }),ck,⟨?_,stamped_modify h.st j _ (fun _ _ => rfl) (fun e _ hge => by rw [Array.getElem?_eq_getElem hj] at hge; cases hge; exact hej.1.symm)⟩,?_⟩
  ·rw [smfind_set v hf,Nat.sub_zero,List.map_set,← h.rel]
   apply List.ext_getElem?
   intro q
   simp only [List.getElem?_map,Array.getElem?_toList,Array.getElem?_modify,List.getElem?_set,List.length_map,Array.length_toList]
   by_cases hq : j = q
   ·subst hq; simp [hj]
   ·simp [hq]
  ·simp only [Instr.mapUpdate,Sem.run_bind,run_underlying' hm,Result.andThen_ok,Go.MapKept.run_getObj_map hb,str_key hd,str_find hd h,hf,hkt,Go.MapKept.run_setObj_map _ hb]
end
section
variable {C : Cx} {R O : List (Nat × Obj)} {Γ : Env} {op : Oper}
theorem Eff.sGet {t kt e : TypeId} {x y : Operand} {ok : Bool} (ho : op.op = .lookup t x y ok) (hm : C.P.underlying t = some (.map kt e)) (hd : C.P.underlying kt = some .string) {z : Value} (hz0 : (C.P.info? e).bind (·.zero) = some z) {r : Nat} {k : ByteArray} (hx : opd Γ [] x = some (.map (some r))) (hy : opd Γ [] y = some (.string k))
  {es : Array MapEntry} {ck : Nat} {W : List (ByteArray × Value)} (h : SMapOk es ck W) (hb : ∀ w,HP C.w0 C.M R O w → w.heap[r]? = some (.map es ck)) :
  Eff C R O Γ op Unit (fun _ => if ok then .tuple #[(smget W k).getD z,.bool (smget W k).isSome] else (smget W k).getD z) (fun _ => O) (fun _ => True) :=
 Eff.of_run fun a w hs hp => ⟨(),w,trivial,by
  simp only [execOp,ho]
  refine run_v ?_
  rw [opd_ok hs (holds_nil _) hx,opd_ok hs (holds_nil _) hy]
  exact srun_lookup hm hd hz0 (hb w hp) h ok,hp⟩
theorem Eff.sSet {t kt e : TypeId} {x y v : Operand} (ho : op.op = .mapUpdate t x y v) (hm : C.P.underlying t = some (.map kt e)) (hd : C.P.underlying kt = some .string) {r : Nat} {k : ByteArray} {u : Value} (hx : opd Γ [] x = some (.map (some r))) (hy : opd Γ [] y = some (.string k)) (hv : opd Γ [] v = some u)
  {es : Array MapEntry} {ck : Nat} {W : List (ByteArray × Value)} (h : SMapOk es ck W) (i : Nat) (hO : O[i]? = some (r,.map es ck)) :
  Eff C R O Γ op (Array MapEntry × Nat) (fun _ => undef) (fun x => O.set i (r,.map x.1 x.2)) (fun x => SMapOk x.1 x.2 (smset W k u)) := by
 refine Eff.of_skip fun a w hs hp => ?_
 obtain ⟨es',ck',h1,h2⟩ := srun_mapUpdate (v := u) (k := k) hm hd (hp.own _ (List.mem_of_getElem? hO)) h
 refine ⟨(es',ck'),_,h1,?_,hp.set i (.map es' ck') hO (w' := { w with heap := w.heap.setIfInBounds r (.map es' ck') }) rfl rfl rfl rfl⟩
 have e1 := opd_ok hs (holds_nil _) hx
 have e2 := opd_ok hs (holds_nil _) hy
 have e3 := opd_ok hs (holds_nil _) hv
 simp [execOp,ho,e1,e2,e3,h2]
theorem SMapOk.empty (ck : Nat) : SMapOk #[] ck [] := ⟨rfl,stamped_empty ck⟩
end
def smdel (W : List (ByteArray × Value)) (k : ByteArray) : List (ByteArray × Value) := match W with
 | [] => []
 | p :: W => if k = p.1 then W else p :: smdel W k
theorem smfind_del {k : ByteArray} : ∀ {W : List (ByteArray × Value)} {i j : Nat} {v : Value},smfind k W i = some (j,v) → smdel W k = W.eraseIdx (j - i)
 | [],_,_,_,h => by cases h
 | p :: W,i,j,v,h => by
  unfold smfind at h
  unfold smdel
  split at h
  ·rename_i hk
   simp only [Option.some.injEq,Prod.mk.injEq] at h
   obtain ⟨rfl,rfl⟩ := h
   rw [if_pos hk,Nat.sub_self]; rfl
  ·rename_i hk
   have h1 := (smfind_some h).1
   rw [if_neg hk,smfind_del h,show j - i = (j - (i + 1)) + 1 by omega]; rfl
theorem smdel_none {k : ByteArray} : ∀ {W : List (ByteArray × Value)} {i : Nat},smfind k W i = none → smdel W k = W
 | [],_,_ => rfl
 | p :: W,i,h => by
  unfold smfind at h
  unfold smdel
  split at h
  ·cases h
  ·rename_i hk
   rw [if_neg hk,smdel_none h]
theorem smdel_mem {k : ByteArray} : ∀ {W : List (ByteArray × Value)},∀ p ∈ smdel W k,p ∈ W
 | [],p,h => by cases h
 | q :: W,p,h => by
  unfold smdel at h
  split at h
  ·exact List.mem_cons_of_mem _ h
  ·rcases List.mem_cons.1 h with rfl | h
   ·exact mH
   ·exact List.mem_cons_of_mem _ (smdel_mem p h)
theorem smget_no {k : ByteArray} : ∀ {W : List (ByteArray × Value)},k ∉ W.map (·.1) → smget W k = none
 | [],_ => rfl
 | p :: W,h => by
  unfold smget
  rw [if_neg (fun e => h (by rw [e]; exact mH)),smget_no (fun hm => h (List.mem_cons_of_mem _ hm))]
theorem smget_del {k j : ByteArray} : ∀ {W : List (ByteArray × Value)},(W.map (·.1)).Nodup → smget (smdel W k) j = if j = k then none else smget W j
 | [],_ => by simp [smdel,smget]
 | p :: W,h => by
  rw [List.map_cons,List.nodup_cons] at h
  unfold smdel
  by_cases hk : k = p.1
  ·rw [if_pos hk]
   by_cases hj : j = k
   ·rw [if_pos hj,hj]
    exact smget_no (by rw [hk]; exact h.1)
   ·rw [if_neg hj]
    show _ = (if j = p.1 then some p.2 else smget W j)
    rw [if_neg (fun e => hj (by rw [e,hk]))]
  ·rw [if_neg hk]
   show (if j = p.1 then some p.2 else smget (smdel W k) j) = if j = k then none else if j = p.1 then some p.2 else smget W j
   rw [smget_del h.2]
   by_cases hj : j = k
   ·rw [if_pos hj,if_pos hj,if_neg (fun e => hk (by rw [← hj,e]))]
   ·rw [if_neg hj,if_neg hj]
theorem smdel_nodup {k : ByteArray} : ∀ {W : List (ByteArray × Value)},(W.map (·.1)).Nodup → ((smdel W k).map (·.1)).Nodup
 | [],h => h
 | p :: W,h => by
  rw [List.map_cons,List.nodup_cons] at h
  unfold smdel
  split
  ·exact h.2
  ·rw [List.map_cons,List.nodup_cons]
   refine ⟨fun hm => h.1 ?_,smdel_nodup h.2⟩
   obtain ⟨q,hq,e⟩ := List.mem_map.1 hm
   exact List.mem_map.2 ⟨q,smdel_mem q hq,e⟩
theorem smset_nodup {k : ByteArray} {v : Value} : ∀ {W : List (ByteArray × Value)},(W.map (·.1)).Nodup → ((smset W k v).map (·.1)).Nodup
 | [],_ => by simp [smset]
 | p :: W,h => by
  rw [List.map_cons,List.nodup_cons] at h
  unfold smset
  split
  ·rename_i hk
   rw [List.map_cons,List.nodup_cons]
   exact ⟨by show k ∉ _; rw [hk]; exact h.1,h.2⟩
  ·rename_i hk
   rw [List.map_cons,List.nodup_cons]
   refine ⟨fun hm => ?_,smset_nodup h.2⟩
   obtain ⟨q,hq,e⟩ := List.mem_map.1 hm
   rcases smset_keys q hq with e2 | h2
   ·exact hk (by rw [← e2,e])
   ·exact h.1 (List.mem_map.2 ⟨q,h2,e⟩)
section
variable {P : Program} {w : World}
theorem srun_delete {t kt e : TypeId} {k : ByteArray} {r : Nat} {es : Array MapEntry} {ck : Nat} {W : List (ByteArray × Value)} {ty : TypeId} {tys : Array TypeId} (ht : tys[0]? = some t) (hm : P.underlying t = some (.map kt e)) (hd : P.underlying kt = some .string) (hb : w.heap[r]? = some (.map es ck)) (h : SMapOk es ck W) :
  ∃ es',SMapOk es' ck (smdel W k) ∧ (Builtin.delete_ tys ty #[.map (some r),.string k]).run P w = .ok (.tuple #[]) { w with heap := w.heap.setIfInBounds r (.map es' ck) } := by
 cases hf : smfind k W 0 with
 | none =>
  refine ⟨es,by rw [smdel_none hf]; exact h,?_⟩
  simp [Builtin.delete_,ht,Sem.run_bind,run_underlying' hm,Result.andThen_ok,Go.MapKept.run_getObj_map hb,str_key hd,str_find hd h,hf,Go.MapKept.run_setObj_map _ hb]
 | some jp =>
  obtain ⟨j,u⟩ := jp
  refine ⟨es.eraseIdxIfInBounds j,⟨?_,stamped_erase h.st j⟩,?_⟩
  ·have h1 := smfind_del hf
   rw [Nat.sub_zero] at h1
   rw [h1,era_map,← h.rel,← era_map,Array.toList_eraseIdxIfInBounds]
  ·simp [Builtin.delete_,ht,Sem.run_bind,run_underlying' hm,Result.andThen_ok,Go.MapKept.run_getObj_map hb,str_key hd,str_find hd h,hf,Go.MapKept.run_setObj_map _ hb]
end
section
variable {C : Cx} {R O : List (Nat × Obj)} {Γ : Env} {op : Oper}
theorem Eff.sDel {t kt e : TypeId} {x y : Operand} {tys : Array TypeId} (ho : op.op = .call ⟨.builtin .delete,#[x,y],tys⟩) (ht : tys[0]? = some t) (hm : C.P.underlying t = some (.map kt e)) (hd : C.P.underlying kt = some .string) {r : Nat} {k : ByteArray} (hx : opd Γ [] x = some (.map (some r))) (hy : opd Γ [] y = some (.string k))
  {es : Array MapEntry} {ck : Nat} {W : List (ByteArray × Value)} (h : SMapOk es ck W) (i : Nat) (hO : O[i]? = some (r,.map es ck)) :
  Eff C R O Γ op (Array MapEntry) (fun _ => .tuple #[]) (fun x => O.set i (r,.map x ck)) (fun x => SMapOk x ck (smdel W k)) := by
 refine Eff.of_run fun a w hs hp => ?_
 obtain ⟨es',h1,h2⟩ := srun_delete (ty := op.type) (k := k) ht hm hd (hp.own _ (List.mem_of_getElem? hO)) h
 refine ⟨es',_,h1,?_,hp.set i (.map es' ck) hO (w' := { w with heap := w.heap.setIfInBounds r (.map es' ck) }) rfl rfl rfl rfl⟩
 simp [execOp,ho,resolve,invoke,builtin,opd_ok hs (holds_nil _) hx,opd_ok hs (holds_nil _) hy,h2]
end
def mdel (W : List (Int × Value)) (k : Int) : List (Int × Value) := match W with
 | [] => []
 | p :: W => if k = p.1 then W else p :: mdel W k
theorem mfind_del {k : Int} : ∀ {W : List (Int × Value)} {i j : Nat} {v : Value},mfind k W i = some (j,v) → mdel W k = W.eraseIdx (j - i)
 | [],_,_,_,h => by cases h
 | p :: W,i,j,v,h => by
  unfold mfind at h
  unfold mdel
  split at h
  ·rename_i hk
   simp only [Option.some.injEq,Prod.mk.injEq] at h
   obtain ⟨rfl,rfl⟩ := h
   rw [if_pos hk,Nat.sub_self]; rfl
  ·rename_i hk
   have h1 := (mfind_some h).1
   rw [if_neg hk,mfind_del h,show j - i = (j - (i + 1)) + 1 by omega]; rfl
theorem mdel_none {k : Int} : ∀ {W : List (Int × Value)} {i : Nat},mfind k W i = none → mdel W k = W
 | [],_,_ => rfl
 | p :: W,i,h => by
  unfold mfind at h
  unfold mdel
  split at h
  ·cases h
  ·rename_i hk
   rw [if_neg hk,mdel_none h]
section
variable {P : Program} {w : World}
theorem run_delete {t kt e : TypeId} {q : IntKind} {k : Int} {r : Nat} {es : Array MapEntry} {ck : Nat} {W : List (Int × Value)} {ty : TypeId} {tys : Array TypeId} (ht : tys[0]? = some t) (hm : P.underlying t = some (.map kt e)) (hd : P.underlying kt = some (.int q)) (hb : w.heap[r]? = some (.map es ck)) (h : MapOk es ck W) :
  ∃ es',MapOk es' ck (mdel W k) ∧ (Builtin.delete_ tys ty #[.map (some r),.int .i64 k]).run P w = .ok (.tuple #[]) { w with heap := w.heap.setIfInBounds r (.map es' ck) } := by
 cases hf : mfind k W 0 with
 | none =>
  refine ⟨es,by rw [mdel_none hf]; exact h,?_⟩
  simp [Builtin.delete_,ht,Sem.run_bind,run_underlying' hm,Result.andThen_ok,Go.MapKept.run_getObj_map hb,int_key hd,int_find hd h,hf,Go.MapKept.run_setObj_map _ hb]
 | some jp =>
  obtain ⟨j,u⟩ := jp
  refine ⟨es.eraseIdxIfInBounds j,⟨?_,stamped_erase h.st j⟩,?_⟩
  ·have h1 := mfind_del hf
   rw [Nat.sub_zero] at h1
   rw [h1,era_map,← h.rel,← era_map,Array.toList_eraseIdxIfInBounds]
  ·simp [Builtin.delete_,ht,Sem.run_bind,run_underlying' hm,Result.andThen_ok,Go.MapKept.run_getObj_map hb,int_key hd,int_find hd h,hf,Go.MapKept.run_setObj_map _ hb]
end
section
variable {C : Cx} {R O : List (Nat × Obj)} {Γ : Env} {op : Oper}
theorem Eff.mDel {t kt e : TypeId} {q : IntKind} {x y : Operand} {tys : Array TypeId} (ho : op.op = .call ⟨.builtin .delete,#[x,y],tys⟩) (ht : tys[0]? = some t) (hm : C.P.underlying t = some (.map kt e)) (hd : C.P.underlying kt = some (.int q)) {r : Nat} {k : Int} (hx : opd Γ [] x = some (.map (some r))) (hy : opd Γ [] y = some (.int .i64 k))
  {es : Array MapEntry} {ck : Nat} {W : List (Int × Value)} (h : MapOk es ck W) (i : Nat) (hO : O[i]? = some (r,.map es ck)) :
  Eff C R O Γ op (Array MapEntry) (fun _ => .tuple #[]) (fun x => O.set i (r,.map x ck)) (fun x => MapOk x ck (mdel W k)) := by
 refine Eff.of_run fun a w hs hp => ?_
 obtain ⟨es',h1,h2⟩ := run_delete (ty := op.type) (k := k) ht hm hd (hp.own _ (List.mem_of_getElem? hO)) h
 refine ⟨es',_,h1,?_,hp.set i (.map es' ck) hO (w' := { w with heap := w.heap.setIfInBounds r (.map es' ck) }) rfl rfl rfl rfl⟩
 simp [execOp,ho,resolve,invoke,builtin,opd_ok hs (holds_nil _) hx,opd_ok hs (holds_nil _) hy,h2]
end
section
variable {C : Cx} {R O : List (Nat × Obj)} {Γ : Env}
theorem run_mclone {P : Program} {w : World} {t : TypeId} {r : Nat} {es : Array MapEntry} {ck : Nat} (hb : w.heap[r]? = some (.map es ck)) : (Extern.MapsClone.clone #[.iface t (.map (some r))]).run P w = .ok (.iface t (.map (some w.heap.size))) (w.alloc (.map es ck)) := by
 have e : Extern.MapsClone.clone #[.iface t (.map (some r))] = (getObj r >>= fun o => match o with
   | .map entries clock => (newObj (.map entries clock) >>= fun n => pure (.iface t (.map (some n))))
   | _ => stuck "maps.clone: a map expected") := rfl
 rw [e]
 simp [Go.MapKept.run_getObj_map hb,Result.andThen,newObj,Sem.run]
theorem Eff.mapClone {o : Oper} {f : FuncId} {fn : Func} {xs : List Operand} {tys : Array TypeId} {vs : List Value} {t : TypeId} {r : Nat} {es : Array MapEntry} {ck : Nat} (ho : o.op = .call ⟨.value (.func f),xs.toArray,tys⟩) (hf : C.P.funcs[f]? = some fn) (hnm : (fn.name == "runtime.NumGoroutine") = false) (hb : fn.body.isNone = true) (h1 : (Extern.findNext fn).isNone = true) (h2 : Extern.find fn = some Extern.MapsClone.clone) (hx : opds Γ xs = some vs) (hv : vs = [.iface t (.map (some r))])
  (h : ∀ w,HP C.w0 C.M R O w → w.heap[r]? = some (.map es ck)) : Eff C R O Γ o Nat (fun b => .iface t (.map (some b))) (fun b => (b,.map es ck) :: O) (fun b => C.w0.heap.size ≤ b ∧ b ∉ O.map (·.1)) :=
 Eff.of_run fun a w hs hp => ⟨w.heap.size,w.alloc (.map es ck),⟨hp.ext.size,hp.fresh (Nat.le_refl _)⟩,by
  subst hv
  have hargs := opds_ok hs hx
  have hc := run_extern hf hnm hb h1 h2 (run_mclone (t := t) (P := C.P) (h w hp))
  simp [execOp,ho,resolve,Deferred.ofValue,Act.eval,invoke,hargs,hc],hp.alloc _⟩
theorem Eff.mapIsNil {op : Oper} {t t2 k e : TypeId} {x y : Operand} {r : Nat} (ho : op.op = .binOp .eql t x y t2) (hu : C.P.underlying t = some (.map k e)) (hx : opd Γ [] x = some (.map (some r))) (hy : opd Γ [] y = some (.map none)) : Eff C R O Γ op Unit (fun _ => .bool false) (fun _ => O) (fun _ => True) :=
 Eff.of_run fun a w hs hp => ⟨(),w,trivial,by
  have hq : (Op.equal t (.map (some r)) (.map none)).run C.P w = .ok false w := by
   show (Op.equalIn (9999 + 1) t _ _).run C.P w = _
   rw [Op.equalIn]
   simp only [Sem.run_bind,run_underlying' hu,Result.andThen_ok,Sem.run_pure,Option.isNone]
  have hg : eqGuard .eql t x y (.map (some r)) (.map none) = pure () := rfl
  simp only [execOp,ho]
  refine run_v ?_
  rw [opd_ok hs (holds_nil _) hx,opd_ok hs (holds_nil _) hy]
  simp only [hg,Sem.run_bind,Sem.run_pure,Result.andThen_ok,binOp,hq],hp⟩
theorem Eff.assertM {op : Oper} {t kt e xt : TypeId} {x : Operand} {v : Value} (ho : op.op = .typeAssert x xt t false) (hu : C.P.underlying t = some (.map kt e)) (hx : opd Γ [] x = some (.iface t v)) : Eff C R O Γ op Unit (fun _ => v) (fun _ => O) (fun _ => True) :=
 Eff.of_run fun a w hs hp => ⟨(),w,trivial,by
  simp only [execOp,ho]
  refine run_v ?_
  rw [opd_ok hs (holds_nil _) hx]
  unfold Instr.typeAssert
  simp [Sem.run_bind,run_underlying' hu,Result.andThen_ok],hp⟩
end
section
variable {C : Cx} {R Os O : List (Nat × Obj)} {Γ : Env} {ops : Array Oper} {fuel : Nat} {l : Array Bool} {ks : List KI}
theorem CfgA.join {ι : Type} (O2 : ι → List (Nat × Obj)) (Γ2 : ι → Env) (h1 : ∀ i,Cfg C R (O2 i) (Γ2 i) ks) (h2 : (∀ i,Cfg C R (O2 i) (Γ2 i) ks) → CfgA C R Os O Γ ops fuel l ks) : CfgA C R Os O Γ ops fuel l ks := h2 h1
end
end K
end Go.Proofs.YtfgdepggdiibdaaGreatDoor
namespace Go.Proofs.YtfgdepggdiibdaaGreatDoor
namespace K
section
variable {C : Cx} {R O : List (Nat × Obj)} {Γ : Env} {o : Oper}
theorem Eff.reO {ι : Type} {V : ι → Value} {A A2 : ι → List (Nat × Obj)} {F : ι → Prop} (h : Eff C R O Γ o ι V A F) (e : ∀ x,A x = A2 x) : Eff C R O Γ o ι V A2 F := by
 have : A = A2 := funext e
 subst this
 exact h
end
end K
end Go.Proofs.YtfgdepggdiibdaaGreatDoor
namespace Go.Proofs.YtfgdepggdiibdaaGreatDoor
open K
set_option linter.unusedVariables false
structure Pl where
 nm : ByteArray
 at_ : Nat
 sz : Nat
def plz : Pl := ⟨ByteArray.empty,0,0⟩
def plc (p : Pl) : List Value := [.string p.nm,.int .i64 (p.at_ : Int),.int .i64 (p.sz : Int)]
theorem plc_len (p : Pl) : (plc p).length = 3 := rfl
theorem all_plc (p : Pl) : ∀ v ∈ plc p,K.one v = true := by
 intro v h
 simp only [plc,List.mem_cons,List.not_mem_nil,or_false] at h
 rcases h with rfl | rfl | rfl <;> rfl
def secs (n : Nat) : Nat := (n + 511) / 512
structure PlOk (p : Pl) : Prop where
 nm : p.nm.size ≤ 72
 at_ : p.at_ < 4294967296
 sz : p.sz ≤ 32768
theorem PlOk.z : PlOk plz := ⟨Nat.zero_le _,by decide,Nat.zero_le _⟩
def runF (p : Pl) : List (Int × Int) := if p.sz = 0 then [] else [((p.at_ : Int),(secs p.sz : Int))]
set_option maxRecDepth 100000 in
theorem fRun0 (p : Pl) (w : World) (h0 : p.sz = 0) :
  Calls Tryz.prog 44 #[.agg (plc p).toArray] w fun e w' => e = .returned (.slice none 0 0) ∧ Ext [] w w' := by
 refine enter (vs := [.agg (plc p).toArray]) [] [] [] Tryz.func44 rfl kr (HP.start w) ?_
 refine Cfg.begL rfl ?_
 refine Le (Eff.box (v := .agg (plc p).toArray) rfl kr) ?_
 rintro pb ⟨hpb,npb⟩
 refine Lp 1 [] (some [1]) n0 trivial ?_
 refine CfgL.done rfl ?_
 refine Rg [1,5] [dZ,(dS (.int .i64 (p.sz : Int)))] (fun S => [(cE S pb 2 (.int .i64 (p.sz : Int)))]) ⟨(oC 0 rfl rfl),trivial⟩ ?_
 refine Cfg.condT rfl (b := ((p.sz : Int) == (0 : Int))) kr (by rw [h0]; rfl) ?_
 refine Rg [2] [] n0 trivial ?_
 refine Cfg.ret rfl (rs := [.tmp 2]) rfl [.slice none 0 0] ⟨kr,trivial⟩ (fun w1 hp => ?_)
 exact ⟨rfl,hp.ext⟩
set_option maxRecDepth 100000 in
theorem fRun1 (p : Pl) (w : World) (h0 : 0 < p.sz) (h1 : PlOk p) :
  Calls Tryz.prog 44 #[.agg (plc p).toArray] w fun e w' => ∃ rb : Nat,True ∧ e = .returned (.slice (some ⟨rb,0,none⟩) 1 1) ∧ w.heap.size ≤ rb ∧ w'.heap[rb]? = some (.cells #[.int .i64 (p.at_ : Int),.int .i64 (secs p.sz : Int)] 117 (0,0)) ∧ Ext [] w w' := by
 have h2 := h1.at_
 have h3 := h1.sz
 refine enter (vs := [.agg (plc p).toArray]) [] [] [] Tryz.func44 rfl kr (HP.start w) ?_
 refine Cfg.begL rfl ?_
 refine Le (Eff.box (v := .agg (plc p).toArray) rfl kr) ?_
 rintro pb ⟨hpb,npb⟩
 refine Lp 1 [] (some [1]) n0 trivial ?_
 refine CfgL.done rfl ?_
 refine Rg [1,5] [dZ,(dS (.int .i64 (p.sz : Int)))] (fun S => [(cE S pb 2 (.int .i64 (p.sz : Int)))]) ⟨(oC 0 rfl rfl),trivial⟩ ?_
 refine Cfg.condF rfl (b := ((p.sz : Int) == (0 : Int))) kr (beq_eq_false_iff_ne.2 om) ?_
 refine Cfg.begL rfl ?_
 refine Lp 8 [dZ,(dS (.int .i64 (p.at_ : Int))),dZ,(dS (.int .i64 (p.sz : Int))),dZ,dZ,dZ,(dS (.agg #[.int .i64 (p.at_ : Int),.int .i64 (secs p.sz : Int)]))] (some [13]) (fun S => [(cE S pb 1 (.int .i64 (p.at_ : Int))),(cE S pb 2 (.int .i64 (p.sz : Int))),(i6 ((p.sz : Int) + 512)),(i6 (((p.sz : Int) + 512) - 1)),(0 ≤ (((p.sz : Int) + 512) - 1) ∧ (((p.sz : Int) + 512) - 1) ≤ 9223372036854775807 ∧ 0 < (512 : Int)),(∀ w1,S w1 → (Instr.build 117 #[(0,.int .i64 (p.at_ : Int)),(1,.int .i64 ((((p.sz : Int) + 512) - 1) / 512))]).run Tryz.prog w1 = .ok (.agg #[.int .i64 (p.at_ : Int),.int .i64 (secs p.sz : Int)]) w1)]) ⟨(oC 0 rfl rfl),(oC 0 rfl rfl),om,om,om,(fun w1 _ => by rw [show ((p.sz : Int) + 512 - 1) / 512 = (secs p.sz : Int) by unfold secs; omega]; kernel_rfl),trivial⟩ ?_
 refine Le (Eff.buildAgg (vs := #[.int .i64 (p.at_ : Int),.int .i64 (secs p.sz : Int)]) (n := 2) rfl kr Tryz.underlying114 kr (z := (.agg #[.int .i64 0,.int .i64 0])) kr (by rfl) (by decide) (by decide)) ?_
 rintro rb ⟨hrb,nrb⟩
 refine Lp 1 [] (some [2]) n0 trivial ?_
 refine CfgL.done rfl ?_
 refine Cfg.ret rfl (rs := [.tmp 2]) rfl [.slice (some ⟨rb,0,none⟩) 1 1] ⟨kr,trivial⟩ (fun w1 hp => ?_)
 exact ⟨rb,trivial,rfl,hrb,hp.own (rb,_) mH,hp.ext⟩
set_option maxRecDepth 100000 in
theorem mClone (r : Nat) (es : Array MapEntry) (ck : Nat) (w : World) (hR : Has w [(r,.map es ck)]) :
  Calls Tryz.prog 73 #[.map (some r)] w fun e w' => ∃ r2 : Nat,True ∧ e = .returned (.map (some r2)) ∧ w.heap.size ≤ r2 ∧ w'.heap[r2]? = some (.map es ck) ∧ Ext [] w w' := by
 refine enter (vs := [.map (some r)]) [] [(r,.map es ck)] [] Tryz.func73 rfl kr (HP.ofHas hR) ?_
 refine Rg [0] [] n0 trivial ?_
 refine Cfg.begL rfl ?_
 refine Lp 1 [] none n0 trivial ?_
 refine Le (Eff.mapIsNil (r := r) rfl Tryz.underlying81 kr kr) ?_
 rintro ⟨⟩ -
 refine CfgL.done rfl ?_
 refine Cg (Γ' := [(4,[],.bool false),(0,[],.map (some r))]) ?_
 refine Cfg.condF rfl (b := false) kr rfl ?_
 refine Cfg.begL rfl ?_
 refine Lp 2 [] (some [6]) n0 trivial ?_
 refine Le (Eff.mapClone (vs := [.iface 81 (.map (some r))]) (t := 81) (r := r) (es := es) (ck := ck) rfl Tryz.func116 (by rfl) (by rfl) (by rfl) (by rfl) kr rfl (fun w1 h => h.ro _ mH)) ?_
 rintro r2 ⟨hr2,nr2⟩
 refine Le (Eff.assertM (v := .map (some r2)) rfl Tryz.underlying81 kr) ?_
 rintro ⟨⟩ -
 refine Lp 1 [] (some [2]) n0 trivial ?_
 refine CfgL.done rfl ?_
 refine Cfg.ret rfl (rs := [.tmp 2]) rfl [.map (some r2)] ⟨kr,trivial⟩ (fun w1 hp => ?_)
 exact ⟨r2,trivial,rfl,hr2,hp.own (r2,_) mH,hp.ext⟩
set_option maxRecDepth 100000 in
theorem mKeysS (r : Nat) (w : World) :
  Calls Tryz.prog 43 #[.map (some r)] w fun e w' => ∃ b : Nat,True ∧ e = .returned (.func (.func 86) #[] #[.pointer (some ⟨b,0,none⟩)]) ∧ w.heap.size ≤ b ∧ w'.heap[b]? = some (.cells #[.map (some r)] 81 (0,0)) ∧ Ext [] w w' := by
 refine enter (vs := [.map (some r)]) [] [] [] Tryz.func43 rfl kr (HP.start w) ?_
 refine Cfg.begL rfl ?_
 refine Le (Eff.box (v := .map (some r)) rfl kr) ?_
 rintro kb ⟨hkb,nkb⟩
 refine Lp 1 [] (some [1]) n0 trivial ?_
 refine CfgL.done rfl ?_
 refine Rg [2] [] n0 trivial ?_
 refine Cfg.ret rfl (rs := [.tmp 2]) rfl [.func (.func 86) #[] #[pT kb]] ⟨kr,trivial⟩ (fun w1 hp => ?_)
 exact ⟨kb,trivial,rfl,hkb,hp.own (kb,_) mH,hp.ext⟩
set_option maxRecDepth 100000 in
theorem mKeysI (r : Nat) (w : World) :
  Calls Tryz.prog 79 #[.map (some r)] w fun e w' => ∃ b : Nat,True ∧ e = .returned (.func (.func 122) #[] #[.pointer (some ⟨b,0,none⟩)]) ∧ w.heap.size ≤ b ∧ w'.heap[b]? = some (.cells #[.map (some r)] 94 (0,0)) ∧ Ext [] w w' := by
 refine enter (vs := [.map (some r)]) [] [] [] Tryz.func79 rfl kr (HP.start w) ?_
 refine Cfg.begL rfl ?_
 refine Le (Eff.box (v := .map (some r)) rfl kr) ?_
 rintro kb ⟨hkb,nkb⟩
 refine Lp 1 [] (some [1]) n0 trivial ?_
 refine CfgL.done rfl ?_
 refine Rg [2] [] n0 trivial ?_
 refine Cfg.ret rfl (rs := [.tmp 2]) rfl [.func (.func 122) #[] #[pT kb]] ⟨kr,trivial⟩ (fun w1 hp => ?_)
 exact ⟨kb,trivial,rfl,hkb,hp.own (kb,_) mH,hp.ext⟩
end Go.Proofs.YtfgdepggdiibdaaGreatDoor
namespace Go.Proofs.YtfgdepggdiibdaaGreatDoor
open Go.Shelf Go.Proofs Go.RowKit
def Tryz.laysRepeat_ren : Go.Shelf.Ren := ⟨fun | 105 => 113 | 212 => 144 | 99 => 145 | 165 => 146 | 166 => 147 | 170 => 148 | 169 => 46 | 263 => 173 | 264 => 174 | 206 => 175 | 240 => 87 | 241 => 176 | 276 => 128 | 277 => 197 | n => n,fun | 9 => 9 | 3 => 3 | 4 => 4 | 20 => 20 | 0 => 0 | 46 => 189 | 109 => 229 | 5 => 5 | 72 => 113 | 76 => 120 | 51 => 157 | 146 => 257 | 53 => 141 | 148 => 259 | 70 => 110 | 37 => 111 | 75 => 119 | 127 => 178 | 164 => 218 | 80 => 122 | n => n,fun | n => n⟩
theorem Tryz.laysRepeat : Go.Proofs.Lays.n105 Tryz.prog Tryz.laysRepeat_ren := {
 mixed := by kernel_rfl,
 f99 := Tryz.func145.trans (congrArg some kr),
 f105 := Tryz.func113.trans (congrArg some kr),
 f165 := Tryz.func146.trans (congrArg some kr),
 f166 := Tryz.func147.trans (congrArg some kr),
 f169 := Tryz.func46.trans (congrArg some kr),
 f170 := Tryz.func148.trans (congrArg some kr),
 f206 := Tryz.func175.trans (congrArg some kr),
 f212 := Tryz.func144.trans (congrArg some kr),
 f240 := Tryz.func87.trans (congrArg some kr),
 f241 := Tryz.func176.trans (congrArg some kr),
 f263 := Tryz.func173.trans (congrArg some kr),
 f264 := Tryz.func174.trans (congrArg some kr),
 f276 := Tryz.func128.trans (congrArg some kr),
 f277 := Tryz.func197.trans (congrArg some kr),
 t0 := Tryz.underlying0,
 a0 := Tryz.isAgg0,
 z0 := Tryz.sizeOf0,
 v0 := Tryz.zeroValue0,
 t3 := Tryz.underlying3,
 a3 := Tryz.isAgg3,
 z3 := Tryz.sizeOf3,
 v3 := Tryz.zeroValue3,
 t4 := Tryz.underlying4,
 a4 := Tryz.isAgg4,
 z4 := Tryz.sizeOf4,
 v4 := Tryz.zeroValue4,
 t5 := Tryz.underlying5,
 a5 := Tryz.isAgg5,
 z5 := Tryz.sizeOf5,
 v5 := Tryz.zeroValue5,
 t9 := Tryz.underlying9,
 a9 := Tryz.isAgg9,
 z9 := Tryz.sizeOf9,
 v9 := Tryz.zeroValue9,
 t20 := Tryz.underlying20,
 a20 := Tryz.isAgg20,
 z20 := Tryz.sizeOf20,
 v20 := Tryz.zeroValue20,
 t37 := Tryz.underlying111,
 a37 := Tryz.isAgg111,
 z37 := Tryz.sizeOf111,
 v37 := Tryz.zeroValue111,
 t46 := Tryz.underlying189,
 a46 := Tryz.isAgg189,
 z46 := Tryz.sizeOf189,
 v46 := Tryz.zeroValue189,
 t51 := Tryz.underlying157,
 a51 := Tryz.isAgg157,
 z51 := Tryz.sizeOf157,
 v51 := Tryz.zeroValue157,
 t53 := Tryz.underlying141,
 a53 := Tryz.isAgg141,
 z53 := Tryz.sizeOf141,
 v53 := Tryz.zeroValue141,
 t70 := Tryz.underlying110,
 a70 := Tryz.isAgg110,
 z70 := Tryz.sizeOf110,
 v70 := Tryz.zeroValue110,
 t72 := Tryz.underlying113,
 a72 := Tryz.isAgg113,
 z72 := Tryz.sizeOf113,
 v72 := Tryz.zeroValue113,
 t75 := Tryz.underlying119,
 a75 := Tryz.isAgg119,
 z75 := Tryz.sizeOf119,
 v75 := Tryz.zeroValue119,
 t76 := Tryz.underlying120,
 a76 := Tryz.isAgg120,
 z76 := Tryz.sizeOf120,
 v76 := Tryz.zeroValue120,
 t109 := Tryz.underlying229,
 a109 := Tryz.isAgg229,
 z109 := Tryz.sizeOf229,
 v109 := Tryz.zeroValue229,
 t127 := Tryz.underlying178,
 a127 := Tryz.isAgg178,
 z127 := Tryz.sizeOf178,
 v127 := Tryz.zeroValue178,
 t146 := Tryz.underlying257,
 a146 := Tryz.isAgg257,
 z146 := Tryz.sizeOf257,
 v146 := Tryz.zeroValue257,
 t148 := Tryz.underlying259,
 a148 := Tryz.isAgg259,
 z148 := Tryz.sizeOf259,
 v148 := Tryz.zeroValue259,
 t164 := Tryz.underlying218,
 a164 := Tryz.isAgg218,
 z164 := Tryz.sizeOf218,
 v164 := Tryz.zeroValue218 }
theorem repExtra : Builder.Extra Tryz.prog Tryz.laysRepeat_ren := {
 sizeBuilder := by kernel_rfl,
 liesBuilder := by kernel_rfl,
 t5 := Tryz.laysRepeat.t5,
 a5 := Tryz.laysRepeat.a5,
 z5 := Tryz.laysRepeat.z5,
 v5 := Tryz.laysRepeat.v5,
 infoByte := by kernel_rfl,
 cellsByte := by kernel_rfl,
 sizeByte := by kernel_rfl,
 neB5 := by decide }
theorem fRepeat : Tryz.laysRepeat_ren.f 105 = 113 := by kernel_rfl
theorem repL (x : UInt8) : ∀ c,Lib.repeatL [x] c = List.replicate c x
 | 0 => rfl
 | c + 1 => by rw [show Lib.repeatL [x] (c + 1) = [x] ++ Lib.repeatL [x] c from rfl,repL x c]; rfl
theorem fRep (n : Nat) (w : World) (hn : n ≤ 1000000) : Calls Tryz.prog 113 #[.string ⟨#[0]⟩,.int .i64 (n : Int)] w fun e w' => e = .returned (.string (tx (List.replicate n 0))) ∧ K.Ext [] w w' := by
 have h := Any.strings_Repeat Tryz.laysRepeat repExtra ⟨#[0]⟩ n w om (by show 1 * n ≤ _; omega)
 rw [fRepeat] at h
 refine h.mono fun e w' ⟨he,hB⟩ => ⟨?_,hB.os,hB.tape,hB.output,hB.size,fun k hk _ => hB.block k hk⟩
 rw [he,show (⟨#[0]⟩ : ByteArray).data.toList = [0] from rfl,repL]; rfl
end Go.Proofs.YtfgdepggdiibdaaGreatDoor
namespace Go.Proofs.YtfgdepggdiibdaaGreatDoor
open K
set_option linter.unusedVariables false
theorem inS_dig (bk : Nat) (t : TypeId) (fr : Nat × Nat) (d : List UInt8) (h : d.length = 32) : InS [(bk,.cells (bv d) t fr)] (some ⟨bk,0,none⟩) ([d].length * 32) (fun j => .int .u8 ((([d].getD (j / 32) []).getD (j % 32) 0).toNat : Int)) := by
 intro _
 refine ⟨bk,0,_,t,fr,rfl,List.mem_singleton.2 rfl,fun j hj => ?_⟩
 simp only [List.length_cons,List.length_nil] at hj
 rw [Nat.zero_add,bv_get h om]
 simp only [show j / 32 = 0 by omega,show j % 32 = j by omega]
 rfl
theorem wDigest1 (l d : List UInt8) (bk : Nat) (t : TypeId) (w : World) (h : d.length = 32) (hr : l.length + 32 ≤ 140737488355328) (hh : Has w [(bk,.cells (bv d) t (0,0))]) :
  Calls Tryz.prog 135 #[.agg #[.string (tx l)],.slice (some ⟨bk,0,none⟩) 1 1] w fun e w' => e = .returned (.agg #[.string (tx (l ++ d))]) ∧ Ext [] w w' := by
 have := wDigest (tx l) (some ⟨bk,0,none⟩) 1 [d] [(bk,.cells (bv d) t (0,0))] w (inS_dig bk t (0,0) d h) hh (by simp [maxLen]) (by rw [flat_one,tx_size]; show _ + d.length ≤ _; omega) (fun i hi => by
  obtain rfl : i = 0 := by simpa using hi
  exact h)
 rw [flat_one] at this
 exact this
set_option maxRecDepth 100000 in
theorem InW.take {Rl : List (Nat × Obj)} {la : Option Addr} {l : List Wr} (h : InW Rl la l) (k : Nat) (hW : WW l) : InW Rl la (l.take k) := by
 have hk : (l.take k).length ≤ l.length := by rw [List.length_take]; omega
 have e : jv l = jv (l.take k) ++ jv (l.drop k) := by rw [← jv_app,List.take_append_drop]
 have hl := jv_len (hW.take k)
 have h' : InS Rl la (l.length * 513) (fun j => (jv l).getD j undef) := h
 show InS Rl la ((l.take k).length * 513) (fun j => (jv (l.take k)).getD j undef)
 generalize (l.take k).length = m at *
 generalize l.length = n at *
 intro hn
 have h0 : 0 < n * 513 := by omega
 obtain ⟨b,off,cs,te,fre,h1,h2,h3⟩ := h' h0
 refine ⟨b,off,cs,te,fre,h1,h2,fun j hj => ?_⟩
 have hj' : j < n * 513 := by omega
 refine (h3 j hj').trans (congrArg some ?_)
 show (jv l).getD j undef = (jv (l.take k)).getD j undef
 rw [e,List.getD_eq_getElem?_getD,List.getElem?_append_left om,List.getD_eq_getElem?_getD]
theorem K.Eff.minI2 {C : Cx} {R O : List (Nat × Obj)} {Γ : Env} {op : Oper} {x y : Operand} {tys : Array TypeId} {k : IntKind} {a b : Int} (c : Int) (hc : (if b < a then b else a) = c) (ho : op.op = .call ⟨.builtin .min,#[x,y],tys⟩) (hx : opd Γ [] x = some (.int k a)) (hy : opd Γ [] y = some (.int k b)) : Eff C R O Γ op Unit (fun _ => .int k c) (fun _ => O) (fun _ => True) := by
 subst hc; exact Eff.minI ho hx hy
theorem be_one (n : Nat) : be n 1 = [UInt8.ofNat n] := by simp [be]
theorem two_eq (a : Int) : two a = be ((a / 256) % 256).toNat 1 ++ be (a % 256).toNat 1 := by rw [be_one,be_one]; rfl
theorem wByteI (L : List UInt8) (x : Int) (w : World) (hx : 0 ≤ x ∧ x < 256) (hr : L.length + 1 ≤ 140737488355328) : Calls Tryz.prog 111 #[.agg #[.string (tx L)],.int .u8 x] w fun e w' => e = .returned (.agg #[.string (tx (L ++ be x.toNat 1))]) ∧ Ext [] w w' := by
 have h9 := wByte (tx L) x.toNat w om (by rw [tx_size]; exact hr)
 rw [Int.toNat_of_nonneg hx.1] at h9
 exact h9
theorem wr_str {P : Program} {w0 w : World} {M : List Nat} {R O : List (Nat × Obj)} (h : HP w0 M R O w) (i : Nat) {b : Nat} {r : Wr} {t : TypeId} (ho : O[i]? = some (b,.cells (jc r).toArray t (0,0))) (hr : r.2.length = 512) (c : Nat) : (Conv.bytesToString (.slice (some ⟨b,1,none⟩) 512 c)).run P w = .ok (.string (tx r.2)) w := by
 refine bytes_str hr fun j hj => ?_
 rw [cell_cells (h.own _ (List.mem_of_getElem? ho)),List.getElem?_toArray,show 1 + j = j + 1 by omega]
 show (bv r.2).toList[j]? = _
 rw [Array.getElem?_toList]; exact bv_get hr hj
def pts (n : Nat) (q : List Wr) (i : Nat) : List ByteArray := tx (hdS n q) :: (q.take i).map fun r => tx r.2
theorem pts_len {n : Nat} {q : List Wr} {i : Nat} (h : i ≤ q.length) : (pts n q i).length = i + 1 := by
 unfold pts; rw [List.length_cons,List.length_map,List.length_take]; omega
theorem pts_succ {n : Nat} {q : List Wr} {i : Nat} (h : i < q.length) : pts n q (i + 1) = pts n q i ++ [tx (q.getD i wz).2] := by
 unfold pts; rw [List.take_succ_eq_append_getElem h,List.map_append,List.cons_append]
 simp [List.getElem?_eq_getElem h]
theorem pts_vals {n : Nat} {q : List Wr} {i : Nat} (h : i < q.length) : (pts n q i).map Value.string ++ [Value.string (tx (q.getD i wz).2)] = (pts n q (i + 1)).map Value.string := by
 rw [pts_succ h,List.map_append]; rfl
theorem pts_cat (n : Nat) (q : List Wr) : scat (pts n q q.length) = hdS n q ++ flat blkW q := by
 unfold pts; rw [List.take_length]
 show (tx (hdS n q)).data.toList ++ List.flatMap (fun s : ByteArray => s.data.toList) (q.map fun r => tx r.2) = _
 rw [List.flatMap_map]; rfl
theorem str_one (s : ByteArray) : ∀ v ∈ [Value.string s],K.one v = true := fun v hv => by rw [List.mem_singleton.1 hv]; rfl
theorem hd_spl {L : List UInt8} {n : Nat} (hL : L.length ≤ 512) (hn : n = L.length) : spl (bv (List.replicate 512 0)) 0 (bv ((tx L).data.toList.take n)).toList = bv (L ++ List.replicate (512 - L.length) 0) := by
 subst hn
 have e0 : (tx L).data.toList.take L.length = L := by rw [tx_list]; exact List.take_length ..
 rw [e0]
 have e1 : List.replicate 512 (0 : UInt8) = List.replicate L.length 0 ++ List.replicate (512 - L.length) 0 := by rw [List.replicate_append_replicate]; congr 1; omega
 have e2 : ∀ a b : List UInt8,bv (a ++ b) = ([] ++ (bv a).toList ++ (bv b).toList).toArray := fun a b => by simp [bv]
 rw [e1,e2,e2]
 exact spl_list [] _ _ _ (by rw [Array.length_toList,Array.length_toList,bv_size,bv_size,List.length_replicate])
theorem hdS_flat (n : Nat) (q : List Wr) : mkL ++ eight n ++ four q.length ++ flat twoW (q.take q.length) = hdS n q := by rw [List.take_length]; rfl
set_option maxRecDepth 100000 in
set_option maxHeartbeats 4000000 in
theorem jHead (number : Nat) (la : Option Addr) (cap : Nat) (l : List Wr) (Rl : List (Nat × Obj)) {kt : Array Value} {t0 : TypeId} {fr0 : Nat × Nat} (w : World) (hnu : number < 18446744073709551616) (hI : InW Rl la l) (hW : WW l) (hn : l.length ≤ maxLen) (hcap : l.length ≤ cap) (hR : Has w ((1,.cells kt t0 fr0) :: Rl)) (hK : KT kt := by assumption) :
  Calls Tryz.prog 102 #[.int .u64 (number : Int),.slice la l.length cap] w fun e w' => e = .returned (.agg (bv (headF number l))) ∧ Ext [] w w' := by
 unfold maxLen at hn
 obtain ⟨q,hq⟩ : ∃ q,q = l.take 96 := ⟨_,rfl⟩
 have hIq : InW ((1,.cells kt t0 fr0) :: Rl) la q := hq ▸ (hI.take 96 hW).mono (fun e he => List.mem_cons_of_mem _ he)
 have hWq : WW q := hq ▸ hW.take 96
 have hql : q.length = min 96 l.length := by rw [hq,List.length_take]
 have hqm : (if (96 : Int) < (l.length : Int) then (96 : Int) else (l.length : Int)) = (q.length : Int) := by split <;> omega
 have hhf : headF number l = hdL number q ++ List.replicate (512 - (hdL number q).length) 0 := by rw [hq]; rfl
 rw [hhf]
 have hdl := hdL_len number q
 have hsl := hdS_len number q
 clear hhf hq
 have hf8 : ∀ x,(eight x).length = 8 := fun x => be_len _ _
 have hf4 : ∀ x,(four x).length = 4 := fun x => be_len _ _
 have hmod : ((q.length : Int) % 4294967296) = (q.length : Int) := by omega
 refine enter (vs := [.int .u64 (number : Int),.slice la l.length cap]) [] ((1,.cells kt t0 fr0) :: Rl) [] Tryz.func102 rfl kr (HP.ofHas hR) ?_
 refine Cfg.begL rfl ?_
 refine Le (Eff.alloc (z := (.agg (bv (List.replicate 512 0)))) rfl kr) ?_
 rintro rs ⟨hrs,nrs⟩
 refine CfgL.done rfl ?_
 refine Cfg.begL rfl ?_
 refine Lp 3 [] (some [0,1,4,12,14]) n0 trivial ?_
 refine Le (Eff.minI2 (k := .i64) (a := (l.length : Int)) (b := (96 : Int)) (q.length : Int) hqm rfl kr kr) ?_
 rintro ⟨⟩ -
 refine Le (Eff.sliceTo (a := la) (n := l.length) (c := cap) (m := q.length) rfl Tryz.underlying98 kr kr kr om) ?_
 rintro ⟨⟩ -
 refine Lp 1 [] (some [0,1,4]) n0 trivial ?_
 refine CfgL.done rfl ?_
 refine Cfg.begL rfl ?_
 refine Lp 1 [(dS (.agg #[.string ByteArray.empty]))] none (fun S => [(∀ w1,S w1 → (Instr.build 202 #[]).run Tryz.prog w1 = .ok (.agg #[.string ByteArray.empty]) w1)]) ⟨(fun _ _ => kr),trivial⟩ ?_
 refine Le (Eff.buildSlice (e := 9) (cells := #[.string ⟨#[80,82,84,82]⟩]) (parts := #[(0,.string ⟨#[80,82,84,82]⟩)]) rfl kr (fun _ => kr)) ?_
 rintro x2 ⟨hx2,nx2⟩
 refine Le (Eff.callA (vs := [.agg #[.string ByteArray.empty],.slice (some ⟨x2,0,none⟩) 1 1]) (.agg #[.string (tx (ByteArray.empty.data.toList ++ cat [⟨#[80,82,84,82]⟩]))]) rfl Tryz.func112 rfl rfl kr (fun w1 h => wRaw ByteArray.empty (some ⟨x2,0,none⟩) 1 [⟨#[80,82,84,82]⟩] [(x2,.cells (List.map Value.string [⟨#[80,82,84,82]⟩]).toArray 9 (0,0))] w1 (inS_lit x2 9 (0,0) [⟨#[80,82,84,82]⟩]) (h.has (fun e he => mG 0 (by rw [List.mem_singleton.1 he]; rfl))) (one_len _) (by rw [cat_one,ba_len]; decide))) ?_
 rintro ⟨⟩ -
 refine Lp 1 [] (some [1,4,19,20]) n0 trivial ?_
 refine Le (Eff.buildSlice (e := 141) (cells := #[.int .u64 (number : Int)]) (parts := #[(0,.int .u64 (number : Int))]) rfl kr (fun _ => kr)) ?_
 rintro x3 ⟨hx3,nx3⟩
 refine Le (Eff.callA (vs := [.agg #[.string (tx (ByteArray.empty.data.toList ++ cat [⟨#[80,82,84,82]⟩]))],.slice (some ⟨x3,0,none⟩) 1 1]) (.agg #[.string (tx ((tx (ByteArray.empty.data.toList ++ cat [⟨#[80,82,84,82]⟩])).data.toList ++ flat eight [number]))]) rfl Tryz.func134 rfl rfl kr (fun w1 h => wEight (tx (ByteArray.empty.data.toList ++ cat [⟨#[80,82,84,82]⟩])) (some ⟨x3,0,none⟩) 1 [number] [(x3,.cells #[.int .u64 (number : Int)] 141 (0,0))] w1 (inS_num x3 141 (0,0) .u64 number) (h.has (fun e he => mG 0 (by rw [List.mem_singleton.1 he]; rfl))) (by simp [maxLen]) (by simp only [List.length_cons,List.length_nil,tx_size,flat_one,List.length_append,cat_one,ba_len,hf8,show ByteArray.empty.size = 0 from rfl]; omega) (one_get om (by decide)))) ?_
 rintro ⟨⟩ -
 refine Lp 3 [] (some [1,4,22,25]) n0 trivial ?_
 refine Le (Eff.buildSlice (e := 157) (cells := #[.int .u32 ((q.length : Int) % 4294967296)]) (parts := #[(0,.int .u32 ((q.length : Int) % 4294967296))]) rfl kr (fun _ => kr)) ?_
 rintro x4 ⟨hx4,nx4⟩
 refine Le (Eff.callA (vs := [.agg #[.string (tx ((tx (ByteArray.empty.data.toList ++ cat [⟨#[80,82,84,82]⟩])).data.toList ++ flat eight [number]))],.slice (some ⟨x4,0,none⟩) 1 1]) (.agg #[.string (tx ((tx ((tx (ByteArray.empty.data.toList ++ cat [⟨#[80,82,84,82]⟩])).data.toList ++ flat eight [number])).data.toList ++ flat four [q.length]))]) rfl Tryz.func114 rfl rfl kr (fun w1 h => wFour (tx ((tx (ByteArray.empty.data.toList ++ cat [⟨#[80,82,84,82]⟩])).data.toList ++ flat eight [number])) (some ⟨x4,0,none⟩) 1 [q.length] [(x4,.cells #[.int .u32 (q.length : Int)] 157 (0,0))] w1 (inS_num x4 157 (0,0) .u32 q.length) (by have hq := h.own (x4,.cells #[.int .u32 ((q.length : Int) % 4294967296)] 157 (0,0)) (mG 0 rfl); rw [hmod] at hq; intro e he; rw [List.mem_singleton.1 he]; exact hq) (by simp [maxLen]) (by simp only [List.length_cons,List.length_nil,tx_size,tx_list,flat_one,List.length_append,cat_one,ba_len,hf8,hf4,show ByteArray.empty.size = 0 from rfl]; omega) (one_get om (by decide)))) ?_
 rintro ⟨⟩ -
 refine Le (Eff.alloc (z := (.agg #[.string ByteArray.empty])) rfl kr) ?_
 rintro o ⟨ho,no⟩
 refine Le (Eff.storeN (b := o) (off := 0) (vs := #[.string (tx ((tx ((tx (ByteArray.empty.data.toList ++ cat [⟨#[80,82,84,82]⟩])).data.toList ++ flat eight [number])).data.toList ++ flat four [q.length]))]) (n := 1) rfl kr kr kr rfl (by simp [K.one]) 0 (cs := #[.string ByteArray.empty]) (e := 202) kr (by simp)) ?_
 rintro ⟨⟩ -
 refine CfgL.setO (congrArg (fun (xq : Array Value) => ([(o,.cells xq 202 (0,0)),(x4,.cells #[.int .u32 ((q.length : Int) % 4294967296)] 157 (0,0)),(x3,.cells #[.int .u64 (number : Int)] 141 (0,0)),(x2,.cells #[.string ⟨#[80,82,84,82]⟩] 9 (0,0)),(rs,.cells (bv (List.replicate 512 0)) 37 (0,0))] : LO)) (show _ = #[.string (tx ((tx ((tx (ByteArray.empty.data.toList ++ cat [⟨#[80,82,84,82]⟩])).data.toList ++ flat eight [number])).data.toList ++ flat four [q.length]))] from rfl)) ?_
 refine CfgL.done rfl ?_
 refine Cg (Γ' := [(5,[],pT o),(1,[],.slice la q.length cap),(4,[],pT rs)]) ?_
 refine Rg [1,4,5,28,29,30] [] n0 trivial ?_
 refine Cfg.setO (congrArg (fun (xq : Array Value) => ([(o,.cells xq 202 (0,0)),(x4,.cells #[.int .u32 ((q.length : Int) % 4294967296)] 157 (0,0)),(x3,.cells #[.int .u64 (number : Int)] 141 (0,0)),(x2,.cells #[.string ⟨#[80,82,84,82]⟩] 9 (0,0)),(rs,.cells (bv (List.replicate 512 0)) 37 (0,0))] : LO)) (show _ = #[.string (tx (mkL ++ eight number ++ four q.length ++ flat twoW (q.take 0)))] from by rfl)) ?_
 refine Cfg.loop rfl (ι := Nat) (fun (i : Nat) => [(30,[],.int .i64 (i : Int)),(29,[],.int .i64 (q.length : Int)),(28,[],.slice la q.length cap),(5,[],pT o),(1,[],.slice la q.length cap),(4,[],pT rs)]) (fun (i : Nat) => [(o,.cells #[.string (tx (mkL ++ eight number ++ four q.length ++ flat twoW (q.take i)))] 202 (0,0)),(rs,.cells (bv (List.replicate 512 0)) 37 (0,0))]) (fun (i : Nat) => (i ≤ q.length)) (fun (i : Nat) => q.length - i) 0 ?_ (Conv.mk kr) (.cons_cons _ (.cons _ (.cons _ (.cons _ (.cons_cons _ .slnil))))) ?_
 ·exact Nat.zero_le _
 ·rintro i hi
  refine Rg [1,4,5,28,29,30,31] [] n0 trivial ?_
  refine Cfg.cond rfl (b := (decide ((i : Int) < (q.length : Int)))) kr (fun c1r => ?_) (fun c1r => ?_)
  ·have c1 := (dT c1r)
   obtain ⟨sb,off,cs,te,fre,rfl,hmem,hcs⟩ := hIq om
   refine Conv.cfg (Γ' := [(31,[],.bool (decide ((i : Int) < (q.length : Int)))),(30,[],.int .i64 (i : Int)),(29,[],.int .i64 (q.length : Int)),(28,[],.slice (some ⟨sb,off,none⟩) q.length cap),(5,[],pT o),(1,[],.slice (some ⟨sb,off,none⟩) q.length cap),(4,[],pT rs)]) (Conv.mk kr) ?_
   refine Cfg.begL rfl ?_
   refine Lp 2 [dZ,(dS (.agg (jc (q.getD i wz)).toArray))] (some [1,4,5,28,29,30,33]) (fun S => [(0 ≤ (i : Int) ∧ (i : Int) < (q.length : Int)),(∀ w1,S w1 → (loadVar 101 ⟨sb,(addO off (i * 513)),none⟩).run Tryz.prog w1 = .ok (.agg (jc (q.getD i wz)).toArray) w1)]) ⟨om,(fun w1 h => load_list Tryz.underlying101 rfl kr (jc_len (hWq.at i)) (fun j v hj => by rw [addO_eq]; exact (cell_cells (h.ro _ hmem)).trans (wr_cell hWq hcs om hj))),trivial⟩ ?_
   refine Le (Eff.alloc (z := (.agg (jc wz).toArray)) rfl kr) ?_
   rintro xb6 ⟨hxb6,nxb6⟩
   refine Le (Eff.storeN (b := xb6) (off := 0) (vs := (jc (q.getD i wz)).toArray) (n := 513) rfl kr kr kr (by rw [List.size_toArray,jc_len (hWq.at i)]) (jc_all _) 0 (cs := (jc wz).toArray) (e := 101) kr (by show 0 + 513 ≤ (jc wz).toArray.size; rw [List.size_toArray,jc_len zb_len]; decide)) ?_
   rintro ⟨⟩ -
   refine CfgL.setO (congrArg (fun (xq : Array Value) => ([(xb6,.cells xq 101 (0,0)),(o,.cells #[.string (tx (mkL ++ eight number ++ four q.length ++ flat twoW (q.take i)))] 202 (0,0)),(rs,.cells (bv (List.replicate 512 0)) 37 (0,0))] : LO)) (show _ = ((jc (q.getD i wz)).toArray) from spl_all (by rw [List.size_toArray,List.size_toArray,jc_len (hWq.at i)]; exact (jc_len zb_len).symm))) ?_
   refine CfgL.done rfl ?_
   refine Cg (Γ' := [(7,[],pT xb6),(30,[],.int .i64 (i : Int)),(29,[],.int .i64 (q.length : Int)),(28,[],.slice (some ⟨sb,off,none⟩) q.length cap),(5,[],pT o),(1,[],.slice (some ⟨sb,off,none⟩) q.length cap),(4,[],pT rs)]) ?_
   refine Cfg.begA rfl kr [(xb6,.cells ((jc (q.getD i wz)).toArray) 101 (0,0)),(rs,.cells (bv (List.replicate 512 0)) 37 (0,0))] ?_
   refine Ap [1,2,3,4,6,7,8] [dZ,(dS (.int .i64 ((q.getD i wz).1))),dZ,dZ,dZ,(dS (.int .i64 ((q.getD i wz).1)))] (some [1,4,5,28,29,30,38,42]) (bF 478 11) (.cons_cons _ (.cons _ (.cons_cons _ .slnil))) 4 (fun S => [(cE S xb6 0 (.int .i64 ((q.getD i wz).1))),(0 ≤ (8 : Int) ∧ 8 ≤ 64),(cE S xb6 0 (.int .i64 ((q.getD i wz).1)))]) ⟨(oC 0 rfl rfl),om,(oC 0 rfl rfl),trivial⟩ ?_
   refine Ae 0 rfl 3  (Eff.quiet (raw := false) (orc := some (.agg #[.string (tx (mkL ++ eight number ++ four q.length ++ flat twoW (q.take i)))])) (v := .agg #[.string (tx (mkL ++ eight number ++ four q.length ++ flat twoW (q.take i)))]) (nd := (fun S => [(∀ w1,S w1 → (loadVar 202 ⟨o,0,none⟩).run Tryz.prog w1 = .ok (.agg #[.string (tx (mkL ++ eight number ++ four q.length ++ flat twoW (q.take i)))]) w1)])) (fun _ => kr) ⟨(fun w1 h => h.oload 1 rfl Tryz.underlying202 rfl (n := 1) kr rfl),trivial⟩ kr) (fun _ _ => (.cons_cons _ (.cons _ (.cons_cons _ .slnil)))) ?_
   rintro ⟨⟩ -
   refine Ae 5 rfl 2  (Eff.callA (vs := [.agg #[.string (tx (mkL ++ eight number ++ four q.length ++ flat twoW (q.take i)))],.int .u8 ((((q.getD i wz).1) / 256) % 256)]) (.agg #[.string (tx ((mkL ++ eight number ++ four q.length ++ flat twoW (q.take i)) ++ be ((((q.getD i wz).1) / 256) % 256).toNat 1))]) rfl Tryz.func111 rfl rfl kr (fun w1 _ => wByteI (mkL ++ eight number ++ four q.length ++ flat twoW (q.take i)) ((((q.getD i wz).1) / 256) % 256) w1 om (by simp only [List.length_append,flat2_len,hf8,hf4,show mkL.length = 4 from rfl,List.length_take]; omega))) (fun _ _ => (.cons_cons _ (.cons _ (.cons_cons _ .slnil)))) ?_
   rintro ⟨⟩ -
   refine Ae 9 rfl 1  (Eff.callA (vs := [.agg #[.string (tx ((mkL ++ eight number ++ four q.length ++ flat twoW (q.take i)) ++ be ((((q.getD i wz).1) / 256) % 256).toNat 1))],.int .u8 (((q.getD i wz).1) % 256)]) (.agg #[.string (tx (((mkL ++ eight number ++ four q.length ++ flat twoW (q.take i)) ++ be ((((q.getD i wz).1) / 256) % 256).toNat 1) ++ be (((q.getD i wz).1) % 256).toNat 1))]) rfl Tryz.func111 rfl rfl kr (fun w1 _ => wByteI ((mkL ++ eight number ++ four q.length ++ flat twoW (q.take i)) ++ be ((((q.getD i wz).1) / 256) % 256).toNat 1) (((q.getD i wz).1) % 256) w1 om (by simp only [List.length_append,be_len,flat2_len,hf8,hf4,show mkL.length = 4 from rfl,List.length_take]; omega))) (fun _ _ => (.cons_cons _ (.cons _ (.cons_cons _ .slnil)))) ?_
   rintro ⟨⟩ -
   refine Ae 10 rfl 0  (Eff.storeN (b := o) (off := 0) (vs := #[.string (tx (((mkL ++ eight number ++ four q.length ++ flat twoW (q.take i)) ++ be ((((q.getD i wz).1) / 256) % 256).toNat 1) ++ be (((q.getD i wz).1) % 256).toNat 1))]) (n := 1) rfl kr kr kr rfl (by simp [K.one]) 1 (cs := #[.string (tx (mkL ++ eight number ++ four q.length ++ flat twoW (q.take i)))]) (e := 202) kr (by simp)) (fun _ _ => (.cons_cons _ (.cons _ (.cons_cons _ .slnil)))) ?_
   rintro ⟨⟩ -
   refine CfgA.setO (congrArg (fun (xq : Array Value) => ([(xb6,.cells ((jc (q.getD i wz)).toArray) 101 (0,0)),(o,.cells xq 202 (0,0)),(rs,.cells (bv (List.replicate 512 0)) 37 (0,0))] : LO)) (show _ = #[.string (tx (((mkL ++ eight number ++ four q.length ++ flat twoW (q.take i)) ++ be ((((q.getD i wz).1) / 256) % 256).toNat 1) ++ be (((q.getD i wz).1) % 256).toNat 1))] from rfl)) ?_
   refine CfgA.done kr ?_
   refine Cg (Γ' := [(30,[],.int .i64 (i : Int)),(29,[],.int .i64 (q.length : Int)),(28,[],.slice (some ⟨sb,off,none⟩) q.length cap),(5,[],pT o),(1,[],.slice (some ⟨sb,off,none⟩) q.length cap),(4,[],pT rs)]) ?_
   refine Rg [1,4,5,28,29,30] [] (fun _ => [(i6 ((i : Int) + 1))]) ⟨om,trivial⟩ ?_
   refine Cfg.setO (congrArg (fun (xq : Array Value) => ([(xb6,.cells ((jc (q.getD i wz)).toArray) 101 (0,0)),(o,.cells xq 202 (0,0)),(rs,.cells (bv (List.replicate 512 0)) 37 (0,0))] : LO)) (show _ = #[.string (tx (mkL ++ eight number ++ four q.length ++ flat twoW (q.take (i + 1))))] from by rw [flat_succ wz om,← List.append_assoc,show twoW (q.getD i wz) = two (q.getD i wz).1 from rfl,two_eq,← List.append_assoc])) ?_
   refine Cfg.again rfl (i + 1) (show i + 1 ≤ q.length by omega) om (Conv.mk kr) (.cons _ (.cons_cons _ (.cons_cons _ .slnil)))
  ·have c1 := (dF c1r)
   obtain rfl : i = q.length := by omega
   refine Cfg.setO (congrArg (fun (xq : Array Value) => ([(o,.cells xq 202 (0,0)),(rs,.cells (bv (List.replicate 512 0)) 37 (0,0))] : LO)) (show _ = #[.string (tx (hdS number q))] from by rw [hdS_flat])) ?_
   refine Conv.cfg (Γ' := [(28,[],.slice la q.length cap),(5,[],pT o),(1,[],.slice la q.length cap),(4,[],pT rs)]) (Conv.mk kr) ?_
   refine Cfg.begL rfl ?_
   refine Lp 1 [(dS (.agg #[.string (tx (hdS number q))]))] (some [1,4,5,45]) (fun S => [(∀ w1,S w1 → (loadVar 202 ⟨o,0,none⟩).run Tryz.prog w1 = .ok (.agg #[.string (tx (hdS number q))]) w1)]) ⟨(fun w1 h => h.oload 0 rfl Tryz.underlying202 rfl (n := 1) kr rfl),trivial⟩ ?_
   refine Le (Eff.callA (vs := [.agg #[.string (tx (hdS number q))]]) (.string (tx (hdS number q))) rfl Tryz.func115 rfl rfl kr (fun w1 _ => wString (tx (hdS number q)) w1)) ?_
   rintro ⟨⟩ -
   refine Le (Eff.buildSlice (e := 9) (cells := #[.string (tx (hdS number q))]) (parts := #[(0,.string (tx (hdS number q)))]) rfl kr (fun _ => kr)) ?_
   rintro x7 ⟨hx7,nx7⟩
   refine Lp 1 [] (some [1,4,5,8]) n0 trivial ?_
   refine CfgL.done rfl ?_
   refine Rg [4,5,8,48,49,50] [] n0 trivial ?_
   refine Cfg.permO (O' := ([(o,.cells #[.string (tx (hdS number q))] 202 (0,0)),(rs,.cells (bv (List.replicate 512 0)) 37 (0,0))] ++ (Own.o 9 ((pts number q 0).map Value.string) ((some (x7,1,[]))) ++ []))) (List.perm_append_comm (l₁ := ([(x7,.cells #[.string (tx (hdS number q))] 9 (0,0))] : LO))) ?_
   refine Cfg.loop rfl (ι := Nat × K.Own) (fun (xz : Nat × K.Own) => match xz with | (i,own) => [(50,[],.int .i64 (i : Int)),(49,[],.int .i64 (q.length : Int)),(48,[],.slice la q.length cap),(8,[],.slice (Own.a own) ((i + 1)) (Own.c own)),(5,[],pT o),(4,[],pT rs)]) (fun (xz : Nat × K.Own) => match xz with | (i,own) => ([(o,.cells #[.string (tx (hdS number q))] 202 (0,0)),(rs,.cells (bv (List.replicate 512 0)) 37 (0,0))] ++ (Own.o 9 ((pts number q i).map Value.string) own ++ []))) (fun (xz : Nat × K.Own) => match xz with | (i,own) => (i ≤ q.length) ∧ (OwnOk own 1 (i + 1) ((pts number q i).map Value.string))) (fun (xz : Nat × K.Own) => match xz with | (i,own) => q.length - i) (0,some (x7,1,[])) ?_ (Conv.mk kr) (.cons_cons _ (.cons_cons _ (List.Sublist.trans slr (List.sublist_append_right _ _)))) ?_
   ·exact ⟨Nat.zero_le _,⟨rfl,(fun h => by cases h),(fun p h => by cases h; exact ⟨rfl,Nat.le_refl _⟩)⟩⟩
   ·rintro ⟨i,own⟩ ⟨hi,hok⟩
    refine Rg [4,5,8,48,49,50,51] [] n0 trivial ?_
    refine Cfg.cond rfl (b := (decide ((i : Int) < (q.length : Int)))) kr (fun c2r => ?_) (fun c2r => ?_)
    ·have c2 := (dT c2r)
     obtain ⟨sb,off,cs,te,fre,rfl,hmem,hcs⟩ := hIq om
     refine Conv.cfg (Γ' := [(51,[],.bool (decide ((i : Int) < (q.length : Int)))),(50,[],.int .i64 (i : Int)),(49,[],.int .i64 (q.length : Int)),(48,[],.slice (some ⟨sb,off,none⟩) q.length cap),(8,[],.slice (Own.a own) ((i + 1)) (Own.c own)),(5,[],pT o),(4,[],pT rs)]) (Conv.mk kr) ?_
     refine Cfg.begL rfl ?_
     refine Lp 2 [dZ,(dS (.agg (jc (q.getD i wz)).toArray))] (some [4,5,8,48,49,50,53]) (fun S => [(0 ≤ (i : Int) ∧ (i : Int) < (q.length : Int)),(∀ w1,S w1 → (loadVar 101 ⟨sb,(addO off (i * 513)),none⟩).run Tryz.prog w1 = .ok (.agg (jc (q.getD i wz)).toArray) w1)]) ⟨om,(fun w1 h => load_list Tryz.underlying101 rfl kr (jc_len (hWq.at i)) (fun j v hj => by rw [addO_eq]; exact (cell_cells (h.ro _ hmem)).trans (wr_cell hWq hcs om hj))),trivial⟩ ?_
     refine Le (Eff.alloc (z := (.agg (jc wz).toArray)) rfl kr) ?_
     rintro xb8 ⟨hxb8,nxb8⟩
     refine Le (Eff.storeN (b := xb8) (off := 0) (vs := (jc (q.getD i wz)).toArray) (n := 513) rfl kr kr kr (by rw [List.size_toArray,jc_len (hWq.at i)]) (jc_all _) 0 (cs := (jc wz).toArray) (e := 101) kr (by show 0 + 513 ≤ (jc wz).toArray.size; rw [List.size_toArray,jc_len zb_len]; decide)) ?_
     rintro ⟨⟩ -
     refine CfgL.setO (congrArg (fun (xq : Array Value) => (([(xb8,.cells xq 101 (0,0)),(o,.cells #[.string (tx (hdS number q))] 202 (0,0)),(rs,.cells (bv (List.replicate 512 0)) 37 (0,0))] ++ (Own.o 9 ((pts number q i).map Value.string) own ++ [])) : LO)) (show _ = ((jc (q.getD i wz)).toArray) from spl_all (by rw [List.size_toArray,List.size_toArray,jc_len (hWq.at i)]; exact (jc_len zb_len).symm))) ?_
     refine CfgL.done rfl ?_
     refine Cg (Γ' := [(10,[],pT xb8),(50,[],.int .i64 (i : Int)),(49,[],.int .i64 (q.length : Int)),(48,[],.slice (some ⟨sb,off,none⟩) q.length cap),(8,[],.slice (Own.a own) ((i + 1)) (Own.c own)),(5,[],pT o),(4,[],pT rs)]) ?_
     refine Cfg.begL rfl ?_
     refine Lp 4 [dZ,dZ,dZ,(dS (.string (tx (q.getD i wz).2)))] (some [4,5,8,48,49,50,54,57]) (fun S => [(512 ≤ 512),(∀ w1,S w1 → (Conv.bytesToString (.slice (some ⟨xb8,1,none⟩) 512 512)).run Tryz.prog w1 = .ok (.string (tx (q.getD i wz).2)) w1)]) ⟨om,(fun w1 h => wr_str h 0 rfl (hWq.at i) _),trivial⟩ ?_
     refine Le (Eff.buildSlice (e := 9) (cells := #[.string (tx (q.getD i wz).2)]) (parts := #[(0,.string (tx (q.getD i wz).2))]) rfl kr (fun _ => kr)) ?_
     rintro x9 ⟨hx9,nx9⟩
     refine Le (Eff.appendF rfl 1 16 Tryz.underlying41 kr (z := (.string ByteArray.empty)) kr kr own (xs := ((pts number q i).map Value.string)) hok kr (b2 := x9) (off2 := 0) (m := 1) (c2 := 1) kr ([Value.string (tx (q.getD i wz).2)]) rfl (str_one _) [(x9,.cells #[.string (tx (q.getD i wz).2)] 9 (0,0)),(xb8,.cells ((jc (q.getD i wz)).toArray) 101 (0,0)),(o,.cells #[.string (tx (hdS number q))] 202 (0,0)),(rs,.cells (bv (List.replicate 512 0)) 37 (0,0))] [] (by rfl) (fun w1 h j v hj => by rw [Nat.zero_add]; exact h.ocell 0 rfl (by rw [← Array.getElem?_toList]; exact hj)) om om) ?_
     rintro o8 ko8
     refine Lp 1 [] (some [4,5,8,48,49,50]) n0 trivial ?_
     refine CfgL.done rfl ?_
     refine Rg [4,5,8,48,49,50] [] (fun _ => [(i6 ((i : Int) + 1))]) ⟨om,trivial⟩ ?_
     have hpv := pts_vals (n := number) (q := q) (i := i) om
     refine Cfg.setO (congrArg (fun (xq : List Value) => (([(x9,.cells #[.string (tx (q.getD i wz).2)] 9 (0,0)),(xb8,.cells ((jc (q.getD i wz)).toArray) 101 (0,0)),(o,.cells #[.string (tx (hdS number q))] 202 (0,0)),(rs,.cells (bv (List.replicate 512 0)) 37 (0,0))] ++ (Own.o 9 xq o8 ++ [])) : LO)) (show _ = ((pts number q (i + 1)).map Value.string) from hpv)) ?_
     refine Cfg.again rfl (i + 1,o8) ⟨by omega,hpv ▸ ko8⟩ (by show q.length - (i + 1) < q.length - i; omega) (Conv.mk kr) (.cons _ (.cons _ slr))
    ·have c2 := (dF c2r)
     obtain rfl : i = q.length := by omega
     have hss : (tx (hdS number q ++ shaD (scat (pts number q q.length)))).size = (hdL number q).length := by rw [tx_size,pts_cat]; rfl
     have hfl : (hdL number q ++ List.replicate (512 - (hdL number q).length) 0).length = 512 := by rw [List.length_append,List.length_replicate]; omega
     refine Conv.cfg (Γ' := [(8,[],.slice (Own.a own) ((q.length + 1)) (Own.c own)),(5,[],pT o),(4,[],pT rs)]) (Conv.mk kr) ?_
     refine Cfg.begL rfl ?_
     refine Le (Eff.alloc (z := (.agg (bv (List.replicate 512 0)))) rfl kr) ?_
     rintro hb ⟨hhb,nhb⟩
     refine CfgL.done rfl ?_
     refine Cfg.begA rfl kr [(rs,.cells (bv (List.replicate 512 0)) 37 (0,0))] ?_
     refine Ap [0,2] [] (some [4,5,11,61,63]) (bF 5 8) (.cons _ (.cons _ (.cons_cons _ (List.nil_sublist _)))) 6 (fun _ => [(512 ≤ 512)]) ⟨om,trivial⟩ ?_
     refine CfgA.two 1 3 kr (fuel' := 5) rfl ?_ ?_
     ·
      refine Ie rfl  (Eff.quiet (raw := false) (orc := some (.agg #[.string (tx (hdS number q))])) (v := .agg #[.string (tx (hdS number q))]) (nd := (fun S => [(∀ w1,S w1 → (loadVar 202 ⟨o,0,none⟩).run Tryz.prog w1 = .ok (.agg #[.string (tx (hdS number q))]) w1)])) (fun _ => kr) ⟨(fun w1 h => h.oload 1 rfl Tryz.underlying202 rfl (n := 1) kr rfl),trivial⟩ kr) (fun _ _ => (.cons _ (.cons _ (.cons_cons _ (List.nil_sublist _))))) ?_
      rintro ⟨⟩ -
      refine Ae 3 rfl 4  (Eff.callA (vs := [.slice (Own.a own) ((q.length + 1)) (Own.c own)]) (.agg (bv (shaD (scat (pts number q q.length))))) rfl Tryz.func136 rfl rfl kr (fun w1 h => by have h9 := shaSum (Own.a own) (Own.c own) (pts number q q.length) (Own.o 9 ((pts number q q.length).map Value.string) own) w1 (own_ins (by rw [pts_len (Nat.le_refl _)]; exact hok) (fun j hj => by simp [ssat,List.getElem?_eq_getElem hj])) (by rw [pts_len (Nat.le_refl _)]; unfold maxLen; omega) (fun e he => (List.mem_cons.1 he).elim (fun h1 => h1 ▸ h.ro _ mH) (fun h1 => h.own e (show e ∈ ([(hb,.cells (bv (List.replicate 512 0)) 37 (0,0)),(o,.cells #[.string (tx (hdS number q))] 202 (0,0)),(rs,.cells (bv (List.replicate 512 0)) 37 (0,0))] ++ (Own.o 9 ((pts number q q.length).map Value.string) own ++ [])) from (mR (mL h1))))) hK; rw [pts_len (Nat.le_refl _)] at h9; exact h9)) (fun _ _ => (.cons _ (.cons _ (.cons_cons _ (List.nil_sublist _))))) ?_
      rintro ⟨⟩ -
      refine Ae 4 rfl 3  (Eff.buildAgg (vs := (bv (shaD (scat (pts number q q.length))))) (n := 32) rfl kr Tryz.underlying249 kr (z := (.agg #[.int .u8 0,.int .u8 0,.int .u8 0,.int .u8 0,.int .u8 0,.int .u8 0,.int .u8 0,.int .u8 0,.int .u8 0,.int .u8 0,.int .u8 0,.int .u8 0,.int .u8 0,.int .u8 0,.int .u8 0,.int .u8 0,.int .u8 0,.int .u8 0,.int .u8 0,.int .u8 0,.int .u8 0,.int .u8 0,.int .u8 0,.int .u8 0,.int .u8 0,.int .u8 0,.int .u8 0,.int .u8 0,.int .u8 0,.int .u8 0,.int .u8 0,.int .u8 0])) kr ((bv_size _).trans (shaD_len _)) (by decide) (by decide)) (fun _ _ => (.cons _ (.cons _ (.cons _ (.cons_cons _ (List.nil_sublist _)))))) ?_
      rintro x11 ⟨hx11,nx11⟩
      refine Ae 5 rfl 2  (Eff.callA (vs := [.agg #[.string (tx (hdS number q))],.slice (some ⟨x11,0,none⟩) 1 1]) (.agg #[.string (tx (hdS number q ++ shaD (scat (pts number q q.length))))]) rfl Tryz.func135 rfl rfl kr (fun w1 h => wDigest1 (hdS number q) (shaD (scat (pts number q q.length))) x11 226 w1 (shaD_len _) om (fun e he => by rw [List.mem_singleton.1 he]; exact h.own _ (show (x11,Obj.cells (bv (shaD (scat (pts number q q.length)))) 226 (0,0)) ∈ ([(x11,.cells (bv (shaD (scat (pts number q q.length)))) 226 (0,0)),(hb,.cells (bv (List.replicate 512 0)) 37 (0,0)),(o,.cells #[.string (tx (hdS number q))] 202 (0,0)),(rs,.cells (bv (List.replicate 512 0)) 37 (0,0))] ++ (Own.o 9 ((pts number q q.length).map Value.string) own ++ [])) from (mL (mG 0 rfl)))))) (fun _ _ => (.cons _ (.cons _ (.cons _ (.cons_cons _ (List.nil_sublist _)))))) ?_
      rintro ⟨⟩ -
      refine Ae 6 rfl 1  (Eff.callA (vs := [.agg #[.string (tx (hdS number q ++ shaD (scat (pts number q q.length))))]]) (.string (tx (hdS number q ++ shaD (scat (pts number q q.length))))) rfl Tryz.func115 rfl rfl kr (fun w1 _ => wString (tx (hdS number q ++ shaD (scat (pts number q q.length)))) w1)) (fun _ _ => (.cons _ (.cons _ (.cons _ (.cons_cons _ (List.nil_sublist _)))))) ?_
      rintro ⟨⟩ -
      refine Ae 7 rfl 0  (Eff.copyS rfl Tryz.underlying111 kr (b := hb) (off := 0) (dl := 512) (c := 512) kr (s := (tx (hdS number q ++ shaD (scat (pts number q q.length))))) kr 1 (cs := (bv (List.replicate 512 0))) (te := 37) kr ((hdL number q).length) (by rw [hss]; omega) (by rw [zsz512]; omega)) (fun _ _ => (.cons _ (.cons _ (.cons _ (.cons_cons _ (List.nil_sublist _)))))) ?_
      rintro ⟨⟩ -
      refine CfgA.done kr ?_
      refine Cg (Γ' := [(11,[],pT hb),(4,[],pT rs)]) ?_
      refine Cfg.setO (congrArg (fun (xq : Array Value) => (([(x11,.cells (bv (shaD (scat (pts number q q.length)))) 226 (0,0)),(hb,.cells xq 37 (0,0)),(o,.cells #[.string (tx (hdS number q))] 202 (0,0)),(rs,.cells (bv (List.replicate 512 0)) 37 (0,0))] ++ (Own.o 9 ((pts number q q.length).map Value.string) own ++ [])) : LO)) (show _ = (bv (hdL number q ++ List.replicate (512 - (hdL number q).length) 0)) from (by rw [pts_cat]; exact hd_spl (L := hdL number q) om rfl))) ?_
      refine Cfg.begL rfl ?_
      refine Lp 1 [(dS (.agg (bv (hdL number q ++ List.replicate (512 - (hdL number q).length) 0))))] (some [4,69]) (fun S => [(∀ w1,S w1 → (loadVar 37 ⟨hb,0,none⟩).run Tryz.prog w1 = .ok (.agg (bv (hdL number q ++ List.replicate (512 - (hdL number q).length) 0))) w1)]) ⟨(fun w1 h => h.oload 1 rfl Tryz.underlying37 rfl (n := 512) kr ((bv_size _).trans hfl)),trivial⟩ ?_
      refine Le (Eff.storeN (b := rs) (off := 0) (vs := (bv (hdL number q ++ List.replicate (512 - (hdL number q).length) 0))) (n := 512) rfl kr kr kr ((bv_size _).trans hfl) (all_bv _) 3 (cs := (bv (List.replicate 512 0))) (e := 37) kr (by rw [zsz512]; omega)) ?_
      rintro ⟨⟩ -
      refine CfgL.setO (congrArg (fun (xq : Array Value) => (([(x11,.cells (bv (shaD (scat (pts number q q.length)))) 226 (0,0)),(hb,.cells (bv (hdL number q ++ List.replicate (512 - (hdL number q).length) 0)) 37 (0,0)),(o,.cells #[.string (tx (hdS number q))] 202 (0,0)),(rs,.cells xq 37 (0,0))] ++ (Own.o 9 ((pts number q q.length).map Value.string) own ++ [])) : LO)) (show _ = (bv (hdL number q ++ List.replicate (512 - (hdL number q).length) 0)) from spl_all (((bv_size _).trans hfl).trans zsz512.symm))) ?_
      refine CfgL.done rfl ?_
      refine Cg (Γ' := [(4,[],pT rs)]) ?_
      refine Cfg.ret rfl (rs := [.cell 4 37]) rfl [.agg (bv (hdL number q ++ List.replicate (512 - (hdL number q).length) 0))] ⟨⟨_,by kernel_rfl,(fun w1 h => h.oload 3 rfl Tryz.underlying37 rfl (n := 512) kr ((bv_size _).trans hfl))⟩,trivial⟩ (fun w1 hp => ?_)
      exact ⟨rfl,hp.ext⟩
     ·
      refine Ie rfl  (Eff.callA (vs := [.slice (Own.a own) ((q.length + 1)) (Own.c own)]) (.agg (bv (shaD (scat (pts number q q.length))))) rfl Tryz.func136 rfl rfl kr (fun w1 h => by have h9 := shaSum (Own.a own) (Own.c own) (pts number q q.length) (Own.o 9 ((pts number q q.length).map Value.string) own) w1 (own_ins (by rw [pts_len (Nat.le_refl _)]; exact hok) (fun j hj => by simp [ssat,List.getElem?_eq_getElem hj])) (by rw [pts_len (Nat.le_refl _)]; unfold maxLen; omega) (fun e he => (List.mem_cons.1 he).elim (fun h1 => h1 ▸ h.ro _ mH) (fun h1 => h.own e (show e ∈ ([(hb,.cells (bv (List.replicate 512 0)) 37 (0,0)),(o,.cells #[.string (tx (hdS number q))] 202 (0,0)),(rs,.cells (bv (List.replicate 512 0)) 37 (0,0))] ++ (Own.o 9 ((pts number q q.length).map Value.string) own ++ [])) from (mR (mL h1))))) hK; rw [pts_len (Nat.le_refl _)] at h9; exact h9)) (fun _ _ => (.cons _ (.cons _ (.cons_cons _ (List.nil_sublist _))))) ?_
      rintro ⟨⟩ -
      refine CfgA.two 1 4 kr (fuel' := 4) rfl ?_ ?_
      ·
       refine Ie rfl  (Eff.quiet (raw := false) (orc := some (.agg #[.string (tx (hdS number q))])) (v := .agg #[.string (tx (hdS number q))]) (nd := (fun S => [(∀ w1,S w1 → (loadVar 202 ⟨o,0,none⟩).run Tryz.prog w1 = .ok (.agg #[.string (tx (hdS number q))]) w1)])) (fun _ => kr) ⟨(fun w1 h => h.oload 1 rfl Tryz.underlying202 rfl (n := 1) kr rfl),trivial⟩ kr) (fun _ _ => (.cons _ (.cons _ (.cons_cons _ (List.nil_sublist _))))) ?_
       rintro ⟨⟩ -
       refine Ae 4 rfl 3  (Eff.buildAgg (vs := (bv (shaD (scat (pts number q q.length))))) (n := 32) rfl kr Tryz.underlying249 kr (z := (.agg #[.int .u8 0,.int .u8 0,.int .u8 0,.int .u8 0,.int .u8 0,.int .u8 0,.int .u8 0,.int .u8 0,.int .u8 0,.int .u8 0,.int .u8 0,.int .u8 0,.int .u8 0,.int .u8 0,.int .u8 0,.int .u8 0,.int .u8 0,.int .u8 0,.int .u8 0,.int .u8 0,.int .u8 0,.int .u8 0,.int .u8 0,.int .u8 0,.int .u8 0,.int .u8 0,.int .u8 0,.int .u8 0,.int .u8 0,.int .u8 0,.int .u8 0,.int .u8 0])) kr ((bv_size _).trans (shaD_len _)) (by decide) (by decide)) (fun _ _ => (.cons _ (.cons _ (.cons _ (.cons_cons _ (List.nil_sublist _)))))) ?_
       rintro x12 ⟨hx12,nx12⟩
       refine Ae 5 rfl 2  (Eff.callA (vs := [.agg #[.string (tx (hdS number q))],.slice (some ⟨x12,0,none⟩) 1 1]) (.agg #[.string (tx (hdS number q ++ shaD (scat (pts number q q.length))))]) rfl Tryz.func135 rfl rfl kr (fun w1 h => wDigest1 (hdS number q) (shaD (scat (pts number q q.length))) x12 226 w1 (shaD_len _) om (fun e he => by rw [List.mem_singleton.1 he]; exact h.own _ (show (x12,Obj.cells (bv (shaD (scat (pts number q q.length)))) 226 (0,0)) ∈ ([(x12,.cells (bv (shaD (scat (pts number q q.length)))) 226 (0,0)),(hb,.cells (bv (List.replicate 512 0)) 37 (0,0)),(o,.cells #[.string (tx (hdS number q))] 202 (0,0)),(rs,.cells (bv (List.replicate 512 0)) 37 (0,0))] ++ (Own.o 9 ((pts number q q.length).map Value.string) own ++ [])) from (mL (mG 0 rfl)))))) (fun _ _ => (.cons _ (.cons _ (.cons _ (.cons_cons _ (List.nil_sublist _)))))) ?_
       rintro ⟨⟩ -
       refine Ae 6 rfl 1  (Eff.callA (vs := [.agg #[.string (tx (hdS number q ++ shaD (scat (pts number q q.length))))]]) (.string (tx (hdS number q ++ shaD (scat (pts number q q.length))))) rfl Tryz.func115 rfl rfl kr (fun w1 _ => wString (tx (hdS number q ++ shaD (scat (pts number q q.length)))) w1)) (fun _ _ => (.cons _ (.cons _ (.cons _ (.cons_cons _ (List.nil_sublist _)))))) ?_
       rintro ⟨⟩ -
       refine Ae 7 rfl 0  (Eff.copyS rfl Tryz.underlying111 kr (b := hb) (off := 0) (dl := 512) (c := 512) kr (s := (tx (hdS number q ++ shaD (scat (pts number q q.length))))) kr 1 (cs := (bv (List.replicate 512 0))) (te := 37) kr ((hdL number q).length) (by rw [hss]; omega) (by rw [zsz512]; omega)) (fun _ _ => (.cons _ (.cons _ (.cons _ (.cons_cons _ (List.nil_sublist _)))))) ?_
       rintro ⟨⟩ -
       refine CfgA.done kr ?_
       refine Cg (Γ' := [(11,[],pT hb),(4,[],pT rs)]) ?_
       refine Cfg.setO (congrArg (fun (xq : Array Value) => (([(x12,.cells (bv (shaD (scat (pts number q q.length)))) 226 (0,0)),(hb,.cells xq 37 (0,0)),(o,.cells #[.string (tx (hdS number q))] 202 (0,0)),(rs,.cells (bv (List.replicate 512 0)) 37 (0,0))] ++ (Own.o 9 ((pts number q q.length).map Value.string) own ++ [])) : LO)) (show _ = (bv (hdL number q ++ List.replicate (512 - (hdL number q).length) 0)) from (by rw [pts_cat]; exact hd_spl (L := hdL number q) om rfl))) ?_
       refine Cfg.begL rfl ?_
       refine Lp 1 [(dS (.agg (bv (hdL number q ++ List.replicate (512 - (hdL number q).length) 0))))] (some [4,69]) (fun S => [(∀ w1,S w1 → (loadVar 37 ⟨hb,0,none⟩).run Tryz.prog w1 = .ok (.agg (bv (hdL number q ++ List.replicate (512 - (hdL number q).length) 0))) w1)]) ⟨(fun w1 h => h.oload 1 rfl Tryz.underlying37 rfl (n := 512) kr ((bv_size _).trans hfl)),trivial⟩ ?_
       refine Le (Eff.storeN (b := rs) (off := 0) (vs := (bv (hdL number q ++ List.replicate (512 - (hdL number q).length) 0))) (n := 512) rfl kr kr kr ((bv_size _).trans hfl) (all_bv _) 3 (cs := (bv (List.replicate 512 0))) (e := 37) kr (by rw [zsz512]; omega)) ?_
       rintro ⟨⟩ -
       refine CfgL.setO (congrArg (fun (xq : Array Value) => (([(x12,.cells (bv (shaD (scat (pts number q q.length)))) 226 (0,0)),(hb,.cells (bv (hdL number q ++ List.replicate (512 - (hdL number q).length) 0)) 37 (0,0)),(o,.cells #[.string (tx (hdS number q))] 202 (0,0)),(rs,.cells xq 37 (0,0))] ++ (Own.o 9 ((pts number q q.length).map Value.string) own ++ [])) : LO)) (show _ = (bv (hdL number q ++ List.replicate (512 - (hdL number q).length) 0)) from spl_all (((bv_size _).trans hfl).trans zsz512.symm))) ?_
       refine CfgL.done rfl ?_
       refine Cg (Γ' := [(4,[],pT rs)]) ?_
       refine Cfg.ret rfl (rs := [.cell 4 37]) rfl [.agg (bv (hdL number q ++ List.replicate (512 - (hdL number q).length) 0))] ⟨⟨_,by kernel_rfl,(fun w1 h => h.oload 3 rfl Tryz.underlying37 rfl (n := 512) kr ((bv_size _).trans hfl))⟩,trivial⟩ (fun w1 hp => ?_)
       exact ⟨rfl,hp.ext⟩
      ·
       refine Ie rfl  (Eff.buildAgg (vs := (bv (shaD (scat (pts number q q.length))))) (n := 32) rfl kr Tryz.underlying249 kr (z := (.agg #[.int .u8 0,.int .u8 0,.int .u8 0,.int .u8 0,.int .u8 0,.int .u8 0,.int .u8 0,.int .u8 0,.int .u8 0,.int .u8 0,.int .u8 0,.int .u8 0,.int .u8 0,.int .u8 0,.int .u8 0,.int .u8 0,.int .u8 0,.int .u8 0,.int .u8 0,.int .u8 0,.int .u8 0,.int .u8 0,.int .u8 0,.int .u8 0,.int .u8 0,.int .u8 0,.int .u8 0,.int .u8 0,.int .u8 0,.int .u8 0,.int .u8 0,.int .u8 0])) kr ((bv_size _).trans (shaD_len _)) (by decide) (by decide)) (fun _ _ => (.cons _ (.cons _ (.cons _ (.cons_cons _ (List.nil_sublist _)))))) ?_
       rintro x13 ⟨hx13,nx13⟩
       refine Ae 1 rfl 3  (Eff.quiet (raw := false) (orc := some (.agg #[.string (tx (hdS number q))])) (v := .agg #[.string (tx (hdS number q))]) (nd := (fun S => [(∀ w1,S w1 → (loadVar 202 ⟨o,0,none⟩).run Tryz.prog w1 = .ok (.agg #[.string (tx (hdS number q))]) w1)])) (fun _ => kr) ⟨(fun w1 h => h.oload 2 rfl Tryz.underlying202 rfl (n := 1) kr rfl),trivial⟩ kr) (fun _ _ => (.cons _ (.cons _ (.cons _ (.cons_cons _ (List.nil_sublist _)))))) ?_
       rintro ⟨⟩ -
       refine Ae 5 rfl 2  (Eff.callA (vs := [.agg #[.string (tx (hdS number q))],.slice (some ⟨x13,0,none⟩) 1 1]) (.agg #[.string (tx (hdS number q ++ shaD (scat (pts number q q.length))))]) rfl Tryz.func135 rfl rfl kr (fun w1 h => wDigest1 (hdS number q) (shaD (scat (pts number q q.length))) x13 226 w1 (shaD_len _) om (fun e he => by rw [List.mem_singleton.1 he]; exact h.own _ (show (x13,Obj.cells (bv (shaD (scat (pts number q q.length)))) 226 (0,0)) ∈ ([(x13,.cells (bv (shaD (scat (pts number q q.length)))) 226 (0,0)),(hb,.cells (bv (List.replicate 512 0)) 37 (0,0)),(o,.cells #[.string (tx (hdS number q))] 202 (0,0)),(rs,.cells (bv (List.replicate 512 0)) 37 (0,0))] ++ (Own.o 9 ((pts number q q.length).map Value.string) own ++ [])) from (mL (mG 0 rfl)))))) (fun _ _ => (.cons _ (.cons _ (.cons _ (.cons_cons _ (List.nil_sublist _)))))) ?_
       rintro ⟨⟩ -
       refine Ae 6 rfl 1  (Eff.callA (vs := [.agg #[.string (tx (hdS number q ++ shaD (scat (pts number q q.length))))]]) (.string (tx (hdS number q ++ shaD (scat (pts number q q.length))))) rfl Tryz.func115 rfl rfl kr (fun w1 _ => wString (tx (hdS number q ++ shaD (scat (pts number q q.length)))) w1)) (fun _ _ => (.cons _ (.cons _ (.cons _ (.cons_cons _ (List.nil_sublist _)))))) ?_
       rintro ⟨⟩ -
       refine Ae 7 rfl 0  (Eff.copyS rfl Tryz.underlying111 kr (b := hb) (off := 0) (dl := 512) (c := 512) kr (s := (tx (hdS number q ++ shaD (scat (pts number q q.length))))) kr 1 (cs := (bv (List.replicate 512 0))) (te := 37) kr ((hdL number q).length) (by rw [hss]; omega) (by rw [zsz512]; omega)) (fun _ _ => (.cons _ (.cons _ (.cons _ (.cons_cons _ (List.nil_sublist _)))))) ?_
       rintro ⟨⟩ -
       refine CfgA.done kr ?_
       refine Cg (Γ' := [(11,[],pT hb),(4,[],pT rs)]) ?_
       refine Cfg.setO (congrArg (fun (xq : Array Value) => (([(x13,.cells (bv (shaD (scat (pts number q q.length)))) 226 (0,0)),(hb,.cells xq 37 (0,0)),(o,.cells #[.string (tx (hdS number q))] 202 (0,0)),(rs,.cells (bv (List.replicate 512 0)) 37 (0,0))] ++ (Own.o 9 ((pts number q q.length).map Value.string) own ++ [])) : LO)) (show _ = (bv (hdL number q ++ List.replicate (512 - (hdL number q).length) 0)) from (by rw [pts_cat]; exact hd_spl (L := hdL number q) om rfl))) ?_
       refine Cfg.begL rfl ?_
       refine Lp 1 [(dS (.agg (bv (hdL number q ++ List.replicate (512 - (hdL number q).length) 0))))] (some [4,69]) (fun S => [(∀ w1,S w1 → (loadVar 37 ⟨hb,0,none⟩).run Tryz.prog w1 = .ok (.agg (bv (hdL number q ++ List.replicate (512 - (hdL number q).length) 0))) w1)]) ⟨(fun w1 h => h.oload 1 rfl Tryz.underlying37 rfl (n := 512) kr ((bv_size _).trans hfl)),trivial⟩ ?_
       refine Le (Eff.storeN (b := rs) (off := 0) (vs := (bv (hdL number q ++ List.replicate (512 - (hdL number q).length) 0))) (n := 512) rfl kr kr kr ((bv_size _).trans hfl) (all_bv _) 3 (cs := (bv (List.replicate 512 0))) (e := 37) kr (by rw [zsz512]; omega)) ?_
       rintro ⟨⟩ -
       refine CfgL.setO (congrArg (fun (xq : Array Value) => (([(x13,.cells (bv (shaD (scat (pts number q q.length)))) 226 (0,0)),(hb,.cells (bv (hdL number q ++ List.replicate (512 - (hdL number q).length) 0)) 37 (0,0)),(o,.cells #[.string (tx (hdS number q))] 202 (0,0)),(rs,.cells xq 37 (0,0))] ++ (Own.o 9 ((pts number q q.length).map Value.string) own ++ [])) : LO)) (show _ = (bv (hdL number q ++ List.replicate (512 - (hdL number q).length) 0)) from spl_all (((bv_size _).trans hfl).trans zsz512.symm))) ?_
       refine CfgL.done rfl ?_
       refine Cg (Γ' := [(4,[],pT rs)]) ?_
       refine Cfg.ret rfl (rs := [.cell 4 37]) rfl [.agg (bv (hdL number q ++ List.replicate (512 - (hdL number q).length) 0))] ⟨⟨_,by kernel_rfl,(fun w1 h => h.oload 3 rfl Tryz.underlying37 rfl (n := 512) kr ((bv_size _).trans hfl))⟩,trivial⟩ (fun w1 hp => ?_)
       exact ⟨rfl,hp.ext⟩
end Go.Proofs.YtfgdepggdiibdaaGreatDoor
namespace Go.Proofs.YtfgdepggdiibdaaGreatDoor
namespace K
def InF {α : Type} (f : α → List Value) (sz : Nat) (Rl : List (Nat × Obj)) (la : Option Addr) (l : List α) : Prop := InS Rl la (l.length * sz) (fun j => (l.flatMap f).getD j undef)
theorem fl_cell {α : Type} {f : α → List Value} {sz : Nat} {l : List α} (z : α) (hsz : ∀ x ∈ l,(f x).length = sz) {cs : Array Value} {off i : Nat} (hcs : ∀ j,j < l.length * sz → cs[off + j]? = some ((l.flatMap f).getD j undef)) (hi : i < l.length) {j : Nat} {v : Value} (hv : (f (l.getD i z))[j]? = some v) : cs[off + i * sz + j]? = some v := by
 have e : l.getD i z = l[i] := by rw [List.getD_eq_getElem?_getD,List.getElem?_eq_getElem hi]; rfl
 rw [e] at hv
 have hj : j < sz := by have := (List.getElem?_eq_some_iff.1 hv).1; rw [hsz _ (List.getElem_mem hi)] at this; exact this
 have h1 := flat_get f sz hsz hi hj
 have hlt : i * sz + j < l.length * sz := by
  have : i * sz + sz ≤ l.length * sz := by rw [← Nat.succ_mul]; exact Nat.mul_le_mul_right _ hi
  omega
 rw [Nat.add_assoc,hcs _ hlt,List.getD_eq_getElem?_getD,h1,hv]; rfl
theorem flat_len {α : Type} {f : α → List Value} {sz : Nat} : ∀ {l : List α},(∀ x ∈ l,(f x).length = sz) → (l.flatMap f).length = l.length * sz
 | [],_ => by simp
 | x :: l,h => by rw [List.flatMap_cons,List.length_append,h x mH,flat_len (fun y hy => h y (List.mem_cons_of_mem _ hy)),List.length_cons,Nat.succ_mul,Nat.add_comm]
theorem getD_at {α : Type} {l : List α} {i : Nat} {z : α} (h : i < l.length) : l.getD i z = l[i] := by rw [List.getD_eq_getElem?_getD,List.getElem?_eq_getElem h]; rfl
theorem getD_mem {α : Type} {l : List α} {i : Nat} {z : α} (h : i < l.length) : l.getD i z ∈ l := by rw [getD_at h]; exact List.getElem_mem h
section
variable {C : Cx} {R O : List (Nat × Obj)} {Γ : Env} {op : Oper}
end
end K
end Go.Proofs.YtfgdepggdiibdaaGreatDoor
namespace Go.Proofs.YtfgdepggdiibdaaGreatDoor
open K
set_option linter.unusedVariables false
theorem getD_of {α : Type} {l : List α} {i : Nat} (z : α) (h : i < l.length) : l.getD i z = l[i] := by rw [List.getD_eq_getElem?_getD,List.getElem?_eq_getElem h]; rfl
def plL (p : Pl) : List UInt8 := be p.nm.size 1 ++ ((p.nm.data.toList ++ List.replicate (72 - p.nm.size) 0) ++ flat four [p.at_,p.sz])
theorem plL_len {p : Pl} (h : PlOk p) : (plL p).length = 81 := by
 have h1 := h.nm
 have h2 : p.nm.data.toList.length = p.nm.size := ba_len p.nm
 unfold plL
 simp only [List.length_append,be_len,List.length_replicate,h2,flat,List.flatMap_cons,List.flatMap_nil,List.append_nil,four]
 omega
def six (ps : List Pl) (n : Nat) : List Pl := (ps.drop (6 * n)).take 6
theorem six_len {ps : List Pl} {n : Nat} (hl : ps.length = 144) (hn : n < 24) : (six ps n).length = 6 := by unfold six; rw [List.length_take,List.length_drop]; omega
theorem six_at {ps : List Pl} {n i : Nat} (hi : i < 6) : (six ps n).getD i plz = ps.getD (6 * n + i) plz := by
 unfold six
 rw [List.getD_eq_getElem?_getD,List.getElem?_take,if_pos hi,List.getElem?_drop,List.getD_eq_getElem?_getD]
theorem six_in {ps : List Pl} {n : Nat} {p : Pl} (h : p ∈ six ps n) : p ∈ ps := List.mem_of_mem_drop (List.mem_of_mem_take h)
theorem flat81 : ∀ {l : List Pl},(∀ p ∈ l,PlOk p) → (flat plL l).length = 81 * l.length
 | [],_ => rfl
 | p :: l,h => by
  have h1 := plL_len (h p mH)
  have h2 := flat81 (l := l) (fun q hq => h q (List.mem_cons_of_mem _ hq))
  have e : flat plL (p :: l) = plL p ++ flat plL l := by simp [flat]
  rw [e,List.length_append,h1,h2,List.length_cons]; omega
def shL (ps : List Pl) (n : Nat) : List UInt8 := flat plL (six ps n)
def sheetF (ps : List Pl) (n : Nat) : List UInt8 := shL ps n ++ List.replicate (512 - (shL ps n).length) 0
theorem shL_len {ps : List Pl} {n : Nat} (hl : ps.length = 144) (hn : n < 24) (ho : ∀ p ∈ ps,PlOk p) : (shL ps n).length = 486 := by
 unfold shL; rw [flat81 (fun p hp => ho p (six_in hp)),six_len hl hn]
theorem sheetF_len {ps : List Pl} {n : Nat} (hl : ps.length = 144) (hn : n < 24) (ho : ∀ p ∈ ps,PlOk p) : (sheetF ps n).length = 512 := by
 unfold sheetF; rw [List.length_append,List.length_replicate,shL_len hl hn ho]
def tbC (ps : List Pl) (nr rm : Nat) : Array Value := (ps.flatMap plc ++ [Value.map (some nr),Value.pointer (some ⟨rm,0,none⟩)]).toArray
theorem plf_len (ps : List Pl) : (ps.flatMap plc).length = ps.length * 3 := flat_len (fun p _ => plc_len p)
theorem tb_cell {ps : List Pl} {nr rm k j : Nat} {v : Value} (hk : k < ps.length) (hv : (plc (ps.getD k plz))[j]? = some v) : (tbC ps nr rm)[k * 3 + j]? = some v := by
 have hj : j < 3 := (List.getElem?_eq_some_iff.1 hv).1
 unfold tbC
 rw [List.getElem?_toArray,List.getElem?_append_left (by rw [plf_len]; omega)]
 have h := fl_cell (f := plc) (sz := 3) (l := ps) plz (fun p _ => plc_len p) (off := 0) (cs := (ps.flatMap plc).toArray) (fun j hj => by
  rw [Nat.zero_add,List.getElem?_toArray,List.getD_eq_getElem?_getD,List.getElem?_eq_getElem (by rw [plf_len]; exact hj)]; rfl) hk hv
 rwa [Nat.zero_add,List.getElem?_toArray] at h
theorem tb_names {ps : List Pl} {nr rm : Nat} (hl : ps.length = 144) : (tbC ps nr rm)[432]? = some (Value.map (some nr)) := by
 unfold tbC
 rw [List.getElem?_toArray,List.getElem?_append_right (by rw [plf_len]; omega),plf_len,hl]; rfl
theorem tb_room {ps : List Pl} {nr rm : Nat} (hl : ps.length = 144) : (tbC ps nr rm)[433]? = some (Value.pointer (some ⟨rm,0,none⟩)) := by
 unfold tbC
 rw [List.getElem?_toArray,List.getElem?_append_right (by rw [plf_len]; omega),plf_len,hl]; rfl
theorem wByteM (L : List UInt8) (n : Nat) (w : World) (hn : n ≤ 72) (hr : L.length + 1 ≤ 140737488355328) : Calls Tryz.prog 111 #[.agg #[.string (tx L)],.int .u8 ((n : Int) % 256)] w fun e w' => e = .returned (.agg #[.string (tx (L ++ be n 1))]) ∧ Ext [] w w' := by
 rw [show (n : Int) % 256 = (n : Int) by omega]
 exact wByte (tx L) n w om (by rw [tx_size]; exact hr)
theorem fRepM (s : Nat) (w : World) (hs : s ≤ 72) : Calls Tryz.prog 113 #[.string ⟨#[0]⟩,.int .i64 (72 - (s : Int))] w fun e w' => e = .returned (.string (tx (List.replicate (72 - s) 0))) ∧ Ext [] w w' := by
 rw [show (72 - (s : Int)) = ((72 - s : Nat) : Int) by omega]
 exact fRep (72 - s) w om
theorem sh_next {l : List Pl} {i : Nat} (h : i < l.length) : flat plL (l.take (i + 1)) = flat plL (l.take i) ++ plL (l.getD i plz) := by
 rw [List.take_succ_eq_append_getElem h,flat_app,getD_of _ h]; simp [flat]
set_option maxRecDepth 100000 in
set_option maxHeartbeats 4000000 in
theorem fSheet (tb nr rm : Nat) (ps : List Pl) (n : Nat) (w : World) (hR : Has w [(tb,.cells (tbC ps nr rm) 88 (0,0))]) (hl : ps.length = 144) (ho : ∀ p ∈ ps,PlOk p) (hn : n < 24) :
  Calls Tryz.prog 72 #[.pointer (some ⟨tb,0,none⟩),.int .i64 (n : Int)] w fun e w' => e = .returned (.agg (bv (sheetF ps n))) ∧ Ext [] w w' := by
 have hsl := shL_len hl hn ho
 have h6 := six_len hl hn
 have hf8 : ∀ x,(four x).length = 4 := fun x => be_len _ _
 refine enter (vs := [pT tb,.int .i64 (n : Int)]) [] [(tb,.cells (tbC ps nr rm) 88 (0,0))] [] Tryz.func72 rfl kr (HP.ofHas hR) ?_
 refine Cfg.begL rfl ?_
 refine Le (Eff.alloc (z := (.agg (bv (List.replicate 512 0)))) rfl kr) ?_
 rintro rs ⟨hrs,nrs⟩
 refine CfgL.done rfl ?_
 refine Cfg.begL rfl ?_
 refine Lp 1 [(dS (.agg #[.string ByteArray.empty]))] none (fun S => [(∀ w1,S w1 → (Instr.build 202 #[]).run Tryz.prog w1 = .ok (.agg #[.string ByteArray.empty]) w1)]) ⟨(fun _ _ => kr),trivial⟩ ?_
 refine Le (Eff.alloc (z := (.agg #[.string ByteArray.empty])) rfl kr) ?_
 rintro ob ⟨hob,nob⟩
 refine Le (Eff.storeN (b := ob) (off := 0) (vs := #[.string ByteArray.empty]) (n := 1) rfl kr kr kr rfl (by simp [K.one]) 0 (cs := #[.string ByteArray.empty]) (e := 202) kr (by simp)) ?_
 rintro ⟨⟩ -
 refine CfgL.setO (congrArg (fun (xq : Array Value) => ([(ob,.cells xq 202 (0,0)),(rs,.cells (bv (List.replicate 512 0)) 37 (0,0))] : LO)) (show _ = #[.string ByteArray.empty] from rfl)) ?_
 refine CfgL.done rfl ?_
 refine Cg (Γ' := [(5,[],pT ob),(4,[],pT rs),(0,[],pT tb),(1,[],.int .i64 (n : Int))]) ?_
 refine Rg [4,5,18,19,20] [] (fun _ => [(i6 ((n : Int) * 6)),(i6 ((n : Int) + 1)),(i6 (((n : Int) + 1) * 6)),(0 ≤ ((n : Int) * 6)),(0 ≤ (((n : Int) + 1) * 6)),((n * 6) ≤ ((n + 1) * 6) ∧ ((n + 1) * 6) ≤ 144)]) ⟨om,om,om,om,om,om,trivial⟩ ?_
 refine Cfg.setO (congrArg (fun (xq : Array Value) => ([(ob,.cells xq 202 (0,0)),(rs,.cells (bv (List.replicate 512 0)) 37 (0,0))] : LO)) (show _ = #[.string (tx (flat plL ((six ps n).take 0)))] from by rfl)) ?_
 refine Cfg.loop rfl (ι := Nat) (fun (i : Nat) => [(20,[],.int .i64 (i : Int)),(19,[],.int .i64 (((((n + 1) * 6) - ((n * 6))) : Nat) : Int)),(18,[],.slice (some ⟨tb,(if 144 = (n * 6) then 0 else (((n * 6)) * 3)),none⟩) (((n + 1) * 6) - ((n * 6))) (144 - ((n * 6)))),(5,[],pT ob),(4,[],pT rs)]) (fun (i : Nat) => [(ob,.cells #[.string (tx (flat plL ((six ps n).take i)))] 202 (0,0)),(rs,.cells (bv (List.replicate 512 0)) 37 (0,0))]) (fun (i : Nat) => (i ≤ 6)) (fun (i : Nat) => 6 - i) 0 ?_ (Conv.mk kr) (.cons_cons _ (.cons_cons _ .slnil)) ?_
 ·exact Nat.zero_le _
 ·rintro i hi
  refine Rg [4,5,18,19,20,21] [] n0 trivial ?_
  refine Cfg.cond rfl (b := (decide ((i : Int) < (((((n + 1) * 6) - ((n * 6))) : Nat) : Int)))) kr (fun c1r => ?_) (fun c1r => ?_)
  ·have c1 := (dT c1r)
   have hxo : PlOk (ps.getD (6 * n + i) plz) := ho _ (K.getD_mem om)
   have hx1 := hxo.nm
   have hx2 := hxo.at_
   have hx3 := hxo.sz
   have hfl0 : (flat plL ((six ps n).take i)).length = 81 * i := by rw [flat81 (fun p hp => ho p (six_in (List.mem_of_mem_take hp))),List.length_take]; omega
   have hmA : (((ps.getD (6 * n + i) plz).at_ : Int) % 4294967296) = ((ps.getD (6 * n + i) plz).at_ : Int) := by omega
   have hmS : (((ps.getD (6 * n + i) plz).sz : Int) % 4294967296) = ((ps.getD (6 * n + i) plz).sz : Int) := by omega
   refine Cfg.begL rfl ?_
   refine Lp 2 [dZ,(dS (.agg (plc (ps.getD (6 * n + i) plz)).toArray))] (some [4,5,18,19,20,23]) (fun S => [(0 ≤ (i : Int) ∧ (i : Int) < (((((n + 1) * 6) - ((n * 6))) : Nat) : Int)),(∀ w1,S w1 → (loadVar 85 ⟨tb,(addO (if 144 = (n * 6) then 0 else (((n * 6)) * 3)) (i * 3)),none⟩).run Tryz.prog w1 = .ok (.agg (plc (ps.getD (6 * n + i) plz)).toArray) w1)]) ⟨om,(fun w1 h => load_list (vs := plc (ps.getD (6 * n + i) plz)) Tryz.underlying85 rfl kr (plc_len _) (fun q9 v hq9 => h.rcell 0 rfl ((congrArg (fun z => (tbC ps nr rm)[z]?) (show _ = (6 * n + i) * 3 + q9 by rw [addO_eq,if_neg om]; omega)).trans (tb_cell om hq9)))),trivial⟩ ?_
   refine Le (Eff.alloc (z := (.agg (plc plz).toArray)) rfl kr) ?_
   rintro xb ⟨hxb,nxb⟩
   refine Le (Eff.storeN (b := xb) (off := 0) (vs := (plc (ps.getD (6 * n + i) plz)).toArray) (n := 3) rfl kr kr kr rfl (all_plc _) 0 (cs := (plc plz).toArray) (e := 85) kr (Nat.le_refl 3)) ?_
   rintro ⟨⟩ -
   refine CfgL.setO (congrArg (fun (xq : Array Value) => ([(xb,.cells xq 85 (0,0)),(ob,.cells #[.string (tx (flat plL ((six ps n).take i)))] 202 (0,0)),(rs,.cells (bv (List.replicate 512 0)) 37 (0,0))] : LO)) (show _ = ((plc (ps.getD (6 * n + i) plz)).toArray) from (show spl (plc plz).toArray 0 (plc (ps.getD (6 * n + i) plz)).toArray.toList = (plc (ps.getD (6 * n + i) plz)).toArray from spl_all rfl))) ?_
   refine CfgL.done rfl ?_
   refine Cg (Γ' := [(7,[],pT xb),(20,[],.int .i64 (i : Int)),(19,[],.int .i64 (((((n + 1) * 6) - ((n * 6))) : Nat) : Int)),(18,[],.slice (some ⟨tb,(if 144 = (n * 6) then 0 else (((n * 6)) * 3)),none⟩) (((n + 1) * 6) - ((n * 6))) (144 - ((n * 6)))),(5,[],pT ob),(4,[],pT rs)]) ?_
   refine Cfg.begA rfl kr [(xb,.cells ((plc (ps.getD (6 * n + i) plz)).toArray) 85 (0,0)),(rs,.cells (bv (List.replicate 512 0)) 37 (0,0))] ?_
   refine Ap [1,2,3,4,6,7,8,9,10,11] [dZ,(dS (.string (ps.getD (6 * n + i) plz).nm)),dZ,dZ,dZ,(dS (.string (ps.getD (6 * n + i) plz).nm)),dZ,(dS (.string (ps.getD (6 * n + i) plz).nm))] (some [4,5,7,18,19,20,28,31,35]) (bF 4062 16) (.cons_cons _ (.cons _ (.cons_cons _ .slnil))) 6 (fun S => [(cE S xb 0 (.string (ps.getD (6 * n + i) plz).nm)),(cE S xb 0 (.string (ps.getD (6 * n + i) plz).nm)),(cE S xb 0 (.string (ps.getD (6 * n + i) plz).nm)),(i6 (72 - (((ps.getD (6 * n + i) plz).nm.size : Nat) : Int)))]) ⟨(oC 0 rfl rfl),(oC 0 rfl rfl),(oC 0 rfl rfl),om,trivial⟩ ?_
   refine Ae 0 rfl 5  (Eff.quiet (raw := false) (orc := some (.agg #[.string (tx (flat plL ((six ps n).take i)))])) (v := .agg #[.string (tx (flat plL ((six ps n).take i)))]) (nd := (fun S => [(∀ w1,S w1 → (loadVar 202 ⟨ob,0,none⟩).run Tryz.prog w1 = .ok (.agg #[.string (tx (flat plL ((six ps n).take i)))]) w1)])) (fun _ => kr) ⟨(fun w1 h => h.oload 1 rfl Tryz.underlying202 rfl (n := 1) kr rfl),trivial⟩ kr) (fun _ _ => (.cons_cons _ (.cons _ (.cons_cons _ .slnil)))) ?_
   rintro ⟨⟩ -
   refine Ae 5 rfl 4  (Eff.callA (vs := [.agg #[.string (tx (flat plL ((six ps n).take i)))],.int .u8 ((((ps.getD (6 * n + i) plz).nm.size : Nat) : Int) % 256)]) (.agg #[.string (tx ((flat plL ((six ps n).take i)) ++ be (ps.getD (6 * n + i) plz).nm.size 1))]) rfl Tryz.func111 rfl rfl kr (fun w1 _ => wByteM (flat plL ((six ps n).take i)) (ps.getD (6 * n + i) plz).nm.size w1 hx1 (by rw [hfl0]; omega))) (fun _ _ => (.cons_cons _ (.cons _ (.cons_cons _ .slnil)))) ?_
   rintro ⟨⟩ -
   refine Ae 12 rfl 3  (Eff.callA (vs := [.string ⟨#[0]⟩,.int .i64 (72 - (((ps.getD (6 * n + i) plz).nm.size : Nat) : Int))]) (.string (tx (List.replicate (72 - (ps.getD (6 * n + i) plz).nm.size) 0))) rfl Tryz.func113 rfl rfl kr (fun w1 _ => fRepM (ps.getD (6 * n + i) plz).nm.size w1 hx1)) (fun _ _ => (.cons_cons _ (.cons _ (.cons_cons _ .slnil)))) ?_
   rintro ⟨⟩ -
   refine Ae 13 rfl 2  (Eff.buildSlice (e := 9) (cells := #[.string (ps.getD (6 * n + i) plz).nm,.string (tx (List.replicate (72 - (ps.getD (6 * n + i) plz).nm.size) 0))]) (parts := #[(0,.string (ps.getD (6 * n + i) plz).nm),(1,.string (tx (List.replicate (72 - (ps.getD (6 * n + i) plz).nm.size) 0)))]) rfl kr (fun _ => kr)) (fun _ _ => (.cons _ (.cons_cons _ (.cons _ (.cons_cons _ .slnil))))) ?_
   rintro sb ⟨hsb,nsb⟩
   refine Ae 14 rfl 1  (Eff.callA (vs := [.agg #[.string (tx ((flat plL ((six ps n).take i)) ++ be (ps.getD (6 * n + i) plz).nm.size 1))],.slice (some ⟨sb,0,none⟩) 2 2]) (.agg #[.string (tx ((tx ((flat plL ((six ps n).take i)) ++ be (ps.getD (6 * n + i) plz).nm.size 1)).data.toList ++ cat [(ps.getD (6 * n + i) plz).nm,(tx (List.replicate (72 - (ps.getD (6 * n + i) plz).nm.size) 0))]))]) rfl Tryz.func112 rfl rfl kr (fun w1 h => wRaw (tx ((flat plL ((six ps n).take i)) ++ be (ps.getD (6 * n + i) plz).nm.size 1)) (some ⟨sb,0,none⟩) 2 [(ps.getD (6 * n + i) plz).nm,(tx (List.replicate (72 - (ps.getD (6 * n + i) plz).nm.size) 0))] [(sb,.cells (List.map Value.string [(ps.getD (6 * n + i) plz).nm,(tx (List.replicate (72 - (ps.getD (6 * n + i) plz).nm.size) 0))]).toArray 9 (0,0))] w1 (inS_lit sb 9 (0,0) [(ps.getD (6 * n + i) plz).nm,(tx (List.replicate (72 - (ps.getD (6 * n + i) plz).nm.size) 0))]) (h.has (fun e he => mG 0 (by rw [List.mem_singleton.1 he]; rfl))) (by show 2 ≤ maxLen; decide) (by rw [tx_size]; simp only [cat,List.flatMap_cons,List.flatMap_nil,List.append_nil,List.length_append,be_len,ba_len,tx_list,List.length_replicate,hfl0]; omega))) (fun _ _ => (.cons _ (.cons_cons _ (.cons _ (.cons_cons _ .slnil))))) ?_
   rintro ⟨⟩ -
   refine Ae 15 rfl 0  (Eff.storeN (b := ob) (off := 0) (vs := #[.string (tx ((tx ((flat plL ((six ps n).take i)) ++ be (ps.getD (6 * n + i) plz).nm.size 1)).data.toList ++ cat [(ps.getD (6 * n + i) plz).nm,(tx (List.replicate (72 - (ps.getD (6 * n + i) plz).nm.size) 0))]))]) (n := 1) rfl kr kr kr rfl (by simp [K.one]) 2 (cs := #[.string (tx (flat plL ((six ps n).take i)))]) (e := 202) kr (by simp)) (fun _ _ => (.cons _ (.cons_cons _ (.cons _ (.cons_cons _ .slnil))))) ?_
   rintro ⟨⟩ -
   refine CfgA.setO (congrArg (fun (xq : Array Value) => ([(sb,.cells #[.string (ps.getD (6 * n + i) plz).nm,.string (tx (List.replicate (72 - (ps.getD (6 * n + i) plz).nm.size) 0))] 9 (0,0)),(xb,.cells ((plc (ps.getD (6 * n + i) plz)).toArray) 85 (0,0)),(ob,.cells xq 202 (0,0)),(rs,.cells (bv (List.replicate 512 0)) 37 (0,0))] : LO)) (show _ = #[.string (tx ((tx ((flat plL ((six ps n).take i)) ++ be (ps.getD (6 * n + i) plz).nm.size 1)).data.toList ++ cat [(ps.getD (6 * n + i) plz).nm,(tx (List.replicate (72 - (ps.getD (6 * n + i) plz).nm.size) 0))]))] from rfl)) ?_
   refine CfgA.done kr ?_
   refine Cg (Γ' := [(7,[],pT xb),(20,[],.int .i64 (i : Int)),(19,[],.int .i64 (((((n + 1) * 6) - ((n * 6))) : Nat) : Int)),(18,[],.slice (some ⟨tb,(if 144 = (n * 6) then 0 else (((n * 6)) * 3)),none⟩) (((n + 1) * 6) - ((n * 6))) (144 - ((n * 6)))),(5,[],pT ob),(4,[],pT rs)]) ?_
   refine Cfg.begL rfl ?_
   refine Lp 7 [(dS (.agg #[.string (tx ((tx ((flat plL ((six ps n).take i)) ++ be (ps.getD (6 * n + i) plz).nm.size 1)).data.toList ++ cat [(ps.getD (6 * n + i) plz).nm,(tx (List.replicate (72 - (ps.getD (6 * n + i) plz).nm.size) 0))]))])),dZ,(dS (.int .i64 (((ps.getD (6 * n + i) plz).at_ : Nat) : Int))),dZ,dZ,(dS (.int .i64 (((ps.getD (6 * n + i) plz).sz : Nat) : Int)))] (some [4,5,18,19,20,39,42,45]) (fun S => [(∀ w1,S w1 → (loadVar 202 ⟨ob,0,none⟩).run Tryz.prog w1 = .ok (.agg #[.string (tx ((tx ((flat plL ((six ps n).take i)) ++ be (ps.getD (6 * n + i) plz).nm.size 1)).data.toList ++ cat [(ps.getD (6 * n + i) plz).nm,(tx (List.replicate (72 - (ps.getD (6 * n + i) plz).nm.size) 0))]))]) w1),(cE S xb 1 (.int .i64 (((ps.getD (6 * n + i) plz).at_ : Nat) : Int))),(cE S xb 2 (.int .i64 (((ps.getD (6 * n + i) plz).sz : Nat) : Int)))]) ⟨(fun w1 h => h.oload 2 rfl Tryz.underlying202 rfl (n := 1) kr rfl),(oC 1 rfl rfl),(oC 1 rfl rfl),trivial⟩ ?_
   refine Le (Eff.buildSlice (e := 157) (cells := #[.int .u32 ((((ps.getD (6 * n + i) plz).at_ : Nat) : Int) % 4294967296),.int .u32 ((((ps.getD (6 * n + i) plz).sz : Nat) : Int) % 4294967296)]) (parts := #[(0,.int .u32 ((((ps.getD (6 * n + i) plz).at_ : Nat) : Int) % 4294967296)),(1,.int .u32 ((((ps.getD (6 * n + i) plz).sz : Nat) : Int) % 4294967296))]) rfl kr (fun _ => kr)) ?_
   rintro fb ⟨hfb,nfb⟩
   refine Le (Eff.callA (vs := [.agg #[.string (tx ((tx ((flat plL ((six ps n).take i)) ++ be (ps.getD (6 * n + i) plz).nm.size 1)).data.toList ++ cat [(ps.getD (6 * n + i) plz).nm,(tx (List.replicate (72 - (ps.getD (6 * n + i) plz).nm.size) 0))]))],.slice (some ⟨fb,0,none⟩) 2 2]) (.agg #[.string (tx ((tx ((tx ((flat plL ((six ps n).take i)) ++ be (ps.getD (6 * n + i) plz).nm.size 1)).data.toList ++ cat [(ps.getD (6 * n + i) plz).nm,(tx (List.replicate (72 - (ps.getD (6 * n + i) plz).nm.size) 0))])).data.toList ++ flat four [(ps.getD (6 * n + i) plz).at_,(ps.getD (6 * n + i) plz).sz]))]) rfl Tryz.func114 rfl rfl kr (fun w1 h => wFour (tx ((tx ((flat plL ((six ps n).take i)) ++ be (ps.getD (6 * n + i) plz).nm.size 1)).data.toList ++ cat [(ps.getD (6 * n + i) plz).nm,(tx (List.replicate (72 - (ps.getD (6 * n + i) plz).nm.size) 0))])) (some ⟨fb,0,none⟩) 2 [(ps.getD (6 * n + i) plz).at_,(ps.getD (6 * n + i) plz).sz] [(fb,.cells #[.int .u32 ((ps.getD (6 * n + i) plz).at_ : Int),.int .u32 ((ps.getD (6 * n + i) plz).sz : Int)] 157 (0,0))] w1 (fun _ => ⟨fb,0,_,_,_,rfl,mH,fun j hj => by match j,hj with | 0,_ => rfl | 1,_ => rfl⟩) (by have hq := h.own (fb,.cells #[.int .u32 (((ps.getD (6 * n + i) plz).at_ : Int) % 4294967296),.int .u32 (((ps.getD (6 * n + i) plz).sz : Int) % 4294967296)] 157 (0,0)) (mG 0 rfl); rw [hmA,hmS] at hq; intro e he; rw [List.mem_singleton.1 he]; exact hq) (by show 2 ≤ maxLen; decide) (by simp only [tx_size,tx_list,cat,List.flatMap_cons,List.flatMap_nil,List.append_nil,flat,List.length_append,be_len,ba_len,List.length_replicate,four]; have := hfl0; simp only [flat] at this; omega) (fun q => match q with | 0 => hx2 | 1 => (show (ps.getD (6 * n + i) plz).sz < 4294967296 by omega) | _ + 2 => (show 0 < 4294967296 by decide)))) ?_
   rintro ⟨⟩ -
   refine Le (Eff.storeN (b := ob) (off := 0) (vs := #[.string (tx ((tx ((tx ((flat plL ((six ps n).take i)) ++ be (ps.getD (6 * n + i) plz).nm.size 1)).data.toList ++ cat [(ps.getD (6 * n + i) plz).nm,(tx (List.replicate (72 - (ps.getD (6 * n + i) plz).nm.size) 0))])).data.toList ++ flat four [(ps.getD (6 * n + i) plz).at_,(ps.getD (6 * n + i) plz).sz]))]) (n := 1) rfl kr kr kr rfl (by simp [K.one]) 3 (cs := #[.string (tx ((tx ((flat plL ((six ps n).take i)) ++ be (ps.getD (6 * n + i) plz).nm.size 1)).data.toList ++ cat [(ps.getD (6 * n + i) plz).nm,(tx (List.replicate (72 - (ps.getD (6 * n + i) plz).nm.size) 0))]))]) (e := 202) kr (by simp)) ?_
   rintro ⟨⟩ -
   refine CfgL.setO (congrArg (fun (xq : Array Value) => ([(fb,.cells #[.int .u32 ((((ps.getD (6 * n + i) plz).at_ : Nat) : Int) % 4294967296),.int .u32 ((((ps.getD (6 * n + i) plz).sz : Nat) : Int) % 4294967296)] 157 (0,0)),(sb,.cells #[.string (ps.getD (6 * n + i) plz).nm,.string (tx (List.replicate (72 - (ps.getD (6 * n + i) plz).nm.size) 0))] 9 (0,0)),(xb,.cells ((plc (ps.getD (6 * n + i) plz)).toArray) 85 (0,0)),(ob,.cells xq 202 (0,0)),(rs,.cells (bv (List.replicate 512 0)) 37 (0,0))] : LO)) (show _ = #[.string (tx ((tx ((tx ((flat plL ((six ps n).take i)) ++ be (ps.getD (6 * n + i) plz).nm.size 1)).data.toList ++ cat [(ps.getD (6 * n + i) plz).nm,(tx (List.replicate (72 - (ps.getD (6 * n + i) plz).nm.size) 0))])).data.toList ++ flat four [(ps.getD (6 * n + i) plz).at_,(ps.getD (6 * n + i) plz).sz]))] from rfl)) ?_
   refine CfgL.done rfl ?_
   refine Cg (Γ' := [(20,[],.int .i64 (i : Int)),(19,[],.int .i64 (((((n + 1) * 6) - ((n * 6))) : Nat) : Int)),(18,[],.slice (some ⟨tb,(if 144 = (n * 6) then 0 else (((n * 6)) * 3)),none⟩) (((n + 1) * 6) - ((n * 6))) (144 - ((n * 6)))),(5,[],pT ob),(4,[],pT rs)]) ?_
   refine Rg [4,5,18,19,20] [] (fun _ => [(i6 ((i : Int) + 1))]) ⟨om,trivial⟩ ?_
   refine Cfg.setO (congrArg (fun (xq : Array Value) => ([(fb,.cells #[.int .u32 ((((ps.getD (6 * n + i) plz).at_ : Nat) : Int) % 4294967296),.int .u32 ((((ps.getD (6 * n + i) plz).sz : Nat) : Int) % 4294967296)] 157 (0,0)),(sb,.cells #[.string (ps.getD (6 * n + i) plz).nm,.string (tx (List.replicate (72 - (ps.getD (6 * n + i) plz).nm.size) 0))] 9 (0,0)),(xb,.cells ((plc (ps.getD (6 * n + i) plz)).toArray) 85 (0,0)),(ob,.cells xq 202 (0,0)),(rs,.cells (bv (List.replicate 512 0)) 37 (0,0))] : LO)) (show _ = #[.string (tx (flat plL ((six ps n).take (i + 1))))] from by rw [sh_next om,six_at om]; unfold plL; simp only [tx_list,cat,List.flatMap_cons,List.flatMap_nil,List.append_nil,List.append_assoc])) ?_
   refine Cfg.again rfl (i + 1) (show i + 1 ≤ 6 by omega) om (Conv.mk kr) (.cons _ (.cons _ (.cons _ (.cons_cons _ (.cons_cons _ .slnil)))))
  ·have c1 := (dF c1r)
   refine Cfg.begL rfl ?_
   refine Le (Eff.alloc (z := (.agg (bv (List.replicate 512 0)))) rfl kr) ?_
   rintro hb ⟨hhb,nhb⟩
   refine CfgL.done rfl ?_
   refine Cg (Γ' := [(8,[],pT hb),(5,[],pT ob),(4,[],pT rs)]) ?_
   have hi6 : i = 6 := by omega
   have hss : (tx (shL ps n)).size = (shL ps n).length := tx_size _
   have hfl : (shL ps n ++ List.replicate (512 - (shL ps n).length) 0).length = 512 := sheetF_len hl hn ho
   refine Cfg.setO (congrArg (fun (xq : Array Value) => ([(hb,.cells (bv (List.replicate 512 0)) 37 (0,0)),(ob,.cells xq 202 (0,0)),(rs,.cells (bv (List.replicate 512 0)) 37 (0,0))] : LO)) (show _ = #[.string (tx (shL ps n))] from by rw [hi6,List.take_of_length_le om]; rfl)) ?_
   refine Cfg.begA rfl kr [(rs,.cells (bv (List.replicate 512 0)) 37 (0,0))] ?_
   refine Ap [0] [] none (tF 1 3) (.cons _ (.cons _ (.cons_cons _ .slnil))) 3 (fun _ => [(512 ≤ 512)]) ⟨om,trivial⟩ ?_
   refine Ae 1 rfl 2  (Eff.quiet (raw := false) (orc := some (.agg #[.string (tx (shL ps n))])) (v := .agg #[.string (tx (shL ps n))]) (nd := (fun S => [(∀ w1,S w1 → (loadVar 202 ⟨ob,0,none⟩).run Tryz.prog w1 = .ok (.agg #[.string (tx (shL ps n))]) w1)])) (fun _ => kr) ⟨(fun w1 h => h.oload 1 rfl Tryz.underlying202 rfl (n := 1) kr rfl),trivial⟩ kr) (fun _ _ => (.cons _ (.cons _ (.cons_cons _ .slnil)))) ?_
   rintro ⟨⟩ -
   refine Ae 2 rfl 1  (Eff.callA (vs := [.agg #[.string (tx (shL ps n))]]) (.string (tx (shL ps n))) rfl Tryz.func115 rfl rfl kr (fun w1 _ => wString (tx (shL ps n)) w1)) (fun _ _ => (.cons _ (.cons _ (.cons_cons _ .slnil)))) ?_
   rintro ⟨⟩ -
   refine Ae 3 rfl 0  (Eff.copyS rfl Tryz.underlying111 kr (b := hb) (off := 0) (dl := 512) (c := 512) kr (s := (tx (shL ps n))) kr 0 (cs := (bv (List.replicate 512 0))) (te := 37) kr ((shL ps n).length) (by rw [hss]; omega) (by rw [zsz512]; omega)) (fun _ _ => (.cons _ (.cons _ (.cons_cons _ .slnil)))) ?_
   rintro ⟨⟩ -
   refine CfgA.done kr ?_
   refine Cg (Γ' := [(8,[],pT hb),(4,[],pT rs)]) ?_
   refine Cfg.setO (congrArg (fun (xq : Array Value) => ([(hb,.cells xq 37 (0,0)),(ob,.cells #[.string (tx (shL ps n))] 202 (0,0)),(rs,.cells (bv (List.replicate 512 0)) 37 (0,0))] : LO)) (show _ = (bv (shL ps n ++ List.replicate (512 - (shL ps n).length) 0)) from by exact hd_spl om rfl)) ?_
   refine Cfg.begL rfl ?_
   refine Lp 1 [(dS (.agg (bv (shL ps n ++ List.replicate (512 - (shL ps n).length) 0))))] (some [4,53]) (fun S => [(∀ w1,S w1 → (loadVar 37 ⟨hb,0,none⟩).run Tryz.prog w1 = .ok (.agg (bv (shL ps n ++ List.replicate (512 - (shL ps n).length) 0))) w1)]) ⟨(fun w1 h => h.oload 0 rfl Tryz.underlying37 rfl (n := 512) kr ((bv_size _).trans hfl)),trivial⟩ ?_
   refine Le (Eff.storeN (b := rs) (off := 0) (vs := (bv (shL ps n ++ List.replicate (512 - (shL ps n).length) 0))) (n := 512) rfl kr kr kr ((bv_size _).trans hfl) (all_bv _) 2 (cs := (bv (List.replicate 512 0))) (e := 37) kr (by rw [zsz512]; omega)) ?_
   rintro ⟨⟩ -
   refine CfgL.setO (congrArg (fun (xq : Array Value) => ([(hb,.cells (bv (shL ps n ++ List.replicate (512 - (shL ps n).length) 0)) 37 (0,0)),(ob,.cells #[.string (tx (shL ps n))] 202 (0,0)),(rs,.cells xq 37 (0,0))] : LO)) (show _ = (bv (shL ps n ++ List.replicate (512 - (shL ps n).length) 0)) from spl_all (((bv_size _).trans hfl).trans zsz512.symm))) ?_
   refine CfgL.done rfl ?_
   refine Cg (Γ' := [(4,[],pT rs)]) ?_
   refine Cfg.ret rfl (rs := [.cell 4 37]) rfl [.agg (bv (shL ps n ++ List.replicate (512 - (shL ps n).length) 0))] ⟨⟨_,by kernel_rfl,(fun w1 h => h.oload 2 rfl Tryz.underlying37 rfl (n := 512) kr ((bv_size _).trans hfl))⟩,trivial⟩ (fun w1 hp => ?_)
   exact ⟨rfl,hp.ext⟩
end Go.Proofs.YtfgdepggdiibdaaGreatDoor
namespace Go.Proofs.YtfgdepggdiibdaaGreatDoor
open K
set_option linter.unusedVariables false
def rb (fr : List Bool) : List Value := fr.map Value.bool
theorem rb_len (fr : List Bool) : (rb fr).length = fr.length := by simp [rb]
theorem rb_get {fr : List Bool} {i : Nat} (h : i < fr.length) : (rb fr)[i]? = some (.bool (fr.getD i false)) := by simp [rb,List.getElem?_eq_getElem h]
theorem rb_one (fr : List Bool) : ∀ v ∈ rb fr,K.one v = true := by
 intro v hv
 obtain ⟨b,_,rfl⟩ := List.mem_map.1 hv
 rfl
theorem own_zero (b : Nat) : OwnOk (some (b,0,[])) 1 0 [] := ⟨rfl,(fun h => by cases h),(fun p h => by cases h; exact ⟨rfl,Nat.le_refl _⟩)⟩
theorem rb_src {w0 w : World} {M : List Nat} {R O : List (Nat × Obj)} (h : HP w0 M R O w) {b : Nat} {fr : List Bool} {junk : List Value} {t : TypeId} (hm : (b,Obj.cells (rb fr ++ junk).toArray t (0,0)) ∈ R) {j : Nat} {v : Value} (hv : (rb fr)[j]? = some v) : w.cell? ⟨b,0 + j,none⟩ = some v := by
 rw [cell_cells (h.ro _ hm),Nat.zero_add]
 obtain ⟨hj,hx⟩ := List.getElem?_eq_some_iff.1 hv
 simp only [List.getElem?_toArray]
 rw [List.getElem?_append_left hj,hv]
set_option maxRecDepth 100000 in
theorem cloneN (w : World) :
  Calls Tryz.prog 117 #[.slice none 0 0] w fun e w' => e = .returned (.slice none 0 0) ∧ Ext [] w w' := by
 refine enter (vs := [.slice none 0 0]) [] [] [] Tryz.func117 rfl kr (HP.start w) ?_
 refine Rg [0] [] n0 trivial ?_
 refine Rg [0,4] [] n0 trivial ?_
 refine Cfg.condT rfl (b := true) kr rfl ?_
 refine Rg [2] [] n0 trivial ?_
 refine Cfg.ret rfl (rs := [.tmp 2]) rfl [.slice none 0 0] ⟨kr,trivial⟩ (fun w1 hp => ?_)
 exact ⟨rfl,hp.ext⟩
set_option maxRecDepth 100000 in
theorem cloneB (b cap : Nat) (fr : List Bool) (junk : List Value) (w : World) (hn : 0 < fr.length) (hm : fr.length ≤ 4096) (hR : Has w [(b,.cells (rb fr ++ junk).toArray 4 (0,0))]) :
  Calls Tryz.prog 117 #[.slice (some ⟨b,0,none⟩) fr.length cap] w fun e w' => ∃ o : K.Own,OwnOk o 1 fr.length (rb fr) ∧ e = .returned (.slice o.a fr.length o.c) ∧ Has w' (o.o 4 (rb fr)) ∧ (∀ x ∈ o.o 4 (rb fr),w.heap.size ≤ x.1) ∧ Ext [] w w' := by
 refine enter (vs := [.slice (some ⟨b,0,none⟩) fr.length cap]) [] [(b,.cells ((rb fr ++ junk).toArray) 4 (0,0))] [] Tryz.func117 rfl kr (HP.ofHas hR) ?_
 refine Rg [0] [] n0 trivial ?_
 refine Rg [0,4] [] n0 trivial ?_
 refine Cfg.condF rfl (b := false) kr rfl ?_
 refine Cfg.begL rfl ?_
 refine Le (Eff.buildSlice (e := 4) (cells := #[]) (parts := #[]) rfl kr (fun _ => kr)) ?_
 rintro z ⟨hz,nz⟩
 refine Lp 1 [] (some [5,6]) n0 trivial ?_
 refine Le (Eff.appendF rfl 1 1 Tryz.underlying149 kr (z := .bool false) kr rfl (some (z,0,[])) (n := 0) (xs := []) (own_zero z) kr (b2 := b) (off2 := 0) (m := fr.length) (c2 := cap) kr (rb fr) (by rw [rb_len,Nat.mul_one]) (rb_one fr) [] [] rfl (fun w1 h j v hj => rb_src h mH hj) om om) ?_
 rintro o ko
 refine Lp 1 [] (some [2]) n0 trivial ?_
 refine CfgL.done rfl ?_
 refine Cfg.ret rfl (rs := [.tmp 2]) rfl [.slice (Own.a o) ((0 + fr.length)) (Own.c o)] ⟨kr,trivial⟩ (fun w1 hp => ?_)
 have ko2 := ko
 rw [Nat.zero_add] at ko2
 exact ⟨o,ko2,by rw [Nat.zero_add]; rfl,fun x hx => hp.own x (by simpa using hx),fun x hx => (hp.mine x (by simpa using hx)).resolve_right (fun h => by cases h),hp.ext⟩
end Go.Proofs.YtfgdepggdiibdaaGreatDoor
namespace Go.Proofs.YtfgdepggdiibdaaGreatDoor
open K
set_option linter.unusedVariables false
def spO (s : Nat) (f : Int) (o : K.Own) (fr : List Bool) : List (Nat × Obj) := (s,.cells #[.int .i64 f,.slice (Own.a o) fr.length (Own.c o)] 151 (0,0)) :: Own.o 4 (rb fr) o
def inP (f : Int) (n : Nat) (p : Int) : Bool := decide (f ≤ p ∧ p < f + n)
def I64 (x : Int) : Prop := -9223372036854775808 ≤ x ∧ x ≤ 9223372036854775807
set_option maxRecDepth 100000 in
theorem place (s : Nat) (f p : Int) (o : K.Own) (fr : List Bool) (w : World) (hf : I64 f) (hpI : I64 p) (hm : fr.length ≤ 4096) (hR : Has w [(s,.cells #[.int .i64 f,.slice (Own.a o) fr.length (Own.c o)] 151 (0,0))]) :
  Calls Tryz.prog 132 #[.pointer (some ⟨s,0,none⟩),.int .i64 p] w fun e w' => e = .returned (.tuple #[.int .i64 (if inP f fr.length p then p - f else 0),.bool (inP f fr.length p)]) ∧ Ext [] w w' := by
 unfold I64 at hf hpI
 refine enter (vs := [pT s,.int .i64 p]) [] [(s,.cells #[.int .i64 f,.slice (Own.a o) fr.length (Own.c o)] 151 (0,0))] [] Tryz.func132 rfl kr (HP.ofHas hR) ?_
 refine Rg [0,1] [] n0 trivial ?_
 refine Cfg.regD rfl kr [0,1,32] [dZ,dZ,dZ,(1,false,none),(1,false,none),(1,false,none),(1,false,none),(1,false,some (.int .i64 f)),(1,false,none),dZ,dZ,dZ,dZ,dZ,dZ,dZ,(dS (.int .i64 f)),dZ,dZ,dZ,dZ,dZ,(dS (.slice (Own.a o) fr.length (Own.c o)))] (Γ' := [(32,[],.bool ((decide (p < f)) || (decide ((((p % 18446744073709551616) - (f % 18446744073709551616)) % 18446744073709551616) ≥ ((fr.length : Int) % 18446744073709551616))))),(0,[],pT s),(1,[],.int .i64 p)]) (nd := (fun S => [((.bool false : Value) = .bool false),((.bool false : Value) = .bool false),((.bool false : Value) = .bool false),((.bool false : Value) = .bool false),((.bool false : Value) = .bool false),(cE S s 0 (.int .i64 f)),((.bool false : Value) = .bool false),((.bool (decide (p < f)) : Value) = .bool false → (cE S s 0 (.int .i64 f))),((.bool (decide (p < f)) : Value) = .bool false → (cE S s 1 (.slice (Own.a o) fr.length (Own.c o))))])) kr kr (fun _ => kr) ⟨rfl,rfl,rfl,rfl,rfl,(rC 0 rfl rfl),rfl,(fun g0 => have q0 : (¬ (p < f)) := (dF (boolV g0)); (rC 0 rfl rfl)),(fun g0 => have q0 : (¬ (p < f)) := (dF (boolV g0)); (rC 0 rfl rfl)),trivial⟩ ?_
 refine Cfg.cond rfl (b := ((decide (p < f)) || (decide ((((p % 18446744073709551616) - (f % 18446744073709551616)) % 18446744073709551616) ≥ ((fr.length : Int) % 18446744073709551616))))) kr (fun c1r => ?_) (fun c1r => ?_)
 ·have c1 : ((p < f) ∨ ((((p % 18446744073709551616) - (f % 18446744073709551616)) % 18446744073709551616) ≥ ((fr.length : Int) % 18446744073709551616))) := ((orT c1r).elim (fun h => Or.inl (dT h)) (fun h => Or.inr (dT h)))
  refine Rg [4,5] [] n0 trivial ?_
  refine Cfg.ret rfl (rs := [.tmp 4,.tmp 5]) rfl [.int .i64 0,.bool false] ⟨kr,by kernel_rfl,trivial⟩ (fun w1 hp => ?_)
  have hin : inP f fr.length p = false := by
   unfold inP
   simp at c1r
   simp
   omega
  rw [hin]
  exact ⟨rfl,hp.ext⟩
 ·have c1 : ((¬ (p < f)) ∧ (¬ ((((p % 18446744073709551616) - (f % 18446744073709551616)) % 18446744073709551616) ≥ ((fr.length : Int) % 18446744073709551616)))) := ⟨(dF (orF1 c1r)),(dF (orF2 c1r))⟩
  refine Rg [4,5] [dZ,dZ,dZ,dZ,(dS (.int .i64 f))] (fun S => [(cE S s 0 (.int .i64 f)),(i6 (p - f))]) ⟨(rC 0 rfl rfl),om,trivial⟩ ?_
  refine Cfg.ret rfl (rs := [.tmp 4,.tmp 5]) rfl [.int .i64 (p - f),.bool true] ⟨kr,by kernel_rfl,trivial⟩ (fun w1 hp => ?_)
  have hin : inP f fr.length p = true := by
   unfold inP
   simp at c1r
   simp
   omega
  rw [hin]
  exact ⟨rfl,hp.ext⟩
end Go.Proofs.YtfgdepggdiibdaaGreatDoor
namespace Go.Proofs.YtfgdepggdiibdaaGreatDoor
open K
set_option linter.unusedVariables false
def spC (s : Nat) (f : Int) (x : Nat × Nat × List Value) (fr : List Bool) : List (Nat × Obj) := [(s,.cells #[.int .i64 f,.slice (some ⟨x.1,0,none⟩) fr.length x.2.1] 151 (0,0)),(x.1,.cells (rb fr ++ x.2.2).toArray 4 (0,0))]
def ra (l : List (Int × Int)) (i : Nat) : Int := (l.getD i (0,0)).1
def rl (l : List (Int × Int)) (i : Nat) : Int := (l.getD i (0,0)).2
def rcell (l : List (Int × Int)) (j : Nat) : Value := .int .i64 (if j % 2 = 0 then ra l (j / 2) else rl l (j / 2))
theorem load_run {P : Program} {w : World} {b off : Nat} {ty : TypeId} {d : TypeDesc} {v0 v1 : Value} (hu : P.underlying ty = some d) (hd : (match d with | .struct _ | .array _ _ => true | _ => false) = true) (hi : (P.info? ty).map (·.size) = some 2)
  (h0 : w.cell? ⟨b,off,none⟩ = some v0) (h1 : w.cell? ⟨b,off + 1,none⟩ = some v1) : (loadVar ty ⟨b,off,none⟩).run P w = .ok (.agg #[v0,v1]) w := by
 obtain ⟨inf,hinf,hs⟩ := Option.map_eq_some_iff.1 hi
 have h1 := K.run_loadCells (P := P) (w := w) (b := b) (off := off) (n := 2) (fun j => if j = 0 then v0 else v1) (fun j hj => by
  match j,hj with
  | 0,_ => exact h0
  | 1,_ => exact h1)
 have h3 : (isAgg ty).run P w = .ok true w := by
  simp only [isAgg,Sem.run_bind,run_underlying' hu,Result.andThen_ok]
  cases d <;> simp_all
 have h4 : (sizeOf ty).run P w = .ok 2 w := by rw [run_sizeOf' hinf,hs]
 have h2 : ((List.range 2).map fun j => if j = 0 then v0 else v1).toArray = #[v0,v1] := rfl
 rw [h2] at h1
 simp [loadVar,h3,h4,h1]
theorem run_at {w0 w : World} {M : List Nat} {R O : List (Nat × Obj)} (h : HP w0 M R O w) {sb off : Nat} {cs : Array Value} {te : TypeId} {fre : Nat × Nat} (hm : (sb,Obj.cells cs te fre) ∈ R) {l : List (Int × Int)} (hcs : ∀ j,j < 2 * l.length → cs[off + j]? = some (rcell l j)) {i : Nat} (hi : i < l.length) :
  (loadVar 117 ⟨sb,off + i * 2,none⟩).run Tryz.prog w = .ok (.agg #[.int .i64 (ra l i),.int .i64 (rl l i)]) w := by
 refine load_run Tryz.underlying117 rfl kr ?_ ?_
 ·rw [cell_cells (h.ro _ hm),hcs (i * 2) om]
  unfold rcell
  rw [if_pos om,show i * 2 / 2 = i by omega]
 ·rw [cell_cells (h.ro _ hm),Nat.add_assoc,hcs (i * 2 + 1) om]
  unfold rcell
  rw [if_neg om,show (i * 2 + 1) / 2 = i by omega]
def loopF (tz : Bool) (k : Nat) : Nat → Nat → List Bool → Nat × List Bool
 | 0,_,nx => (0,nx)
 | c + 1,n,nx => if nx.length ≤ k + n then (2,nx) else if nx.getD (k + n) false == tz then (17,nx) else loopF tz k c (n + 1) (nx.set (k + n) tz)
def turnF (f : Int) (nn : Nat) (tz : Bool) : List (Int × Int) → List Bool → Nat × List Bool
 | [],nx => (0,nx)
 | r :: l,nx => if r.2 < 1 then (2,nx) else if inP f nn r.1 then (if (loopF tz (r.1 - f).toNat r.2.toNat 0 nx).1 = 0 then turnF f nn tz l (loopF tz (r.1 - f).toNat r.2.toNat 0 nx).2 else loopF tz (r.1 - f).toNat r.2.toNat 0 nx) else (2,nx)
def turnR (f : Int) (tz : Bool) (l : List (Int × Int)) (fr : List Bool) : List Bool := if (turnF f fr.length tz l fr).1 = 0 then (turnF f fr.length tz l fr).2 else fr
theorem turn_step {f : Int} {nn : Nat} {tz : Bool} {l : List (Int × Int)} {nx : List Bool} {i : Nat} (hi : i < l.length) : turnF f nn tz (l.drop i) nx = if rl l i < 1 then (2,nx) else if inP f nn (ra l i) then (if (loopF tz (ra l i - f).toNat (rl l i).toNat 0 nx).1 = 0 then turnF f nn tz (l.drop (i + 1)) (loopF tz (ra l i - f).toNat (rl l i).toNat 0 nx).2 else loopF tz (ra l i - f).toNat (rl l i).toNat 0 nx) else (2,nx) := by
 rw [List.drop_eq_getElem_cons hi,turnF]
 have e : l.getD i (0,0) = l[i] := by simp [List.getElem?_eq_getElem hi]
 unfold ra rl
 rw [e]
theorem loop_step {tz : Bool} {k m n : Nat} {ny : List Bool} (h : n < m) : loopF tz k (m - n) n ny = if ny.length ≤ k + n then (2,ny) else if ny.getD (k + n) false == tz then (17,ny) else loopF tz k (m - (n + 1)) (n + 1) (ny.set (k + n) tz) := by
 rw [show m - n = (m - (n + 1)) + 1 by omega,loopF]
theorem loop_end {tz : Bool} {k m n : Nat} {ny : List Bool} (h : m ≤ n) : loopF tz k (m - n) n ny = (0,ny) := by
 rw [show m - n = 0 by omega,loopF]
theorem rb_set (ny : List Bool) (j2 : List Value) {i : Nat} (h : i < ny.length) (b : Bool) : (rb ny ++ j2).toArray.setIfInBounds i (.bool b) = (rb (ny.set i b) ++ j2).toArray := by
 rw [List.setIfInBounds_toArray,List.set_append_left _ _ (by rw [rb_len]; exact h)]
 unfold rb
 rw [List.map_set]
theorem rb_cell (ny : List Bool) (j2 : List Value) {i : Nat} (h : i < ny.length) : (rb ny ++ j2).toArray[i]? = some (.bool (ny.getD i false)) := by
 rw [List.getElem?_toArray,List.getElem?_append_left (by rw [rb_len]; exact h),rb_get h]
theorem two_one {a b : Value} (h1 : one a = true) (h2 : one b = true) : ∀ v ∈ (#[a,b] : Array Value).toList,K.one v = true := by
 intro v hv
 simp at hv
 rcases hv with rfl | rfl <;> assumption
set_option maxRecDepth 100000 in
theorem turnC (s b cp : Nat) (jk : List Value) (f : Int) (fr : List Bool) (tz : Bool) (la : Option Addr) (cap : Nat) (l : List (Int × Int)) (Rl : List (Nat × Obj)) (w : World) (hf : I64 f) (hm : fr.length ≤ 4096) (hn : 0 < fr.length) (hI : InS Rl la (2 * l.length) (rcell l)) (hl : l.length ≤ maxLen) (h1 : ∀ i,I64 (ra l i)) (h2 : ∀ i,I64 (rl l i)) (hA : Has w (spC s f (b,cp,jk) fr)) (hd : ((spC s f (b,cp,jk) fr).map (·.1)).Nodup) (hRl : Has w Rl) (hnr : ∀ e ∈ Rl,e.1 ∉ (spC s f (b,cp,jk) fr).map (·.1)) :
  Calls Tryz.prog 110 #[.pointer (some ⟨s,0,none⟩),.bool tz,.slice la l.length cap] w fun e w' => ∃ x : Nat × Nat × List Value,e = .returned (.int .i64 ((turnF f fr.length tz l fr).1 : Int)) ∧ ∃ R1,HP w [s,b] R1 (spC s f x (turnR f tz l fr)) w' := by
 unfold maxLen at hl
 unfold I64 at hf h1 h2
 refine enter (vs := [pT s,.bool tz,.slice la l.length cap]) [s,b] Rl [(s,.cells #[.int .i64 f,.slice (some ⟨b,0,none⟩) fr.length cp] 151 (0,0)),(b,.cells ((rb fr ++ jk).toArray) 4 (0,0))] Tryz.func110 rfl kr (HP.ofL hA hd hRl hnr) ?_
 refine Rg [0,1,2] [] n0 trivial ?_
 refine Rg [0,1,2,14] [] n0 trivial ?_
 refine Cfg.condF rfl (b := false) kr rfl ?_
 refine Cfg.begL rfl ?_
 refine Lp 4 [dZ,dZ,dZ,(dS (.slice (some ⟨b,0,none⟩) fr.length cp))] (some [0,1,2,18]) (fun S => [(cE S s 1 (.slice (some ⟨b,0,none⟩) fr.length cp))]) ⟨(oC 0 rfl rfl),trivial⟩ ?_
 refine Le (Eff.callOF (vs := [.slice (some ⟨b,0,none⟩) fr.length cp]) 4 1 fr.length (rb fr) [] [(s,.cells #[.int .i64 f,.slice (some ⟨b,0,none⟩) fr.length cp] 151 (0,0)),(b,.cells ((rb fr ++ jk).toArray) 4 (0,0))] rfl rfl Tryz.func117 rfl rfl kr (fun w1 h => cloneB b cp fr jk w1 hn hm (h.has (fun e he => by rw [List.mem_singleton.1 he]; exact mG 1 rfl)))) ?_
 rintro o2 ko2
 obtain ⟨⟨b2,cq2,j2⟩,rfl⟩ := own_some ko2 hn
 refine CfgL.setO (O' := [(b2,.cells ((rb fr ++ j2).toArray) 4 (0,0)),(s,.cells #[.int .i64 f,.slice (some ⟨b,0,none⟩) fr.length cp] 151 (0,0)),(b,.cells ((rb fr ++ jk).toArray) 4 (0,0))]) rfl ?_
 refine Lp 1 [] (some [0,1,2,7]) n0 trivial ?_
 refine CfgL.done rfl ?_
 refine Rg [0,1,7,20,21,22] [] n0 trivial ?_
 refine Cfg.loop rfl (ι := Nat × List Bool) (fun (xz : Nat × List Bool) => match xz with | (i,nx) => [(22,[],.int .i64 (i : Int)),(21,[],.int .i64 (l.length : Int)),(20,[],.slice la l.length cap),(7,[],.slice (some ⟨b2,0,none⟩) fr.length cq2),(0,[],pT s),(1,[],.bool tz)]) (fun (xz : Nat × List Bool) => match xz with | (i,nx) => [(b2,.cells ((rb nx ++ j2).toArray) 4 (0,0)),(s,.cells #[.int .i64 f,.slice (some ⟨b,0,none⟩) fr.length cp] 151 (0,0)),(b,.cells ((rb fr ++ jk).toArray) 4 (0,0))]) (fun (xz : Nat × List Bool) => match xz with | (i,nx) => (i ≤ l.length) ∧ (nx.length = fr.length) ∧ (turnF f fr.length tz (l.drop i) nx = turnF f fr.length tz l fr)) (fun (xz : Nat × List Bool) => match xz with | (i,nx) => l.length - i) (0,fr) ?_ (Conv.mk kr) (.cons_cons _ (.cons_cons _ (.cons_cons _ .slnil))) ?_
 ·exact ⟨Nat.zero_le _,rfl,rfl⟩
 ·rintro ⟨i,nx⟩ ⟨hi,hnx,hT⟩
  refine Rg [0,1,7,20,21,22,23] [] n0 trivial ?_
  refine Cfg.cond rfl (b := (decide ((i : Int) < (l.length : Int)))) kr (fun c2r => ?_) (fun c2r => ?_)
  ·have c2 := (dT c2r)
   obtain ⟨sb,off,cs,te,fre,rfl,hmem,hcs⟩ := hI om
   refine Conv.cfg (Γ' := [(23,[],.bool (decide ((i : Int) < (l.length : Int)))),(22,[],.int .i64 (i : Int)),(21,[],.int .i64 (l.length : Int)),(20,[],.slice (some ⟨sb,off,none⟩) l.length cap),(7,[],.slice (some ⟨b2,0,none⟩) fr.length cq2),(0,[],pT s),(1,[],.bool tz)]) (Conv.mk kr) ?_
   refine Cfg.begL rfl ?_
   refine Lp 2 [dZ,(dS (.agg #[.int .i64 (ra l i),.int .i64 (rl l i)]))] (some [0,1,7,20,21,22,25]) (fun S => [(0 ≤ (i : Int) ∧ (i : Int) < (l.length : Int)),(∀ w1,S w1 → (loadVar 117 ⟨sb,(addO off (i * 2)),none⟩).run Tryz.prog w1 = .ok (.agg #[.int .i64 (ra l i),.int .i64 (rl l i)]) w1)]) ⟨om,(fun w1 h => by rw [addO_eq]; exact run_at h hmem hcs om),trivial⟩ ?_
   refine Le (Eff.alloc (z := (.agg #[.int .i64 0,.int .i64 0])) rfl kr) ?_
   rintro t9 ⟨ht9,nt9⟩
   refine Le (Eff.storeN (b := t9) (off := 0) (vs := #[.int .i64 (ra l i),.int .i64 (rl l i)]) (n := 2) rfl kr kr kr rfl (two_one rfl rfl) 0 (cs := #[.int .i64 0,.int .i64 0]) (e := 117) kr (Nat.le_refl 2)) ?_
   rintro ⟨⟩ -
   refine CfgL.setO (congrArg (fun (xq : Array Value) => ([(t9,.cells xq 117 (0,0)),(b2,.cells ((rb nx ++ j2).toArray) 4 (0,0)),(s,.cells #[.int .i64 f,.slice (some ⟨b,0,none⟩) fr.length cp] 151 (0,0)),(b,.cells ((rb fr ++ jk).toArray) 4 (0,0))] : LO)) (show _ = #[.int .i64 (ra l i),.int .i64 (rl l i)] from rfl)) ?_
   refine CfgL.done rfl ?_
   refine Cg (Γ' := [(9,[],pT t9),(22,[],.int .i64 (i : Int)),(21,[],.int .i64 (l.length : Int)),(20,[],.slice (some ⟨sb,off,none⟩) l.length cap),(7,[],.slice (some ⟨b2,0,none⟩) fr.length cq2),(0,[],pT s),(1,[],.bool tz)]) ?_
   refine Rg [0,1,7,9,20,21,22,28] [dZ,(dS (.int .i64 (rl l i)))] (fun S => [(cE S t9 1 (.int .i64 (rl l i)))]) ⟨(oC 0 rfl rfl),trivial⟩ ?_
   refine Cfg.cond rfl (b := (decide ((rl l i) < (1 : Int)))) kr (fun c3r => ?_) (fun c3r => ?_)
   ·have c3 := (dT c3r)
    refine Rg [6] [] n0 trivial ?_
    refine Cfg.ret rfl (rs := [.tmp 6]) rfl [.int .i64 2] ⟨kr,trivial⟩ (fun w1 hp => ?_)
    have he : (turnF f fr.length tz l fr).1 = 2 := by rw [← hT,turn_step om,if_pos om]
    have hr : turnR f tz l fr = fr := by unfold turnR; rw [he,if_neg (by decide)]
    rw [he,hr]
    exact ⟨(b,cp,jk),rfl,_,hp.sub (.cons _ (.cons _ slr))⟩
   ·have c3 := (dF c3r)
    refine Cfg.begL rfl ?_
    refine Lp 3 [dZ,dZ,(dS (.int .i64 (ra l i)))] (some [0,1,7,9,20,21,22,30,32]) (fun S => [(cE S t9 0 (.int .i64 (ra l i)))]) ⟨(oC 0 rfl rfl),trivial⟩ ?_
    refine Le (Eff.callA (vs := [pT s,.int .i64 (ra l i)]) (.tuple #[.int .i64 (if inP f fr.length (ra l i) then ra l i - f else 0),.bool (inP f fr.length (ra l i))]) rfl Tryz.func132 rfl rfl kr (fun w1 h => place s f (ra l i) (some (b,cp,jk)) fr w1 hf (h1 i) hm (h.has (fun e he => by rw [List.mem_singleton.1 he]; exact mG 2 rfl)))) ?_
    rintro ⟨⟩ -
    refine Lp 5 [] (some [0,1,7,9,10,11,20,21,22]) n0 trivial ?_
    refine CfgL.done rfl ?_
    refine Rg [0,1,7,9,10,20,21,22,37] [] n0 trivial ?_
    refine Cfg.cond rfl (b := (!(inP f fr.length (ra l i)))) kr (fun c4r => ?_) (fun c4r => ?_)
    ·have c4 : ((inP f fr.length (ra l i)) = false) := (notT c4r)
     refine Rg [6] [] n0 trivial ?_
     refine Cfg.ret rfl (rs := [.tmp 6]) rfl [.int .i64 2] ⟨kr,trivial⟩ (fun w1 hp => ?_)
     have he : (turnF f fr.length tz l fr).1 = 2 := by rw [← hT,turn_step om,if_neg om,if_neg (by simpa using c4r)]
     have hr : turnR f tz l fr = fr := by unfold turnR; rw [he,if_neg (by decide)]
     rw [he,hr]
     exact ⟨(b,cp,jk),rfl,_,hp.sub (.cons _ (.cons _ slr))⟩
    ·have c4 : ((inP f fr.length (ra l i)) = true) := (notF c4r)
     have hin : inP f fr.length (ra l i) = true := by simpa using c4r
     have hin2 : f ≤ ra l i ∧ ra l i < f + (fr.length : Int) := by simpa [inP] using hin
     obtain ⟨k0,hk0,hk1⟩ : ∃ k0 : Nat,ra l i - f = (k0 : Int) ∧ k0 < fr.length := ⟨(ra l i - f).toNat,by omega,by omega⟩
     refine Cfg.setS 10 (congrArg (fun (xq : Int) => (.int .i64 xq : Value)) (show (if inP f fr.length (ra l i) then ra l i - f else 0) = (k0 : Int) from (by rw [if_pos hin]; exact hk0))) ?_
     refine Rg [0,1,7,10,20,21,22,39,40] [dZ,(dS (.int .i64 (rl l i)))] (fun S => [(cE S t9 1 (.int .i64 (rl l i)))]) ⟨(oC 0 rfl rfl),trivial⟩ ?_
     refine Cfg.loop rfl (ι := Nat × List Bool) (fun (xz : Nat × List Bool) => match xz with | (n,ny) => [(40,[],.int .i64 (n : Int)),(39,[],.int .i64 (rl l i)),(10,[],.int .i64 (k0 : Int)),(22,[],.int .i64 (i : Int)),(21,[],.int .i64 (l.length : Int)),(20,[],.slice (some ⟨sb,off,none⟩) l.length cap),(7,[],.slice (some ⟨b2,0,none⟩) fr.length cq2),(0,[],pT s),(1,[],.bool tz)]) (fun (xz : Nat × List Bool) => match xz with | (n,ny) => [(b2,.cells ((rb ny ++ j2).toArray) 4 (0,0)),(s,.cells #[.int .i64 f,.slice (some ⟨b,0,none⟩) fr.length cp] 151 (0,0)),(b,.cells ((rb fr ++ jk).toArray) 4 (0,0))]) (fun (xz : Nat × List Bool) => match xz with | (n,ny) => ((n : Int) ≤ rl l i) ∧ (k0 + n ≤ fr.length) ∧ (ny.length = fr.length) ∧ (loopF tz k0 ((rl l i).toNat - n) n ny = loopF tz k0 (rl l i).toNat 0 nx)) (fun (xz : Nat × List Bool) => match xz with | (n,ny) => (rl l i).toNat - n) (0,nx) ?_ (Conv.mk kr) (.cons _ (.cons_cons _ (.cons_cons _ (.cons_cons _ .slnil)))) ?_
     ·exact ⟨by show ((0 : Nat) : Int) ≤ _; omega,by show k0 + 0 ≤ _; omega,hnx,rfl⟩
     ·rintro ⟨n,ny⟩ ⟨hn2,hkn,hny,hL⟩
      refine Rg [0,1,7,10,20,21,22,39,40,41] [] n0 trivial ?_
      refine Cfg.cond rfl (b := (decide ((n : Int) < (rl l i)))) kr (fun c5r => ?_) (fun c5r => ?_)
      ·have c5 := (dT c5r)
       refine Rg [0,1,7,10,12,20,21,22,39,40] [] n0 trivial ?_
       refine Rg [0,1,7,10,12,20,21,22,39,40,48] [] (fun _ => [(i6 ((k0 : Int) + (n : Int)))]) ⟨om,trivial⟩ ?_
       refine Cfg.cond rfl (b := (decide (((k0 : Int) + (n : Int)) ≥ (fr.length : Int)))) kr (fun c6r => ?_) (fun c6r => ?_)
       ·have c6 := (dT c6r)
        refine Rg [6] [] n0 trivial ?_
        refine Cfg.ret rfl (rs := [.tmp 6]) rfl [.int .i64 2] ⟨kr,trivial⟩ (fun w1 hp => ?_)
        have hx : loopF tz k0 (rl l i).toNat 0 nx = (2,ny) := by rw [← hL,loop_step (show n < (rl l i).toNat by omega),if_pos om]
        have he : (turnF f fr.length tz l fr).1 = 2 := by rw [← hT,turn_step om,if_neg om,if_pos hin,hk0,Int.toNat_natCast,hx]; rfl
        have hr : turnR f tz l fr = fr := by unfold turnR; rw [he,if_neg (by decide)]
        rw [he,hr]
        exact ⟨(b,cp,jk),rfl,_,hp.sub (.cons _ slr)⟩
       ·have c6 := (dF c6r)
        refine Rg [0,1,7,10,12,20,21,22,39,40,56] [dZ,dZ,dZ,dZ,dZ,(dS (.bool (ny.getD (k0 + n) false)))] (fun S => [(i6 ((k0 : Int) + (n : Int))),(0 ≤ ((k0 : Int) + (n : Int)) ∧ ((k0 : Int) + (n : Int)) < (fr.length : Int)),(cE S b2 (k0 + n) (.bool (ny.getD (k0 + n) false)))]) ⟨om,om,(fun w1 h => h.ocell 0 rfl (rb_cell ny j2 om)),trivial⟩ ?_
        refine Cfg.cond rfl (b := ((ny.getD (k0 + n) false) == tz)) kr (fun c7r => ?_) (fun c7r => ?_)
        ·have c7 : (((ny.getD (k0 + n) false) == tz) = true) := c7r
         refine Rg [6] [] n0 trivial ?_
         refine Cfg.ret rfl (rs := [.tmp 6]) rfl [.int .i64 17] ⟨kr,trivial⟩ (fun w1 hp => ?_)
         have hx : loopF tz k0 (rl l i).toNat 0 nx = (17,ny) := by rw [← hL,loop_step (show n < (rl l i).toNat by omega),if_neg om,if_pos c7r]
         have he : (turnF f fr.length tz l fr).1 = 17 := by rw [← hT,turn_step om,if_neg om,if_pos hin,hk0,Int.toNat_natCast,hx]; rfl
         have hr : turnR f tz l fr = fr := by unfold turnR; rw [he,if_neg (by decide)]
         rw [he,hr]
         exact ⟨(b,cp,jk),rfl,_,hp.sub (.cons _ slr)⟩
        ·have c7 : (((ny.getD (k0 + n) false) == tz) = false) := c7r
         refine Cfg.begL rfl ?_
         refine CfgL.pure 6 [] (some [0,1,7,10,20,21,22,39,40,61,62]) (Γ' := [(62,[],.pointer (some ⟨b2,(k0 + n),none⟩)),(61,[],.bool tz),(40,[],.int .i64 (n : Int)),(39,[],.int .i64 (rl l i)),(10,[],.int .i64 (k0 : Int)),(22,[],.int .i64 (i : Int)),(21,[],.int .i64 (l.length : Int)),(20,[],.slice (some ⟨sb,off,none⟩) l.length cap),(7,[],.slice (some ⟨b2,0,none⟩) fr.length cq2),(0,[],pT s),(1,[],.bool tz)]) (nd := (fun _ => [(i6 ((k0 : Int) + (n : Int))),(0 ≤ ((k0 : Int) + (n : Int)) ∧ ((k0 : Int) + (n : Int)) < (fr.length : Int))])) kr (fun _ => kr) ⟨om,om,trivial⟩ ?_
         refine Le (Eff.store1 (b := b2) (off := (k0 + n)) (v := .bool tz) rfl kr kr rfl kr 0 (cs := (rb ny ++ j2).toArray) (e := 4) kr (by simp only [List.size_toArray,List.length_append,rb_len]; omega)) ?_
         rintro ⟨⟩ -
         refine CfgL.done rfl ?_
         refine Cg (Γ' := [(40,[],.int .i64 (n : Int)),(39,[],.int .i64 (rl l i)),(10,[],.int .i64 (k0 : Int)),(22,[],.int .i64 (i : Int)),(21,[],.int .i64 (l.length : Int)),(20,[],.slice (some ⟨sb,off,none⟩) l.length cap),(7,[],.slice (some ⟨b2,0,none⟩) fr.length cq2),(0,[],pT s),(1,[],.bool tz)]) ?_
         refine Rg [0,1,7,10,20,21,22,39,40] [] (fun _ => [(i6 ((n : Int) + 1))]) ⟨om,trivial⟩ ?_
         refine Cfg.setO (congrArg (fun (xq : Array Value) => ([(b2,.cells xq 4 (0,0)),(s,.cells #[.int .i64 f,.slice (some ⟨b,0,none⟩) fr.length cp] 151 (0,0)),(b,.cells ((rb fr ++ jk).toArray) 4 (0,0))] : LO)) (show _ = ((rb (ny.set (k0 + n) tz) ++ j2).toArray) from rb_set ny j2 om tz)) ?_
         refine Cfg.again rfl (n + 1,ny.set (k0 + n) tz) ⟨by omega,by omega,by rw [List.length_set]; exact hny,by rw [← hL,loop_step (show n < (rl l i).toNat by omega),if_neg om,if_neg (by rw [c7r]; simp)]⟩ (by show (rl l i).toNat - (n + 1) < (rl l i).toNat - n; omega) (Conv.mk kr) (.cons_cons _ (.cons_cons _ (.cons_cons _ .slnil)))
      ·have c5 := (dF c5r)
       refine Rg [0,1,7,20,21,22] [] (fun _ => [(i6 ((i : Int) + 1))]) ⟨om,trivial⟩ ?_
       have hd0 := loop_end (tz := tz) (k := k0) (ny := ny) (show (rl l i).toNat ≤ n by omega)
       rw [hL] at hd0
       have hS := turn_step (f := f) (nn := fr.length) (tz := tz) (l := l) (nx := nx) (i := i) om
       rw [if_neg om,if_pos hin,hk0,Int.toNat_natCast,hd0,if_pos rfl] at hS
       refine Cfg.again rfl (i + 1,ny) ⟨by omega,hny,by rw [← hT]; exact hS.symm⟩ (by show l.length - (i + 1) < l.length - i; omega) (Conv.mk kr) (.cons_cons _ (.cons_cons _ (.cons_cons _ .slnil)))
  ·have c2 := (dF c2r)
   obtain rfl : i = l.length := by omega
   rw [List.drop_length] at hT
   refine Conv.cfg (Γ' := [(21,[],.int .i64 (l.length : Int)),(20,[],.slice la l.length cap),(7,[],.slice (some ⟨b2,0,none⟩) fr.length cq2),(0,[],pT s)]) (Conv.mk kr) ?_
   refine Cfg.begL rfl ?_
   refine Lp 4 [] (some [66,68]) n0 trivial ?_
   refine Le (Eff.store1 (b := s) (off := 1) (v := .slice (some ⟨b2,0,none⟩) fr.length cq2) rfl kr kr rfl kr 1 (cs := #[.int .i64 f,.slice (some ⟨b,0,none⟩) fr.length cp]) (e := 151) kr (by simp)) ?_
   rintro ⟨⟩ -
   refine CfgL.done rfl ?_
   refine Cg (Γ' := []) ?_
   refine Rg [6] [] n0 trivial ?_
   refine Cfg.ret rfl (rs := [.tmp 6]) rfl [.int .i64 0] ⟨kr,trivial⟩ (fun w1 hp => ?_)
   have he : (turnF f fr.length tz l fr).1 = 0 := by rw [← hT]; rfl
   have hr : turnR f tz l fr = nx := by unfold turnR; rw [he,if_pos rfl,← hT]; rfl
   rw [he,hr]
   exact ⟨(b2,cq2,j2),rfl,_,(hp.sub (O' := [(b2,_),(s,_)]) (.cons_cons _ (.cons_cons _ (.cons _ .slnil)))).perm (by unfold spC; rw [hnx]; exact List.Perm.swap _ _ _)⟩
end Go.Proofs.YtfgdepggdiibdaaGreatDoor
