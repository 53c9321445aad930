/- Texts on which the proof of this claim stands: JpB, JpC. -/
import Derived.Test.YtohjpggjgomgoaaGreatDoorP7
import Derived.Test.YtohjpggjgomgoaaGreatDoorP2
import Derived.Test.YtohjpggjgomgoaaGreatDoorP4
namespace Go.Proofs.YtohjpggjgomgoaaGreatDoor
open K
set_option linter.unusedVariables false
structure JA where
 la : Option Addr
 cap : Nat
 ps : List Pt
 Rl : List (Nat × Obj)
 disk : Bool
 a : AK
def jz : JA := ⟨none,0,[],[],false,az⟩
def jac (a : JA) : List Value := [.slice a.la a.ps.length a.cap,.bool a.disk,.int .i64 a.a.d,.int .i64 a.a.q,.int .u8 (a.a.b.toNat : Int),.slice a.a.la a.a.kept.length a.a.cap]
theorem jac_len (a : JA) : (jac a).length = 6 := rfl
theorem jac_all (a : JA) : ∀ v ∈ jac a,K.one v = true := by
 intro v hv
 unfold jac at hv
 simp only [List.mem_cons,List.not_mem_nil,or_false] at hv
 rcases hv with rfl | rfl | rfl | rfl | rfl | rfl <;> rfl
structure JAok (w : World) (a : JA) : Prop where
 l : a.ps.length ≤ maxLen
 r : Has w a.Rl
 i : InS a.Rl a.la (a.ps.length * 2) (pCell a.ps)
 ak : AKok w a.a
theorem jk_at {w : World} {sc : List JA} (h : ∀ a ∈ sc,JAok w a) {i : Nat} (hi : i < sc.length) : JAok w (sc.getD i jz) ∧ sc.getD i jz ∈ sc := by
 rw [List.getD_eq_getElem?_getD,List.getElem?_eq_getElem hi]
 exact ⟨h _ (List.getElem_mem hi),List.getElem_mem hi⟩
theorem jk_cell {l : List JA} {cs : Array Value} {off i : Nat} (hcs : ∀ j,j < l.length * 6 → cs[off + j]? = some ((l.flatMap jac).getD j undef)) (hi : i < l.length) {j : Nat} {v : Value} (hv : (jac (l.getD i jz))[j]? = some v) : cs[off + i * 6 + j]? = some v := by
 have hj : j < 6 := by have := (List.getElem?_eq_some_iff.1 hv).1; rw [jac_len] at this; exact this
 have h1 := flat_get jac 6 (l := l) (fun x _ => jac_len x) hi hj
 rw [Nat.add_assoc,hcs (i * 6 + j) om,List.getD_eq_getElem?_getD,h1]
 rw [List.getD_eq_getElem?_getD,List.getElem?_eq_getElem hi] at hv
 show some ((jac l[i])[j]?.getD undef) = some v
 rw [show (jac l[i])[j]? = some v from hv]; rfl
def allJ (t : Nat × Obj) (Rl : List (Nat × Obj)) (sc : List JA) : List (Nat × Obj) := t :: (Rl ++ sc.flatMap fun a => a.Rl ++ a.a.Rl)
theorem allJ_in {t : Nat × Obj} {Rl : List (Nat × Obj)} {sc : List JA} {a : JA} (h : a ∈ sc) : ∀ e ∈ a.Rl,e ∈ allJ t Rl sc := fun e he => List.mem_cons_of_mem _ (List.mem_append_right _ (List.mem_flatMap.2 ⟨a,h,List.mem_append_left _ he⟩))
theorem allJ_ak {t : Nat × Obj} {Rl : List (Nat × Obj)} {sc : List JA} {a : JA} (h : a ∈ sc) : ∀ e ∈ a.a.Rl,e ∈ allJ t Rl sc := fun e he => List.mem_cons_of_mem _ (List.mem_append_right _ (List.mem_flatMap.2 ⟨a,h,List.mem_append_right _ he⟩))
theorem allJ_rl {t : Nat × Obj} {Rl : List (Nat × Obj)} {sc : List JA} {e : Nat × Obj} (h : e ∈ Rl) : e ∈ allJ t Rl sc := List.mem_cons_of_mem _ (List.mem_append_left _ h)
theorem tab_in {t : Nat × Obj} {Rl : List (Nat × Obj)} {sc : List JA} : t ∈ allJ t Rl sc := List.mem_cons_self ..
theorem allJ_has {w : World} {t : Nat × Obj} {Rl : List (Nat × Obj)} {sc : List JA} (h : ∀ a ∈ sc,JAok w a) (hR : Has w (t :: Rl)) : Has w (allJ t Rl sc) := fun e he => by
 rcases List.mem_cons.1 he with rfl | he
 ·exact hR _ (List.mem_cons_self ..)
 rcases List.mem_append.1 he with he | he
 ·exact hR e (List.mem_cons_of_mem _ he)
 ·obtain ⟨a,ha,he⟩ := List.mem_flatMap.1 he
  rcases List.mem_append.1 he with he | he
  ·exact (h a ha).r e he
  ·exact (h a ha).ak.r e he
def lightF (sc : List JA) : Bool := sc.all fun a => decide (sc.length ≤ 12) && decide (a.ps.length ≤ 110) && decide (a.a.kept.length ≤ 500)
theorem light_at {sc : List JA} (h : lightF sc = true) {i : Nat} (hi : i < sc.length) : sc.length ≤ 12 ∧ (sc.getD i jz).ps.length ≤ 110 := by
 have h1 := List.all_eq_true.1 h _ (List.getElem_mem hi)
 simp only [Bool.and_eq_true,decide_eq_true_eq] at h1
 rw [List.getD_eq_getElem?_getD,List.getElem?_eq_getElem hi]
 exact ⟨h1.1.1,h1.1.2⟩
theorem light_no {sc : List JA} {i : Nat} (hi : i < sc.length) (h : 12 < sc.length ∨ 110 < (sc.getD i jz).ps.length ∨ 500 < (sc.getD i jz).a.kept.length) : lightF sc = false := by
 cases hl : lightF sc with
 | false => rfl
 | true =>
  have h1 := List.all_eq_true.1 hl _ (List.getElem_mem hi)
  simp only [Bool.and_eq_true,decide_eq_true_eq] at h1
  rw [List.getD_eq_getElem?_getD,List.getElem?_eq_getElem hi] at h
  have h2 : 12 < sc.length ∨ 110 < (sc[i]).ps.length ∨ 500 < (sc[i]).a.kept.length := h
  omega
theorem light_yes {sc : List JA} (h : ∀ i,i < sc.length → sc.length ≤ 12 ∧ (sc.getD i jz).ps.length ≤ 110 ∧ (sc.getD i jz).a.kept.length ≤ 500) : lightF sc = true := by
 refine List.all_eq_true.2 fun a ha => ?_
 obtain ⟨i,hi,rfl⟩ := List.mem_iff_getElem.1 ha
 have := h i hi
 rw [List.getD_eq_getElem?_getD,List.getElem?_eq_getElem hi] at this
 have h2 : sc.length ≤ 12 ∧ (sc[i]).ps.length ≤ 110 ∧ (sc[i]).a.kept.length ≤ 500 := this
 simp only [Bool.and_eq_true,decide_eq_true_eq]; omega
theorem perm_jk (L : List (Nat × Obj)) (a b : Nat × Obj) (X Y : List (Nat × Obj)) : (L ++ ((a :: X) ++ ((b :: Y) ++ []))).Perm ((L ++ [a,b]) ++ ((X ++ Y) ++ [])) := by
 rw [List.append_nil,List.append_nil,List.append_assoc]
 refine List.Perm.append_left L ?_
 show (a :: (X ++ b :: Y)).Perm (a :: b :: (X ++ Y))
 exact List.Perm.cons _ List.perm_middle
theorem perm_kj (L : List (Nat × Obj)) (a b : Nat × Obj) (X Y : List (Nat × Obj)) : ((L ++ [a,b]) ++ (X ++ (Y ++ []))).Perm (L ++ ((a :: X) ++ ((b :: Y) ++ []))) := by
 have h := (perm_jk L a b X Y).symm
 simp only [List.append_assoc,List.append_nil] at h ⊢
 exact h
theorem perm4 (L a b c d : List (Nat × Obj)) : (L ++ (a ++ (b ++ (c ++ (d ++ []))))).Perm (L ++ (c ++ (d ++ (a ++ (b ++ []))))) := by
 refine List.Perm.append_left L ?_
 have h : ((a ++ b) ++ (c ++ d)).Perm ((c ++ d) ++ (a ++ b)) := List.perm_append_comm
 simpa only [List.append_assoc,List.append_nil] using h
theorem cm_has {w0 w : World} {M : List Nat} {R L A T S : List (Nat × Obj)} {tab : Nat × Obj} (h : HP w0 M R (L ++ (A ++ T)) w) (hS : ∀ e ∈ S,e ∈ T) (ht : tab ∈ R) : Has w (tab :: S) := fun e he => by
 rcases List.mem_cons.1 he with rfl | he
 ·exact h.ro _ ht
 ·exact h.own _ (List.mem_append_right _ (List.mem_append_right _ (hS e he)))
theorem cm_apart {w0 w : World} {M : List Nat} {R L A T S : List (Nat × Obj)} {tab : Nat × Obj} (h : HP w0 M R (L ++ (A ++ T)) w) (hS : ∀ e ∈ S,e ∈ T) (ht : tab ∈ R) : ∀ e ∈ tab :: S,e.1 ∉ A.map (·.1) := fun e he => by
 rcases List.mem_cons.1 he with rfl | he
 ·exact apart (L := [e]) h (fun x hx => by rw [List.mem_singleton.1 hx]; exact ht) e (List.mem_cons_self ..)
 ·exact mid_apart h e (.inr (hS e he))
theorem jk_has {w0 w : World} {M : List Nat} {R L X Y : List (Nat × Obj)} {a b : Nat × Obj} (h : HP w0 M R (L ++ ((a :: X) ++ ((b :: Y) ++ []))) w) : Has w (X ++ Y) := fun e he => by
 refine h.own e (List.mem_append_right _ ?_)
 rcases List.mem_append.1 he with he | he
 ·exact List.mem_append_left _ (List.mem_cons_of_mem _ he)
 ·exact List.mem_append_right _ (List.mem_append_left _ (List.mem_cons_of_mem _ he))
theorem jaok_mono {w w1 : World} {t : Nat × Obj} {Rl : List (Nat × Obj)} {sc : List JA} (hR : Has w1 (allJ t Rl sc)) (h : ∀ a ∈ sc,JAok w a) {a : JA} (ha : a ∈ sc) : JAok w1 a :=
 ⟨(h a ha).l,fun e he => hR e (allJ_in ha e he),(h a ha).i,⟨(h a ha).ak.q,(h a ha).ak.l,fun e he => hR e (allJ_ak ha e he),(h a ha).ak.i⟩⟩
set_option maxRecDepth 100000 in
set_option maxHeartbeats 8000000 in
theorem jLight (la : Option Addr) (cap : Nat) (sc : List JA) (Rl : List (Nat × Obj)) (t0 : TypeId) (fr0 : Nat × Nat) (w : World) (hI : InS Rl la (sc.length * 6) (fun j => (sc.flatMap jac).getD j undef)) (hA : ∀ a ∈ sc,JAok w a) (hRl : Has w ((0,Obj.cells (wv Kc) t0 fr0) :: Rl)) (hsc : sc.length ≤ maxLen) :
  Calls Tryz.prog 12 #[.slice la sc.length cap,.int .i64 12] w fun e w' => e = .returned (.bool (lightF sc)) ∧ Ext [] w w' := by
 unfold maxLen at hsc
 refine enter (vs := [.slice la sc.length cap,.int .i64 12]) [] (allJ (0,Obj.cells (wv Kc) t0 fr0) Rl sc) [] Tryz.func12 rfl kr (HP.ofHas (allJ_has hA hRl)) ?_
 refine Rg [0,1] [] n0 trivial ?_
 refine Rg [0,1,7,8,9] [] n0 trivial ?_
 refine Cfg.loop rfl (ι := Nat) (fun (i : Nat) => [(9,[],.int .i64 (i : Int)),(8,[],.int .i64 (sc.length : Int)),(7,[],.slice la sc.length cap),(0,[],.slice la sc.length cap),(1,[],.int .i64 12)]) (fun (i : Nat) => []) (fun (i : Nat) => (i ≤ sc.length) ∧ (∀ k,k < i → sc.length ≤ 12 ∧ (sc.getD k jz).ps.length ≤ 110 ∧ (sc.getD k jz).a.kept.length ≤ 500)) (fun (i : Nat) => sc.length - i) 0 ?_ (Conv.mk kr) .slnil ?_
 ·exact ⟨Nat.zero_le _,fun k h => absurd h (Nat.not_lt_zero k)⟩
 ·rintro i ⟨hi,hok⟩
  refine Rg [0,1,7,8,9,10] [] n0 trivial ?_
  refine Cfg.cond rfl (b := (decide ((i : Int) < (sc.length : Int)))) kr (fun c1r => ?_) (fun c1r => ?_)
  ·have c1 := (of_decide_eq_true c1r)
   obtain ⟨sb,off,cs,te,fre,rfl,hmem,hcs⟩ := hI om
   refine Conv.cfg (Γ' := [(10,[],.bool (decide ((i : Int) < (sc.length : Int)))),(9,[],.int .i64 (i : Int)),(8,[],.int .i64 (sc.length : Int)),(7,[],.slice (some ⟨sb,off,none⟩) sc.length cap),(0,[],.slice (some ⟨sb,off,none⟩) sc.length cap),(1,[],.int .i64 12)]) (Conv.mk kr) ?_
   obtain ⟨hjk,hin⟩ := jk_at hA (i := i) om
   refine Cfg.begL rfl ?_
   refine Lp 2 [dZ,(0,false,some (.agg (jac (sc.getD i jz)).toArray))] (some [0,1,7,8,9,12]) (fun S => [(0 ≤ (i : Int) ∧ (i : Int) < (sc.length : Int)),(∀ w1,S w1 → (loadVar 62 ⟨sb,(addO off (i * 6)),none⟩).run Tryz.prog w1 = .ok (.agg (jac (sc.getD i jz)).toArray) w1)]) ⟨om,(fun w1 h => load_list Tryz.underlying62 rfl kr (jac_len _) (fun j v hj => by rw [addO_eq]; exact (cell_cells (h.ro _ (allJ_rl hmem))).trans (jk_cell hcs om hj))),trivial⟩ ?_
   refine Le (Eff.alloc (z := (.agg #[.slice none 0 0,.bool false,.int .i64 0,.int .i64 0,.int .u8 0,.slice none 0 0])) rfl kr) ?_
   rintro ab ⟨hab,nab⟩
   refine Le (Eff.storeN (b := ab) (off := 0) (vs := (jac (sc.getD i jz)).toArray) (n := 6) rfl kr kr kr rfl (jac_all _) 0 (cs := #[.slice none 0 0,.bool false,.int .i64 0,.int .i64 0,.int .u8 0,.slice none 0 0]) (e := 62) kr (by show 0 + 6 ≤ 6; decide)) ?_
   rintro ⟨⟩ -
   refine CfgL.setO (congrArg (fun (xq : Array Value) => ([(ab,.cells xq 62 (0,0))] : List (Nat × Obj))) (show _ = ((jac (sc.getD i jz)).toArray) from spl_all ((by rw [List.size_toArray,jac_len]; rfl)))) ?_
   refine CfgL.done rfl ?_
   refine Cg (Γ' := [(6,[],.pointer (some ⟨ab,0,none⟩)),(9,[],.int .i64 (i : Int)),(8,[],.int .i64 (sc.length : Int)),(7,[],.slice (some ⟨sb,off,none⟩) sc.length cap),(0,[],.slice (some ⟨sb,off,none⟩) sc.length cap),(1,[],.int .i64 12)]) ?_
   refine Cfg.begL rfl ?_
   refine Lp 11 [dZ,dZ,dZ,dZ,dZ,dZ,(0,false,some (.slice (sc.getD i jz).la ((sc.getD i jz).ps.length) ((sc.getD i jz).cap)))] (some [0,1,6,7,8,9,23]) (fun S => [((.bool (decide ((sc.length : Int) > (12 : Int))) : Value) = .bool false → (∀ w1,S w1 → w1.cell? ⟨ab,0,none⟩ = some (.slice (sc.getD i jz).la ((sc.getD i jz).ps.length) ((sc.getD i jz).cap))))]) ⟨(fun g0 => have q0 : (¬ ((sc.length : Int) > (12 : Int))) := (of_decide_eq_false (boolV g0)); (fun w1 h => h.ocell 0 rfl rfl)),trivial⟩ ?_
   by_cases c2 : ((decide ((sc.length : Int) > (12 : Int))) || (decide (((sc.getD i jz).ps.length : Int) > (110 : Int)))) = true
   ·have c2k : ((decide ((sc.length : Int) > (12 : Int))) || (decide (((sc.getD i jz).ps.length : Int) > (110 : Int)))) = true := c2
    have c2q : (((sc.length : Int) > (12 : Int)) ∨ (((sc.getD i jz).ps.length : Int) > (110 : Int))) := ((orT c2k).elim (fun h => Or.inl (of_decide_eq_true h)) (fun h => Or.inr (of_decide_eq_true h)))
    refine CfgL.known 23 (b := ((decide ((sc.length : Int) > (12 : Int))) || (decide (((sc.getD i jz).ps.length : Int) > (110 : Int))))) kr true c2k ?_
    refine Lp 5 [(2,false,none),(2,false,none),(2,false,none),(2,false,none)] (some [0,1,7,8,9,28]) (fun _ => [((.bool true : Value) ≠ .bool false),((.bool true : Value) ≠ .bool false),((.bool true : Value) ≠ .bool false),((.bool true : Value) ≠ .bool false)]) ⟨(by simp),(by simp),(by simp),(by simp),trivial⟩ ?_
    refine CfgL.done rfl ?_
    refine Cfg.condT rfl (b := true) kr rfl ?_
    refine Rg [4] [] n0 trivial ?_
    refine Cfg.ret rfl (rs := [.tmp 4]) rfl [.bool false] ⟨kr,trivial⟩ (fun w1 hp => ?_)
    have hx : lightF sc = false := light_no (i := i) om om
    exact ⟨by rw [hx]; rfl,hp.ext⟩
   ·have c2k : ((decide ((sc.length : Int) > (12 : Int))) || (decide (((sc.getD i jz).ps.length : Int) > (110 : Int)))) = false := (by simpa using c2)
    have c2q : ((¬ ((sc.length : Int) > (12 : Int))) ∧ (¬ (((sc.getD i jz).ps.length : Int) > (110 : Int)))) := ⟨(of_decide_eq_false (orF1 c2k)),(of_decide_eq_false (orF2 c2k))⟩
    refine CfgL.known 23 (b := ((decide ((sc.length : Int) > (12 : Int))) || (decide (((sc.getD i jz).ps.length : Int) > (110 : Int))))) kr false c2k ?_
    refine Lp 2 [(1,false,none),(1,false,some (.agg (ac (sc.getD i jz).a).toArray))] (some [0,1,7,8,9,23,25]) (fun S => [((.bool false : Value) = .bool false),((.bool false : Value) = .bool false),(∀ w1,S w1 → (loadVar 60 ⟨ab,2,none⟩).run Tryz.prog w1 = .ok (.agg (ac (sc.getD i jz).a).toArray) w1)]) ⟨rfl,rfl,(fun w1 h => load_list Tryz.underlying60 rfl kr (ac_len _) (fun j v hj => h.ocell 0 rfl (by rw [List.getElem?_toArray,Nat.add_comm]; exact hj))),trivial⟩ ?_
    refine Le (Eff.callA (vs := [.agg (ac (sc.getD i jz).a).toArray]) (.bool (decide (((sc.getD i jz).a.kept.length : Int) ≤ 500))) rfl Tryz.func49 rfl rfl kr (fun w1 _ => dLight (sc.getD i jz).a w1)) ?_
    rintro ⟨⟩ -
    refine Lp 2 [(1,false,none)] (some [0,1,7,8,9,28]) (fun _ => [((.bool false : Value) = .bool false)]) ⟨rfl,trivial⟩ ?_
    refine CfgL.done rfl ?_
    refine Cfg.cond rfl (b := (!(decide (((sc.getD i jz).a.kept.length : Int) ≤ 500)))) kr (fun c4r => ?_) (fun c4r => ?_)
    ·have c4 := (of_decide_eq_false (notT c4r))
     refine Rg [4] [] n0 trivial ?_
     refine Cfg.ret rfl (rs := [.tmp 4]) rfl [.bool false] ⟨kr,trivial⟩ (fun w1 hp => ?_)
     have hx : lightF sc = false := light_no (i := i) om om
     exact ⟨by rw [hx]; rfl,hp.ext⟩
    ·have c4 := (of_decide_eq_true (notF c4r))
     refine Rg [0,1,7,8,9] [] (fun _ => [((-9223372036854775808 : Int) ≤ ((i : Int) + 1) ∧ ((i : Int) + 1) ≤ 9223372036854775807)]) ⟨om,trivial⟩ ?_
     refine Cfg.again rfl (i + 1) ⟨by omega,fun k hk => by rcases Nat.lt_or_ge k i with h1 | h1; exact hok k h1; rw [show k = i by omega]; omega⟩ (by show sc.length - (i + 1) < sc.length - i; omega) (Conv.mk kr) (.cons _ .slnil)
  ·have c1 := (of_decide_eq_false c1r)
   refine Cfg.reg rfl [4] [] (Γ' := [(4,[],.bool true)]) (nd := (fun _ => [])) (fun _ => kr) trivial ?_
   refine Cfg.ret rfl (rs := [.tmp 4]) rfl [.bool true] ⟨kr,trivial⟩ (fun w1 hp => ?_)
   have hx : lightF sc = true := light_yes (fun k hk => hok k om)
   exact ⟨by rw [hx]; rfl,hp.ext⟩
set_option maxRecDepth 100000 in
set_option maxHeartbeats 8000000 in
theorem playsWalk (s : Nat) (la : Option Addr) (cap : Nat) (sc : List JA) (Rl : List (Nat × Obj)) (t0 : TypeId) (fr0 : Nat × Nat) (w : World) (hs : s < 256) (hI : InS Rl la (sc.length * 6) (fun j => (sc.flatMap jac).getD j undef)) (hA : ∀ a ∈ sc,JAok w a) (hRl : Has w ((0,Obj.cells (wv Kc) t0 fr0) :: Rl)) (hsc : sc.length ≤ maxLen) :
  Calls Tryz.prog 4 #[.int .u8 (s : Int),.slice la sc.length cap] w fun e w' => e = .returned (.bool true) ∧ Ext [] w w' := by
 unfold maxLen at hsc
 obtain ⟨n,hn⟩ : ∃ n : Nat,n = 64 + s := ⟨_,rfl⟩
 have hn2 : (64 : Int) + (s : Int) = (n : Int) := by omega
 have hn3 : 64 ≤ n ∧ n ≤ 4096 := by omega
 have hop := open_new hn3.1
 have hgn : DG (newD n) := DG.new hn3.2
 refine enter (vs := [.int .u8 (s : Int),.slice la sc.length cap]) [] (allJ (0,Obj.cells (wv Kc) t0 fr0) Rl sc) [] Tryz.func4 rfl kr (HP.ofHas (allJ_has hA hRl)) ?_
 refine Rg [0,1] [] n0 trivial ?_
 refine Cfg.begL rfl ?_
 refine Le (Eff.callA (vs := []) (.bool true) rfl Tryz.func5 rfl rfl kr (fun w1 h => awakeW w1 (h.ro (0,_) (tab_in (Rl := Rl) (sc := sc))))) ?_
 rintro ⟨⟩ -
 refine Lp 1 [] (some [0,1,25]) n0 trivial ?_
 refine CfgL.done rfl ?_
 refine Cfg.condF rfl (b := false) kr rfl ?_
 refine Cfg.begL rfl ?_
 refine Lp 1 [] (some [0,1,26]) n0 trivial ?_
 refine Le (Eff.callA (vs := [.slice la sc.length cap,.int .i64 12]) (.bool (lightF sc)) rfl Tryz.func12 rfl rfl kr (fun w1 h => jLight la cap sc Rl t0 fr0 w1 hI (fun a ha => jaok_mono (h.hasR (fun e he => he)) hA ha) (h.hasR (fun e he => (List.mem_cons.1 he).elim (fun h1 => h1 ▸ (tab_in (Rl := Rl) (sc := sc))) (fun h1 => allJ_rl h1))) (by unfold maxLen; omega))) ?_
 rintro ⟨⟩ -
 refine Lp 1 [] (some [0,1,28]) n0 trivial ?_
 refine CfgL.done rfl ?_
 refine Cfg.cond rfl (b := (!(lightF sc))) kr (fun c2r => ?_) (fun c2r => ?_)
 ·have c2 : ((lightF sc) = false) := (notT c2r)
  refine Rg [4] [] n0 trivial ?_
  refine Cfg.ret rfl (rs := [.tmp 4]) rfl [.bool true] ⟨kr,trivial⟩ (fun w1 hp => ?_)
  exact ⟨by simp [resOf],hp.ext⟩
 ·have c2 : ((lightF sc) = true) := (notF c2r)
  have hlt : lightF sc = true := by simpa using c2
  refine Cfg.begL rfl ?_
  refine Lp 3 [] (some [0,1,32]) (fun _ => [((-9223372036854775808 : Int) ≤ (s : Int) ∧ (s : Int) ≤ 9223372036854775807),((-9223372036854775808 : Int) ≤ (64 + (s : Int)) ∧ (64 + (s : Int)) ≤ 9223372036854775807)]) ⟨om,om,trivial⟩ ?_
  refine Le (Eff.callH (vs := [.int .i64 (64 + (s : Int))]) (fun y : DM × MX => .tuple #[.pointer (some ⟨y.1.d,0,none⟩),.int .i64 0]) [] (fun y => dO (newD n) y.1 y.2) (fun y => MapOk y.2.1 y.2.2 []) [] [] rfl rfl Tryz.func13 rfl rfl kr (fun w1 h _ _ => by have h9 := dNew n w1 hn3; rw [← hn2] at h9; exact h9)) ?_
  rintro ⟨m,x⟩ hmo
  refine Lp 5 [] (some [0,1,5]) n0 trivial ?_
  refine CfgL.done rfl ?_
  refine Cfg.begL rfl ?_
  refine CfgL.pure 3 [] (some [1,5,38]) (Γ' := [(38,[],.int .i64 (64 + (s : Int))),(5,[],.pointer (some ⟨m.d,0,none⟩)),(1,[],.slice la sc.length cap)]) (nd := (fun _ => [((-9223372036854775808 : Int) ≤ (s : Int) ∧ (s : Int) ≤ 9223372036854775807),((-9223372036854775808 : Int) ≤ (64 + (s : Int)) ∧ (64 + (s : Int)) ≤ 9223372036854775807)])) kr (fun _ => kr) ⟨om,om,trivial⟩ ?_
  refine Le (Eff.callH (vs := [.int .i64 (64 + (s : Int))]) (fun y : RM => .pointer (some ⟨y.r,0,none⟩)) [] (fun y => rO (toR (newD n)) y) (fun _ => True) ([] ++ dO (newD n) m x) [] rfl rfl Tryz.func14 rfl rfl kr (fun w1 h _ _ => by have h9 := rNew n w1 hn3; rw [toR_new,← hn2] at h9; exact h9.mono fun e w2 hx => by obtain ⟨y,he,hr⟩ := hx; exact ⟨y,trivial,he,hr⟩)) ?_
  rintro r -
  refine Lp 1 [] (some [1,5,7]) n0 trivial ?_
  refine CfgL.done rfl ?_
  refine Cfg.begL rfl ?_
  refine Lp 1 [] none n0 trivial ?_
  refine Le (Eff.callH (vs := [.pointer (some ⟨m.d,0,none⟩)]) (fun z : MX × Nat => .tuple #[.pointer (some ⟨z.2,0,none⟩),.int .i64 0]) (dO (newD n) m x) (fun z => (z.2,Obj.cells #[.int .i64 (0 : Int),.pointer (some ⟨m.d,0,none⟩),.int .u64 (0 : Int)] 121 (0,0)) :: dO (newD n) m z.1) (fun z => MapOk z.1.1 z.1.2 (wv2 (newD n).wait)) [] (rO (toR (newD n)) r ++ []) rfl rfl Tryz.func15 rfl rfl kr (fun w1 h hA1 hd1 => by have h9 := jOpenOk m x (newD n) t0 fr0 w1 hgn hmo ⟨Int.le_refl 0,by show (0 : Int) ≤ 4611686018426000000; decide⟩ hA1 hd1 (h.hasR (fun e he => by rw [List.mem_singleton.1 he]; exact (tab_in (Rl := Rl) (sc := sc)))) (apart (Fl := []) (A := dO (newD n) m x) (T := (rO (toR (newD n)) r ++ [])) (L := [(0,Obj.cells (wv Kc) t0 fr0)]) h (fun e he => by rw [List.mem_singleton.1 he]; exact (tab_in (Rl := Rl) (sc := sc)))) (by rw [hop]); rw [hop] at h9; exact h9)) ?_
  rintro ⟨x2,jb⟩ hmo_x2
  refine Lp 5 [] (some [1,5,7,8,9]) n0 trivial ?_
  refine CfgL.done rfl ?_
  refine Cfg.begL rfl ?_
  refine Lp 1 [] none n0 trivial ?_
  refine Le (Eff.callH (vs := [.pointer (some ⟨r.r,0,none⟩)]) (fun z : Nat => .tuple #[.pointer (some ⟨z,0,none⟩),.int .i64 0]) (rO (toR (newD n)) r) (fun z => (z,Obj.cells #[.pointer (some ⟨r.r,0,none⟩),.int .u64 (0 : Int),.int .i64 (0 : Int)] 68 (0,0)) :: rO (toR (newD n)) r) (fun _ => True) ([] ++ ((jb,Obj.cells #[.int .i64 (0 : Int),.pointer (some ⟨m.d,0,none⟩),.int .u64 (0 : Int)] 121 (0,0)) :: dO (newD n) m x2)) [] rfl rfl Tryz.func16 rfl rfl kr (fun w1 h hA1 hd1 => by have h9 := rOpenOk r (newD n) w1 hgn ⟨Int.le_refl 0,by show (0 : Int) ≤ 4611686018426000000; decide⟩ hA1 hd1 (by rw [hop]); rw [hop] at h9; exact h9)) ?_
  rintro kb -
  refine Lp 5 [] (some [1,5,7,8,9,10,11]) n0 trivial ?_
  refine CfgL.done rfl ?_
  refine Rg [1,5,7,8,10,55] [dZ,dZ,dZ,(1,false,none),(1,false,none)] (fun _ => [((.bool false : Value) = .bool false),((.bool false : Value) = .bool false)]) ⟨rfl,rfl,trivial⟩ ?_
  refine Cfg.condF rfl (b := false) kr rfl ?_
  refine Rg [5,7,8,10,56,57,58] [] n0 trivial ?_
  refine Cfg.loop rfl (ι := Nat × DK × MX × Nat × Nat × Int × Nat) (fun (xz : Nat × DK × MX × Nat × Nat × Int × Nat) => match xz with | (i,D,x,jb,kb,why,num) => [(58,[],.int .i64 (i : Int)),(57,[],.int .i64 (sc.length : Int)),(56,[],.slice la sc.length cap),(10,[],.pointer (some ⟨kb,0,none⟩)),(8,[],.pointer (some ⟨jb,0,none⟩)),(7,[],.pointer (some ⟨r.r,0,none⟩)),(5,[],.pointer (some ⟨m.d,0,none⟩))]) (fun (xz : Nat × DK × MX × Nat × Nat × Int × Nat) => match xz with | (i,D,x,jb,kb,why,num) => ([] ++ (((jb,Obj.cells #[.int .i64 why,.pointer (some ⟨m.d,0,none⟩),.int .u64 (num : Int)] 121 (0,0)) :: dO D m x) ++ (((kb,Obj.cells #[.pointer (some ⟨r.r,0,none⟩),.int .u64 (num : Int),.int .i64 why] 68 (0,0)) :: rO (toR D) r) ++ [])))) (fun (xz : Nat × DK × MX × Nat × Nat × Int × Nat) => match xz with | (i,D,x,jb,kb,why,num) => (i ≤ sc.length) ∧ (DG D) ∧ (MapOk x.1 x.2 (wv2 D.wait)) ∧ (0 ≤ D.steps ∧ D.steps ≤ (i : Int) * 400)) (fun (xz : Nat × DK × MX × Nat × Nat × Int × Nat) => match xz with | (i,D,x,jb,kb,why,num) => sc.length - i) (0,newD n,x2,jb,kb,(0 : Int),0) ?_ (Conv.mk kr) (List.Sublist.refl _) ?_
  ·exact ⟨Nat.zero_le _,hgn,hmo_x2,⟨Int.le_refl 0,Int.le_refl 0⟩⟩
  ·rintro ⟨i,D,x,jb,kb,why,num⟩ ⟨hi,hg,hmo,hst⟩
   refine Cfg.reg rfl [5,7,8,10,56,57,58,59] [] (Γ' := [(59,[],.bool (decide ((i : Int) < (sc.length : Int)))),(58,[],.int .i64 (i : Int)),(57,[],.int .i64 (sc.length : Int)),(56,[],.slice la sc.length cap),(10,[],.pointer (some ⟨kb,0,none⟩)),(8,[],.pointer (some ⟨jb,0,none⟩)),(7,[],.pointer (some ⟨r.r,0,none⟩)),(5,[],.pointer (some ⟨m.d,0,none⟩))]) (nd := (fun _ => [])) (fun _ => kr) trivial ?_
   refine Cfg.cond rfl (b := (decide ((i : Int) < (sc.length : Int)))) kr (fun c4r => ?_) (fun c4r => ?_)
   ·have c4 := (of_decide_eq_true c4r)
    obtain ⟨hl12,hl110⟩ := light_at hlt (i := i) om
    obtain ⟨sb,off,cs,te,fre,rfl,hmem,hcs⟩ := hI om
    refine Conv.cfg (Γ' := [(59,[],.bool (decide ((i : Int) < (sc.length : Int)))),(58,[],.int .i64 (i : Int)),(57,[],.int .i64 (sc.length : Int)),(56,[],.slice (some ⟨sb,off,none⟩) sc.length cap),(10,[],.pointer (some ⟨kb,0,none⟩)),(8,[],.pointer (some ⟨jb,0,none⟩)),(7,[],.pointer (some ⟨r.r,0,none⟩)),(5,[],.pointer (some ⟨m.d,0,none⟩))]) (Conv.mk kr) ?_
    obtain ⟨hjk,hin⟩ := jk_at hA (i := i) om
    refine Cfg.begL rfl ?_
    refine Lp 2 [dZ,(0,false,some (.agg (jac (sc.getD i jz)).toArray))] (some [5,7,8,10,56,57,58,61]) (fun S => [(0 ≤ (i : Int) ∧ (i : Int) < (sc.length : Int)),(∀ w1,S w1 → (loadVar 62 ⟨sb,(addO off (i * 6)),none⟩).run Tryz.prog w1 = .ok (.agg (jac (sc.getD i jz)).toArray) w1)]) ⟨om,(fun w1 h => load_list Tryz.underlying62 rfl kr (jac_len _) (fun j v hj => by rw [addO_eq]; exact (cell_cells (h.ro _ (allJ_rl hmem))).trans (jk_cell hcs om hj))),trivial⟩ ?_
    refine Le (Eff.alloc (z := (.agg #[.slice none 0 0,.bool false,.int .i64 0,.int .i64 0,.int .u8 0,.slice none 0 0])) rfl kr) ?_
    rintro ab ⟨hab,nab⟩
    refine Le (Eff.storeN (b := ab) (off := 0) (vs := (jac (sc.getD i jz)).toArray) (n := 6) rfl kr kr kr rfl (jac_all _) 0 (cs := #[.slice none 0 0,.bool false,.int .i64 0,.int .i64 0,.int .u8 0,.slice none 0 0]) (e := 62) kr (by show 0 + 6 ≤ 6; decide)) ?_
    rintro ⟨⟩ -
    refine CfgL.setO (congrArg (fun (xq : Array Value) => (([(ab,.cells xq 62 (0,0))] ++ (((jb,Obj.cells #[.int .i64 why,.pointer (some ⟨m.d,0,none⟩),.int .u64 (num : Int)] 121 (0,0)) :: dO D m x) ++ (((kb,Obj.cells #[.pointer (some ⟨r.r,0,none⟩),.int .u64 (num : Int),.int .i64 why] 68 (0,0)) :: rO (toR D) r) ++ []))) : List (Nat × Obj))) (show _ = ((jac (sc.getD i jz)).toArray) from spl_all ((by rw [List.size_toArray,jac_len]; rfl)))) ?_
    refine CfgL.done rfl ?_
    refine Cg (Γ' := [(13,[],.pointer (some ⟨ab,0,none⟩)),(58,[],.int .i64 (i : Int)),(57,[],.int .i64 (sc.length : Int)),(56,[],.slice (some ⟨sb,off,none⟩) sc.length cap),(10,[],.pointer (some ⟨kb,0,none⟩)),(8,[],.pointer (some ⟨jb,0,none⟩)),(7,[],.pointer (some ⟨r.r,0,none⟩)),(5,[],.pointer (some ⟨m.d,0,none⟩))]) ?_
    refine Rg [5,7,8,10,13,56,57,58,63] [dZ,(0,false,some (.bool (sc.getD i jz).disk))] (fun S => [(∀ w1,S w1 → w1.cell? ⟨ab,1,none⟩ = some (.bool (sc.getD i jz).disk))]) ⟨(fun w1 h => h.ocell 0 rfl rfl),trivial⟩ ?_
    refine Cfg.cond rfl (b := (sc.getD i jz).disk) kr (fun c5r => ?_) (fun c5r => ?_)
    ·have c5 : ((sc.getD i jz).disk = true) := c5r
     refine Cfg.permO (O' := ([(ab,Obj.cells ((jac (sc.getD i jz)).toArray) 62 (0,0)),(jb,Obj.cells #[.int .i64 why,.pointer (some ⟨m.d,0,none⟩),.int .u64 (num : Int)] 121 (0,0)),(kb,Obj.cells #[.pointer (some ⟨r.r,0,none⟩),.int .u64 (num : Int),.int .i64 why] 68 (0,0))] ++ ((dO D m x ++ rO (toR D) r) ++ []))) (perm_jk [(ab,Obj.cells ((jac (sc.getD i jz)).toArray) 62 (0,0))] (jb,Obj.cells #[.int .i64 why,.pointer (some ⟨m.d,0,none⟩),.int .u64 (num : Int)] 121 (0,0)) (kb,Obj.cells #[.pointer (some ⟨r.r,0,none⟩),.int .u64 (num : Int),.int .i64 why] 68 (0,0)) (dO D m x) (rO (toR D) r)) ?_
     refine Cfg.begL rfl ?_
     refine Lp 4 [dZ,dZ,dZ,(0,false,some (.agg (ac (sc.getD i jz).a).toArray))] (some [5,7,8,10,56,57,58,64,65,67]) (fun S => [(∀ w1,S w1 → (loadVar 60 ⟨ab,2,none⟩).run Tryz.prog w1 = .ok (.agg (ac (sc.getD i jz).a).toArray) w1)]) ⟨(fun w1 h => load_list Tryz.underlying60 rfl kr (ac_len _) (fun j v hj => h.ocell 0 rfl (by rw [List.getElem?_toArray,Nat.add_comm]; exact hj))),trivial⟩ ?_
     refine Le (Eff.callH (vs := [.pointer (some ⟨m.d,0,none⟩),.pointer (some ⟨r.r,0,none⟩),.agg (ac (sc.getD i jz).a).toArray]) (fun _ : MX => .bool true) ((dO D m x ++ rO (toR D) r)) (fun y => dO (doF (sc.getD i jz).a D) m y ++ rO (toR (doF (sc.getD i jz).a D)) r) (fun y => MapOk y.1 y.2 (wv2 (doF (sc.getD i jz).a D).wait)) [(ab,.cells ((jac (sc.getD i jz)).toArray) 62 (0,0)),(jb,.cells #[.int .i64 why,.pointer (some ⟨m.d,0,none⟩),.int .u64 (num : Int)] 121 (0,0)),(kb,.cells #[.pointer (some ⟨r.r,0,none⟩),.int .u64 (num : Int),.int .i64 why] 68 (0,0))] [] rfl rfl Tryz.func17 rfl rfl kr (fun w1 h hA1 hd1 => dDo m r x D (sc.getD i jz).a w1 hg hmo om hjk.ak.q.2 hjk.ak.i hjk.ak.l (h.hasR (allJ_ak hin)) hA1 hd1 (apart (Fl := [(ab,Obj.cells ((jac (sc.getD i jz)).toArray) 62 (0,0)),(jb,Obj.cells #[.int .i64 why,.pointer (some ⟨m.d,0,none⟩),.int .u64 (num : Int)] 121 (0,0)),(kb,Obj.cells #[.pointer (some ⟨r.r,0,none⟩),.int .u64 (num : Int),.int .i64 why] 68 (0,0))]) (A := (dO D m x ++ rO (toR D) r)) (T := []) h (allJ_ak hin)))) ?_
     rintro x2 hmo_x2
     have hds := doF_steps (sc.getD i jz).a D
     have hg2 : DG (doF (sc.getD i jz).a D) := hg.act hjk.ak.q.2
     refine Lp 1 [] (some [5,7,8,10,56,57,58,69]) n0 trivial ?_
     refine CfgL.done rfl ?_
     refine Cfg.condF rfl (b := false) kr rfl ?_
     by_cases h0 : (openF (doF (sc.getD i jz).a D)).1 = 0
     ·
      refine Cfg.setO (O' := ([(ab,Obj.cells ((jac (sc.getD i jz)).toArray) 62 (0,0)),(jb,Obj.cells #[.int .i64 why,.pointer (some ⟨m.d,0,none⟩),.int .u64 (num : Int)] 121 (0,0)),(kb,Obj.cells #[.pointer (some ⟨r.r,0,none⟩),.int .u64 (num : Int),.int .i64 why] 68 (0,0))] ++ (dO (doF (sc.getD i jz).a D) m x2 ++ (rO (toR (doF (sc.getD i jz).a D)) r ++ [])))) (by simp only [List.append_assoc]) ?_
      refine Cfg.begL rfl ?_
      refine Lp 1 [] (some [5,7,8,10,56,57,58,71]) n0 trivial ?_
      refine Le (Eff.callH (vs := [.pointer (some ⟨m.d,0,none⟩)]) (fun z : MX × Nat => .tuple #[.pointer (some ⟨z.2,0,none⟩),.int .i64 0]) (dO (doF (sc.getD i jz).a D) m x2) (fun z => (z.2,Obj.cells #[.int .i64 (0 : Int),.pointer (some ⟨m.d,0,none⟩),.int .u64 ((openF (doF (sc.getD i jz).a D)).2.1 : Int)] 121 (0,0)) :: dO (openF (doF (sc.getD i jz).a D)).2.2 m z.1) (fun z => MapOk z.1.1 z.1.2 (wv2 (openF (doF (sc.getD i jz).a D)).2.2.wait)) [(ab,.cells ((jac (sc.getD i jz)).toArray) 62 (0,0)),(jb,.cells #[.int .i64 why,.pointer (some ⟨m.d,0,none⟩),.int .u64 (num : Int)] 121 (0,0)),(kb,.cells #[.pointer (some ⟨r.r,0,none⟩),.int .u64 (num : Int),.int .i64 why] 68 (0,0))] (rO (toR (doF (sc.getD i jz).a D)) r ++ []) rfl rfl Tryz.func15 rfl rfl kr (fun w1 h hA1 hd1 => jOpenOk m x2 (doF (sc.getD i jz).a D) t0 fr0 w1 hg2 hmo_x2 om hA1 hd1 (h.hasR (fun e he => by rw [List.mem_singleton.1 he]; exact (tab_in (Rl := Rl) (sc := sc)))) (apart (Fl := [(ab,Obj.cells ((jac (sc.getD i jz)).toArray) 62 (0,0)),(jb,Obj.cells #[.int .i64 why,.pointer (some ⟨m.d,0,none⟩),.int .u64 (num : Int)] 121 (0,0)),(kb,Obj.cells #[.pointer (some ⟨r.r,0,none⟩),.int .u64 (num : Int),.int .i64 why] 68 (0,0))]) (A := dO (doF (sc.getD i jz).a D) m x2) (T := (rO (toR (doF (sc.getD i jz).a D)) r ++ [])) (L := [(0,Obj.cells (wv Kc) t0 fr0)]) h (fun e he => by rw [List.mem_singleton.1 he]; exact (tab_in (Rl := Rl) (sc := sc)))) h0)) ?_
      rintro ⟨x3,jb2⟩ hmo_x3
      refine Lp 5 [] (some [5,7,8,10,14,15,56,57,58]) n0 trivial ?_
      refine CfgL.done rfl ?_
      refine Cfg.begL rfl ?_
      refine Lp 1 [] none n0 trivial ?_
      refine Le (Eff.callH (vs := [.pointer (some ⟨r.r,0,none⟩)]) (fun z : Nat => .tuple #[.pointer (some ⟨z,0,none⟩),.int .i64 0]) (rO (toR (doF (sc.getD i jz).a D)) r) (fun z => (z,Obj.cells #[.pointer (some ⟨r.r,0,none⟩),.int .u64 ((openF (doF (sc.getD i jz).a D)).2.1 : Int),.int .i64 (0 : Int)] 68 (0,0)) :: rO (toR (openF (doF (sc.getD i jz).a D)).2.2) r) (fun _ => True) ([(ab,.cells ((jac (sc.getD i jz)).toArray) 62 (0,0)),(jb,.cells #[.int .i64 why,.pointer (some ⟨m.d,0,none⟩),.int .u64 (num : Int)] 121 (0,0)),(kb,.cells #[.pointer (some ⟨r.r,0,none⟩),.int .u64 (num : Int),.int .i64 why] 68 (0,0))] ++ ((jb2,Obj.cells #[.int .i64 (0 : Int),.pointer (some ⟨m.d,0,none⟩),.int .u64 ((openF (doF (sc.getD i jz).a D)).2.1 : Int)] 121 (0,0)) :: dO ((openF (doF (sc.getD i jz).a D)).2.2) m x3)) [] rfl rfl Tryz.func16 rfl rfl kr (fun w1 h hA1 hd1 => rOpenOk r (doF (sc.getD i jz).a D) w1 hg2 om hA1 hd1 h0)) ?_
      rintro kb2 -
      refine Lp 5 [] (some [5,7,8,10,14,15,16,17,56,57,58]) n0 trivial ?_
      refine CfgL.done rfl ?_
      refine Cfg.reg rfl [5,7,8,10,14,16,56,57,58,89] [dZ,dZ,dZ,dZ,(1,false,none),(1,false,none),(1,false,none),(1,false,none),(1,false,none)] (Γ' := [(89,[],.bool false),(16,[],.pointer (some ⟨kb2,0,none⟩)),(14,[],.pointer (some ⟨jb2,0,none⟩)),(58,[],.int .i64 (i : Int)),(57,[],.int .i64 (sc.length : Int)),(56,[],.slice (some ⟨sb,off,none⟩) sc.length cap),(10,[],.pointer (some ⟨kb,0,none⟩)),(8,[],.pointer (some ⟨jb,0,none⟩)),(7,[],.pointer (some ⟨r.r,0,none⟩)),(5,[],.pointer (some ⟨m.d,0,none⟩))]) (nd := (fun _ => [((.bool false : Value) = .bool false),((.bool false : Value) = .bool false),((.bool false : Value) = .bool false),((.bool false : Value) = .bool false),((.bool false : Value) = .bool false)])) (fun _ => kr) ⟨rfl,rfl,rfl,rfl,rfl,trivial⟩ ?_
      refine Cfg.condF rfl (b := false) kr rfl ?_
      refine Rg [5,7,8,10,14,16,56,57,58,91] [] n0 trivial ?_
      refine Cfg.condT rfl (b := true) kr rfl ?_
      refine Rg [5,7,8,10,56,57,58] [] n0 trivial ?_
      refine Rg [5,7,8,10,56,57,58] [] (fun _ => [((-9223372036854775808 : Int) ≤ ((i : Int) + 1) ∧ ((i : Int) + 1) ≤ 9223372036854775807)]) ⟨om,trivial⟩ ?_
      have hos := open_steps (doF (sc.getD i jz).a D)
      refine Cfg.again rfl (i + 1,(openF (doF (sc.getD i jz).a D)).2.2,x3,jb2,kb2,(0 : Int),(openF (doF (sc.getD i jz).a D)).2.1) ⟨by omega,open_good hg2,hmo_x3,by omega⟩ (by show sc.length - (i + 1) < sc.length - i; omega) (Conv.mk kr) (.cons _ (.cons _ (.cons _ (List.Sublist.refl _))))
     ·
      refine Cfg.setO (O' := ([(ab,Obj.cells ((jac (sc.getD i jz)).toArray) 62 (0,0)),(jb,Obj.cells #[.int .i64 why,.pointer (some ⟨m.d,0,none⟩),.int .u64 (num : Int)] 121 (0,0)),(kb,Obj.cells #[.pointer (some ⟨r.r,0,none⟩),.int .u64 (num : Int),.int .i64 why] 68 (0,0))] ++ (dO (doF (sc.getD i jz).a D) m x2 ++ (rO (toR (doF (sc.getD i jz).a D)) r ++ [])))) (by simp only [List.append_assoc]) ?_
      refine Cfg.begL rfl ?_
      refine Lp 1 [] (some [5,7,8,10,56,57,58,71]) n0 trivial ?_
      refine Le (Eff.callH (vs := [.pointer (some ⟨m.d,0,none⟩)]) (fun _ : MX => .tuple #[.pointer none,.int .i64 (openF (doF (sc.getD i jz).a D)).1]) (dO (doF (sc.getD i jz).a D) m x2) (fun z => dO (openF (doF (sc.getD i jz).a D)).2.2 m z) (fun z => MapOk z.1 z.2 (wv2 (openF (doF (sc.getD i jz).a D)).2.2.wait)) [(ab,.cells ((jac (sc.getD i jz)).toArray) 62 (0,0)),(jb,.cells #[.int .i64 why,.pointer (some ⟨m.d,0,none⟩),.int .u64 (num : Int)] 121 (0,0)),(kb,.cells #[.pointer (some ⟨r.r,0,none⟩),.int .u64 (num : Int),.int .i64 why] 68 (0,0))] (rO (toR (doF (sc.getD i jz).a D)) r ++ []) rfl rfl Tryz.func15 rfl rfl kr (fun w1 h hA1 hd1 => jOpenNo m x2 (doF (sc.getD i jz).a D) t0 fr0 w1 hg2 hmo_x2 om hA1 hd1 (h.hasR (fun e he => by rw [List.mem_singleton.1 he]; exact (tab_in (Rl := Rl) (sc := sc)))) (apart (Fl := [(ab,Obj.cells ((jac (sc.getD i jz)).toArray) 62 (0,0)),(jb,Obj.cells #[.int .i64 why,.pointer (some ⟨m.d,0,none⟩),.int .u64 (num : Int)] 121 (0,0)),(kb,Obj.cells #[.pointer (some ⟨r.r,0,none⟩),.int .u64 (num : Int),.int .i64 why] 68 (0,0))]) (A := dO (doF (sc.getD i jz).a D) m x2) (T := (rO (toR (doF (sc.getD i jz).a D)) r ++ [])) (L := [(0,Obj.cells (wv Kc) t0 fr0)]) h (fun e he => by rw [List.mem_singleton.1 he]; exact (tab_in (Rl := Rl) (sc := sc)))) h0)) ?_
      rintro x3 hmo_x3
      refine Lp 5 [] (some [5,7,8,10,14,15,56,57,58]) n0 trivial ?_
      refine CfgL.done rfl ?_
      refine Cfg.begL rfl ?_
      refine Lp 1 [] none n0 trivial ?_
      refine Le (Eff.callH (vs := [.pointer (some ⟨r.r,0,none⟩)]) (fun _ : Unit => .tuple #[.pointer none,.int .i64 (openF (doF (sc.getD i jz).a D)).1]) (rO (toR (doF (sc.getD i jz).a D)) r) (fun _ => rO (toR (openF (doF (sc.getD i jz).a D)).2.2) r) (fun _ => True) ([(ab,.cells ((jac (sc.getD i jz)).toArray) 62 (0,0)),(jb,.cells #[.int .i64 why,.pointer (some ⟨m.d,0,none⟩),.int .u64 (num : Int)] 121 (0,0)),(kb,.cells #[.pointer (some ⟨r.r,0,none⟩),.int .u64 (num : Int),.int .i64 why] 68 (0,0))] ++ (dO ((openF (doF (sc.getD i jz).a D)).2.2) m x3)) [] rfl rfl Tryz.func16 rfl rfl kr (fun w1 h hA1 hd1 => rOpenNo r (doF (sc.getD i jz).a D) w1 hg2 om hA1 hd1 h0)) ?_
      rintro ⟨⟩ -
      refine Lp 5 [] (some [5,7,8,10,14,15,16,17,56,57,58]) n0 trivial ?_
      refine CfgL.done rfl ?_
      refine Cfg.reg rfl [5,7,8,10,14,16,56,57,58,89] [] (Γ' := [(89,[],.bool ((((openF (doF (sc.getD i jz).a D)).1) != ((openF (doF (sc.getD i jz).a D)).1)) || false)),(16,[],.pointer none),(14,[],.pointer none),(58,[],.int .i64 (i : Int)),(57,[],.int .i64 (sc.length : Int)),(56,[],.slice (some ⟨sb,off,none⟩) sc.length cap),(10,[],.pointer (some ⟨kb,0,none⟩)),(8,[],.pointer (some ⟨jb,0,none⟩)),(7,[],.pointer (some ⟨r.r,0,none⟩)),(5,[],.pointer (some ⟨m.d,0,none⟩))]) (nd := (fun _ => [])) (fun _ => kr) trivial ?_
      refine Cfg.condF rfl (b := ((((openF (doF (sc.getD i jz).a D)).1) != ((openF (doF (sc.getD i jz).a D)).1)) || false)) kr (by rw [bne_self_eq_false]; rfl) ?_
      refine Rg [5,7,8,10,14,16,56,57,58,91] [] n0 trivial ?_
      refine Cfg.condF rfl (b := false) kr rfl ?_
      refine Rg [5,7,8,10,56,57,58] [] (fun _ => [((-9223372036854775808 : Int) ≤ ((i : Int) + 1) ∧ ((i : Int) + 1) ≤ 9223372036854775807)]) ⟨om,trivial⟩ ?_
      have hos := open_steps (doF (sc.getD i jz).a D)
      refine Cfg.permO (O' := ([(ab,Obj.cells ((jac (sc.getD i jz)).toArray) 62 (0,0))] ++ (((jb,Obj.cells #[.int .i64 why,.pointer (some ⟨m.d,0,none⟩),.int .u64 (num : Int)] 121 (0,0)) :: dO ((openF (doF (sc.getD i jz).a D)).2.2) m x3) ++ (((kb,Obj.cells #[.pointer (some ⟨r.r,0,none⟩),.int .u64 (num : Int),.int .i64 why] 68 (0,0)) :: rO (toR ((openF (doF (sc.getD i jz).a D)).2.2)) r) ++ [])))) (perm_kj [(ab,Obj.cells ((jac (sc.getD i jz)).toArray) 62 (0,0))] (jb,Obj.cells #[.int .i64 why,.pointer (some ⟨m.d,0,none⟩),.int .u64 (num : Int)] 121 (0,0)) (kb,Obj.cells #[.pointer (some ⟨r.r,0,none⟩),.int .u64 (num : Int),.int .i64 why] 68 (0,0)) (dO (openF (doF (sc.getD i jz).a D)).2.2 m x3) (rO (toR (openF (doF (sc.getD i jz).a D)).2.2) r)) ?_
      refine Cfg.again rfl (i + 1,(openF (doF (sc.getD i jz).a D)).2.2,x3,jb,kb,why,num) ⟨by omega,open_good hg2,hmo_x3,by omega⟩ (by show sc.length - (i + 1) < sc.length - i; omega) (Conv.mk kr) (.cons _ (List.Sublist.refl _))
    ·have c5 : ((sc.getD i jz).disk = false) := c5r
     obtain ⟨W,hW⟩ : ∃ W,W = wrs (sc.getD i jz).ps := ⟨_,rfl⟩
     have hWw : WW W := hW ▸ wrs_w (sc.getD i jz).ps
     have hWl : W.length = (sc.getD i jz).ps.length := hW ▸ wrs_len (sc.getD i jz).ps
     obtain ⟨CF,hCF⟩ : ∃ z,z = commitF ⟨why,num,D⟩ W := ⟨_,rfl⟩
     have hgC : DG CF.2.D := by rw [hCF]; exact commit_good (J := ⟨why,num,D⟩) hg hWw
     have hsC := commit_steps ⟨why,num,D⟩ W
     rw [← hCF] at hsC
     simp only at hsC
     obtain ⟨bJ,hbJ⟩ : ∃ z,z = if CF.2.why ≠ 0 then zb else readF CF.2.D 100 := ⟨_,rfl⟩
     obtain ⟨eJ,heJ⟩ : ∃ z,z = if CF.2.why ≠ 0 then CF.2.why else fltF CF.2.D 100 := ⟨_,rfl⟩
     have hbl : bJ.length = 512 := by rw [hbJ]; split; exact zb_len; exact readF_len hgC _
     refine Cfg.begL rfl ?_
     refine Lp 2 [dZ,(0,false,some (.slice (sc.getD i jz).la ((sc.getD i jz).ps.length) ((sc.getD i jz).cap)))] (some [5,7,8,10,56,57,58,96]) (fun S => [(∀ w1,S w1 → w1.cell? ⟨ab,0,none⟩ = some (.slice (sc.getD i jz).la ((sc.getD i jz).ps.length) ((sc.getD i jz).cap)))]) ⟨(fun w1 h => h.ocell 0 rfl rfl),trivial⟩ ?_
     refine Le (Eff.callTwo (vs := [.slice (sc.getD i jz).la ((sc.getD i jz).ps.length) ((sc.getD i jz).cap)]) (fun x : K.Own × K.Own => .tuple #[.slice (Own.a x.1) (sc.getD i jz).ps.length (Own.c x.1),.slice (Own.a x.2) (sc.getD i jz).ps.length (Own.c x.2)]) (fun x => Own.o 79 (jv W) x.1) (fun x => Own.o 36 (jv W) x.2) (fun x => OwnOk x.1 513 (sc.getD i jz).ps.length (jv W) ∧ OwnOk x.2 513 (sc.getD i jz).ps.length (jv W)) [(ab,.cells ((jac (sc.getD i jz)).toArray) 62 (0,0))] ([] ++ (((jb,Obj.cells #[.int .i64 why,.pointer (some ⟨m.d,0,none⟩),.int .u64 (num : Int)] 121 (0,0)) :: dO D m x) ++ (((kb,Obj.cells #[.pointer (some ⟨r.r,0,none⟩),.int .u64 (num : Int),.int .i64 why] 68 (0,0)) :: rO (toR D) r) ++ []))) rfl rfl Tryz.func6 rfl rfl kr (fun w1 h => by have h9 := lWrites (sc.getD i jz).la (sc.getD i jz).cap (sc.getD i jz).ps (sc.getD i jz).Rl w1 hjk.i om (h.hasR (allJ_in hin)); rw [← hW] at h9; exact h9)) ?_
     rintro ⟨ka,kc⟩ ⟨hka,hkc⟩
     simp only at hka hkc
     have hka2 : OwnOk ka 513 W.length (jv W) := hWl ▸ hka
     have hkc2 : OwnOk kc 513 W.length (jv W) := hWl ▸ hkc
     refine Lp 5 [] (some [5,7,8,10,18,19,56,57,58]) n0 trivial ?_
     refine CfgL.done rfl ?_
     refine Cfg.permO (O' := ([(ab,Obj.cells ((jac (sc.getD i jz)).toArray) 62 (0,0))] ++ (((jb,Obj.cells #[.int .i64 why,.pointer (some ⟨m.d,0,none⟩),.int .u64 (num : Int)] 121 (0,0)) :: dO D m x) ++ (((kb,Obj.cells #[.pointer (some ⟨r.r,0,none⟩),.int .u64 (num : Int),.int .i64 why] 68 (0,0)) :: rO (toR D) r) ++ (Own.o 79 (jv W) ka ++ (Own.o 36 (jv W) kc ++ [])))))) (perm4 [(ab,Obj.cells ((jac (sc.getD i jz)).toArray) 62 (0,0))] (Own.o 79 (jv W) ka) (Own.o 36 (jv W) kc) ((jb,Obj.cells #[.int .i64 why,.pointer (some ⟨m.d,0,none⟩),.int .u64 (num : Int)] 121 (0,0)) :: dO D m x) ((kb,Obj.cells #[.pointer (some ⟨r.r,0,none⟩),.int .u64 (num : Int),.int .i64 why] 68 (0,0)) :: rO (toR D) r)) ?_
     refine Cfg.begA rfl kr ([(ab,.cells ((jac (sc.getD i jz)).toArray) 62 (0,0))] ++ (Own.o 79 (jv W) ka ++ (Own.o 36 (jv W) kc ++ []))) ?_
     refine Ap [0,1,3,4] [] (some [5,7,8,10,56,57,58,100,101,103,104]) #[true,true,false,true,true,false,false,false,false,false,false,false,false,false,false,false,false,false,false,false,false,false,false,false,false,false,false,false,false,false,false,false,false,false,false] (.cons_cons _ (show List.Sublist (Own.o 79 (jv W) ka ++ (Own.o 36 (jv W) kc ++ [])) (((jb,Obj.cells #[.int .i64 why,.pointer (some ⟨m.d,0,none⟩),.int .u64 (num : Int)] 121 (0,0)) :: dO D m x) ++ (((kb,Obj.cells #[.pointer (some ⟨r.r,0,none⟩),.int .u64 (num : Int),.int .i64 why] 68 (0,0)) :: rO (toR D) r) ++ (Own.o 79 (jv W) ka ++ (Own.o 36 (jv W) kc ++ [])))) from (List.Sublist.trans (List.Sublist.trans (List.Sublist.append (List.Sublist.refl (Own.o 79 (jv W) ka)) (List.Sublist.append (List.Sublist.refl (Own.o 36 (jv W) kc)) (List.nil_sublist _))) (List.sublist_append_right (((kb,Obj.cells #[.pointer (some ⟨r.r,0,none⟩),.int .u64 (num : Int),.int .i64 why] 68 (0,0)) :: rO (toR D) r)) _)) (List.sublist_append_right (((jb,Obj.cells #[.int .i64 why,.pointer (some ⟨m.d,0,none⟩),.int .u64 (num : Int)] 121 (0,0)) :: dO D m x)) _)))) 31 n0 trivial ?_
     refine Ae 2 rfl 30  (Eff.callH (vs := [.pointer (some ⟨jb,0,none⟩),.slice (Own.a ka) ((sc.getD i jz).ps.length) (Own.c ka)]) (fun _ : MX => .int .i64 CF.1) ((jb,Obj.cells #[.int .i64 why,.pointer (some ⟨m.d,0,none⟩),.int .u64 (num : Int)] 121 (0,0)) :: dO D m x) (fun z => (jb,Obj.cells #[.int .i64 CF.2.why,.pointer (some ⟨m.d,0,none⟩),.int .u64 (CF.2.num : Int)] 121 (0,0)) :: dO CF.2.D m z) (fun z => MapOk z.1 z.2 (wv2 CF.2.D.wait)) [(ab,.cells ((jac (sc.getD i jz)).toArray) 62 (0,0))] (((kb,Obj.cells #[.pointer (some ⟨r.r,0,none⟩),.int .u64 (num : Int),.int .i64 why] 68 (0,0)) :: rO (toR D) r) ++ (Own.o 79 (jv W) ka ++ (Own.o 36 (jv W) kc ++ []))) rfl rfl Tryz.func18 rfl rfl kr (fun w1 h hA1 hd1 => by have h9 := jCommit jb why num m x D (Own.a ka) (Own.c ka) W (Own.o 79 (jv W) ka) t0 fr0 w1 hg hmo hA1 hd1 (inW_own hka2) hWw om om (cm_has (L := [(ab,Obj.cells ((jac (sc.getD i jz)).toArray) 62 (0,0))]) (A := ((jb,Obj.cells #[.int .i64 why,.pointer (some ⟨m.d,0,none⟩),.int .u64 (num : Int)] 121 (0,0)) :: dO D m x)) (T := (((kb,Obj.cells #[.pointer (some ⟨r.r,0,none⟩),.int .u64 (num : Int),.int .i64 why] 68 (0,0)) :: rO (toR D) r) ++ (Own.o 79 (jv W) ka ++ (Own.o 36 (jv W) kc ++ [])))) (S := Own.o 79 (jv W) ka) h (fun e he => List.mem_append_right _ (List.mem_append_left _ he)) (tab_in (Rl := Rl) (sc := sc))) (cm_apart (L := [(ab,Obj.cells ((jac (sc.getD i jz)).toArray) 62 (0,0))]) (A := ((jb,Obj.cells #[.int .i64 why,.pointer (some ⟨m.d,0,none⟩),.int .u64 (num : Int)] 121 (0,0)) :: dO D m x)) (T := (((kb,Obj.cells #[.pointer (some ⟨r.r,0,none⟩),.int .u64 (num : Int),.int .i64 why] 68 (0,0)) :: rO (toR D) r) ++ (Own.o 79 (jv W) ka ++ (Own.o 36 (jv W) kc ++ [])))) (S := Own.o 79 (jv W) ka) h (fun e he => List.mem_append_right _ (List.mem_append_left _ he)) (tab_in (Rl := Rl) (sc := sc))); rw [← hCF,hWl] at h9; exact h9)) (by rintro x2 hmo_x2; exact (.cons_cons _ (show List.Sublist (Own.o 79 (jv W) ka ++ (Own.o 36 (jv W) kc ++ [])) (((jb,Obj.cells #[.int .i64 CF.2.why,.pointer (some ⟨m.d,0,none⟩),.int .u64 (CF.2.num : Int)] 121 (0,0)) :: dO CF.2.D m x2) ++ (((kb,Obj.cells #[.pointer (some ⟨r.r,0,none⟩),.int .u64 (num : Int),.int .i64 why] 68 (0,0)) :: rO (toR D) r) ++ (Own.o 79 (jv W) ka ++ (Own.o 36 (jv W) kc ++ [])))) from (List.Sublist.trans (List.Sublist.trans (List.Sublist.append (List.Sublist.refl (Own.o 79 (jv W) ka)) (List.Sublist.append (List.Sublist.refl (Own.o 36 (jv W) kc)) (List.nil_sublist _))) (List.sublist_append_right (((kb,Obj.cells #[.pointer (some ⟨r.r,0,none⟩),.int .u64 (num : Int),.int .i64 why] 68 (0,0)) :: rO (toR D) r)) _)) (List.sublist_append_right (((jb,Obj.cells #[.int .i64 CF.2.why,.pointer (some ⟨m.d,0,none⟩),.int .u64 (CF.2.num : Int)] 121 (0,0)) :: dO CF.2.D m x2)) _))))) ?_
     rintro x2 hmo_x2
     refine Ae 5 rfl 29  (Eff.callH (vs := [.pointer (some ⟨kb,0,none⟩),.slice (Own.a kc) ((sc.getD i jz).ps.length) (Own.c kc)]) (fun _ : Unit => .int .i64 CF.1) ((kb,Obj.cells #[.pointer (some ⟨r.r,0,none⟩),.int .u64 (num : Int),.int .i64 why] 68 (0,0)) :: rO (toR D) r) (fun _ => (kb,Obj.cells #[.pointer (some ⟨r.r,0,none⟩),.int .u64 (CF.2.num : Int),.int .i64 CF.2.why] 68 (0,0)) :: rO (toR CF.2.D) r) (fun _ => True) ([(ab,.cells ((jac (sc.getD i jz)).toArray) 62 (0,0))] ++ ((jb,Obj.cells #[.int .i64 CF.2.why,.pointer (some ⟨m.d,0,none⟩),.int .u64 (CF.2.num : Int)] 121 (0,0)) :: dO CF.2.D m x2)) (Own.o 79 (jv W) ka ++ (Own.o 36 (jv W) kc ++ [])) rfl rfl Tryz.func19 rfl rfl kr (fun w1 h hA1 hd1 => by have h9 := rCommit kb why num r D (Own.a kc) (Own.c kc) W (Own.o 36 (jv W) kc) w1 hg hA1 hd1 (inW_own hkc2) hWw om om (fun e he => cm_has (L := ([(ab,Obj.cells ((jac (sc.getD i jz)).toArray) 62 (0,0))] ++ ((jb,Obj.cells #[.int .i64 CF.2.why,.pointer (some ⟨m.d,0,none⟩),.int .u64 (CF.2.num : Int)] 121 (0,0)) :: dO CF.2.D m x2))) (A := ((kb,Obj.cells #[.pointer (some ⟨r.r,0,none⟩),.int .u64 (num : Int),.int .i64 why] 68 (0,0)) :: rO (toR D) r)) (T := (Own.o 79 (jv W) ka ++ (Own.o 36 (jv W) kc ++ []))) (S := Own.o 36 (jv W) kc) h (fun e he => List.mem_append_right _ (List.mem_append_left _ he)) (tab_in (Rl := Rl) (sc := sc)) e (List.mem_cons_of_mem _ he)) (fun e he => cm_apart (L := ([(ab,Obj.cells ((jac (sc.getD i jz)).toArray) 62 (0,0))] ++ ((jb,Obj.cells #[.int .i64 CF.2.why,.pointer (some ⟨m.d,0,none⟩),.int .u64 (CF.2.num : Int)] 121 (0,0)) :: dO CF.2.D m x2))) (A := ((kb,Obj.cells #[.pointer (some ⟨r.r,0,none⟩),.int .u64 (num : Int),.int .i64 why] 68 (0,0)) :: rO (toR D) r)) (T := (Own.o 79 (jv W) ka ++ (Own.o 36 (jv W) kc ++ []))) (S := Own.o 36 (jv W) kc) h (fun e he => List.mem_append_right _ (List.mem_append_left _ he)) (tab_in (Rl := Rl) (sc := sc)) e (List.mem_cons_of_mem _ he)); rw [← hCF,hWl] at h9; exact h9.mono fun e w2 hx => ⟨(),trivial,hx⟩)) (by rintro ⟨⟩ -; exact (.cons_cons _ (show List.Sublist (Own.o 79 (jv W) ka ++ (Own.o 36 (jv W) kc ++ [])) (((jb,Obj.cells #[.int .i64 CF.2.why,.pointer (some ⟨m.d,0,none⟩),.int .u64 (CF.2.num : Int)] 121 (0,0)) :: dO CF.2.D m x2) ++ (((kb,Obj.cells #[.pointer (some ⟨r.r,0,none⟩),.int .u64 (CF.2.num : Int),.int .i64 CF.2.why] 68 (0,0)) :: rO (toR CF.2.D) r) ++ (Own.o 79 (jv W) ka ++ (Own.o 36 (jv W) kc ++ [])))) from (List.Sublist.trans (List.Sublist.trans (List.Sublist.append (List.Sublist.refl (Own.o 79 (jv W) ka)) (List.Sublist.append (List.Sublist.refl (Own.o 36 (jv W) kc)) (List.nil_sublist _))) (List.sublist_append_right (((kb,Obj.cells #[.pointer (some ⟨r.r,0,none⟩),.int .u64 (CF.2.num : Int),.int .i64 CF.2.why] 68 (0,0)) :: rO (toR CF.2.D) r)) _)) (List.sublist_append_right (((jb,Obj.cells #[.int .i64 CF.2.why,.pointer (some ⟨m.d,0,none⟩),.int .u64 (CF.2.num : Int)] 121 (0,0)) :: dO CF.2.D m x2)) _))))) ?_
     rintro ⟨⟩ -
     refine CfgA.grow ([(ab,Obj.cells ((jac (sc.getD i jz)).toArray) 62 (0,0))] ++ (((jb,Obj.cells #[.int .i64 CF.2.why,.pointer (some ⟨m.d,0,none⟩),.int .u64 (CF.2.num : Int)] 121 (0,0)) :: dO CF.2.D m x2) ++ (((kb,Obj.cells #[.pointer (some ⟨r.r,0,none⟩),.int .u64 (CF.2.num : Int),.int .i64 CF.2.why] 68 (0,0)) :: rO (toR CF.2.D) r) ++ (Own.o 79 (jv W) ka ++ (Own.o 36 (jv W) kc ++ []))))) (by exact (.cons_cons _ (show List.Sublist (Own.o 79 (jv W) ka ++ (Own.o 36 (jv W) kc ++ [])) (((jb,Obj.cells #[.int .i64 CF.2.why,.pointer (some ⟨m.d,0,none⟩),.int .u64 (CF.2.num : Int)] 121 (0,0)) :: dO CF.2.D m x2) ++ (((kb,Obj.cells #[.pointer (some ⟨r.r,0,none⟩),.int .u64 (CF.2.num : Int),.int .i64 CF.2.why] 68 (0,0)) :: rO (toR CF.2.D) r) ++ (Own.o 79 (jv W) ka ++ (Own.o 36 (jv W) kc ++ [])))) from (List.Sublist.trans (List.Sublist.trans (List.Sublist.append (List.Sublist.refl (Own.o 79 (jv W) ka)) (List.Sublist.append (List.Sublist.refl (Own.o 36 (jv W) kc)) (List.nil_sublist _))) (List.sublist_append_right (((kb,Obj.cells #[.pointer (some ⟨r.r,0,none⟩),.int .u64 (CF.2.num : Int),.int .i64 CF.2.why] 68 (0,0)) :: rO (toR CF.2.D) r)) _)) (List.sublist_append_right (((jb,Obj.cells #[.int .i64 CF.2.why,.pointer (some ⟨m.d,0,none⟩),.int .u64 (CF.2.num : Int)] 121 (0,0)) :: dO CF.2.D m x2)) _))))) ?_
     refine Ap [6,7] [] (some [5,7,8,10,56,57,58,107]) #[true,true,true,true,true,true,true,true,false,false,false,false,false,false,false,false,false,false,false,false,false,false,false,false,false,false,false,false,false,false,false,false,false,false,false] (.cons_cons _ (List.Sublist.refl _)) 27 n0 trivial ?_
     refine CfgA.known 107 (b := (CF.1 != CF.1)) kr false (bne_self_eq_false _) ?_
     refine Ap [8,10,11,12,13] [(1,false,none),(1,false,none),(1,false,none),(1,false,none),(1,false,some (.int .u64 (CF.2.num : Int)))] (some [5,7,8,10,56,57,58,107,108,113]) #[true,true,true,true,true,true,true,true,true,false,true,true,true,true,false,false,false,false,false,false,false,false,false,false,false,false,false,false,false,false,false,false,false,false,false] (.cons_cons _ (List.Sublist.refl _)) 22 (fun S => [((.bool false : Value) = .bool false),((.bool false : Value) = .bool false),((.bool false : Value) = .bool false),((.bool false : Value) = .bool false),((.bool false : Value) = .bool false),(∀ w1,S w1 → w1.cell? ⟨kb,1,none⟩ = some (.int .u64 (CF.2.num : Int)))]) ⟨rfl,rfl,rfl,rfl,rfl,(fun w1 h => by rw [cell_cells (h.own ((kb,Obj.cells #[.pointer (some ⟨r.r,0,none⟩),.int .u64 (CF.2.num : Int),.int .i64 CF.2.why] 68 (0,0))) (List.mem_append_right [(ab,Obj.cells ((jac (sc.getD i jz)).toArray) 62 (0,0))] (List.mem_append_right (((jb,Obj.cells #[.int .i64 CF.2.why,.pointer (some ⟨m.d,0,none⟩),.int .u64 (CF.2.num : Int)] 121 (0,0)) :: dO CF.2.D m x2)) (List.mem_append_left _ (List.mem_cons_self ..)))))]; rfl),trivial⟩ ?_
     refine Ae 9 rfl 21  (Eff.callA (vs := [.pointer (some ⟨jb,0,none⟩)]) (.int .u64 (CF.2.num : Int)) rfl Tryz.func20 rfl rfl kr (fun w1 h => jNumber jb CF.2.why CF.2.num m x2 CF.2.D w1 (fun e he => h.own e (List.mem_append_right [(ab,Obj.cells ((jac (sc.getD i jz)).toArray) 62 (0,0))] (List.mem_append_left _ he))))) (fun _ _ => (.cons_cons _ (List.Sublist.refl _))) ?_
     rintro ⟨⟩ -
     refine CfgA.pure [14,15,16] [(1,false,none)] (some [5,7,8,10,56,57,58,116]) (l' := tF 17 18) kr kr (.cons_cons _ (List.Sublist.refl _)) 18 rfl (Γ' := [(116,[],.bool ((CF.2.num : Int) != (CF.2.num : Int))),(58,[],.int .i64 (i : Int)),(57,[],.int .i64 (sc.length : Int)),(56,[],.slice (some ⟨sb,off,none⟩) sc.length cap),(10,[],.pointer (some ⟨kb,0,none⟩)),(8,[],.pointer (some ⟨jb,0,none⟩)),(7,[],.pointer (some ⟨r.r,0,none⟩)),(5,[],.pointer (some ⟨m.d,0,none⟩))]) (nd := (fun _ => [((.bool false : Value) = .bool false)])) (fun _ => kr) ⟨rfl,trivial⟩ ?_
     refine CfgA.known 116 (b := ((CF.2.num : Int) != (CF.2.num : Int))) kr false (bne_self_eq_false _) ?_
     refine Ap [17,19,20,21,22] [(1,false,none),(1,false,none),(1,false,none),(1,false,none),(1,false,some (.int .i64 CF.2.why))] (some [5,7,8,10,56,57,58,116,117,122]) #[true,true,true,true,true,true,true,true,true,true,true,true,true,true,true,true,true,true,false,true,true,true,true,false,false,false,false,false,false,false,false,false,false,false,false] (.cons_cons _ (List.Sublist.refl _)) 13 (fun S => [((.bool false : Value) = .bool false),((.bool false : Value) = .bool false),((.bool false : Value) = .bool false),((.bool false : Value) = .bool false),((.bool false : Value) = .bool false),(∀ w1,S w1 → w1.cell? ⟨kb,2,none⟩ = some (.int .i64 CF.2.why))]) ⟨rfl,rfl,rfl,rfl,rfl,(fun w1 h => by rw [cell_cells (h.own ((kb,Obj.cells #[.pointer (some ⟨r.r,0,none⟩),.int .u64 (CF.2.num : Int),.int .i64 CF.2.why] 68 (0,0))) (List.mem_append_right [(ab,Obj.cells ((jac (sc.getD i jz)).toArray) 62 (0,0))] (List.mem_append_right (((jb,Obj.cells #[.int .i64 CF.2.why,.pointer (some ⟨m.d,0,none⟩),.int .u64 (CF.2.num : Int)] 121 (0,0)) :: dO CF.2.D m x2)) (List.mem_append_left _ (List.mem_cons_self ..)))))]; rfl),trivial⟩ ?_
     refine Ae 18 rfl 12  (Eff.callA (vs := [.pointer (some ⟨jb,0,none⟩)]) (.int .i64 CF.2.why) rfl Tryz.func21 rfl rfl kr (fun w1 h => jErr jb CF.2.why CF.2.num m x2 CF.2.D w1 (fun e he => h.own e (List.mem_append_right [(ab,Obj.cells ((jac (sc.getD i jz)).toArray) 62 (0,0))] (List.mem_append_left _ he))))) (fun _ _ => (.cons_cons _ (List.Sublist.refl _))) ?_
     rintro ⟨⟩ -
     refine Ap [23,24,25] [(1,false,none)] (some [5,7,8,10,56,57,58,125]) #[true,true,true,true,true,true,true,true,true,true,true,true,true,true,true,true,true,true,true,true,true,true,true,true,true,true,false,false,false,false,false,false,false,false,false] (.cons_cons _ (List.Sublist.refl _)) 9 (fun _ => [((.bool false : Value) = .bool false)]) ⟨rfl,trivial⟩ ?_
     refine CfgA.known 125 (b := (CF.2.why != CF.2.why)) kr false (bne_self_eq_false _) ?_
     refine Ap [26,28,29,30,31,32] [(1,false,none),(1,false,none),(1,false,none),(1,false,none),(1,false,some (.slice (some ⟨r.lb,0,none⟩) CF.2.D.last.length CF.2.D.last.length)),(1,false,none)] (some [5,7,8,10,56,57,58,125,126,132]) #[true,true,true,true,true,true,true,true,true,true,true,true,true,true,true,true,true,true,true,true,true,true,true,true,true,true,true,false,true,true,true,true,true,false,false] (.cons_cons _ (List.Sublist.refl _)) 3 (fun S => [((.bool false : Value) = .bool false),((.bool false : Value) = .bool false),((.bool false : Value) = .bool false),((.bool false : Value) = .bool false),((.bool false : Value) = .bool false),(∀ w1,S w1 → w1.cell? ⟨r.r,1,none⟩ = some (.slice (some ⟨r.lb,0,none⟩) CF.2.D.last.length CF.2.D.last.length)),((.bool false : Value) = .bool false)]) ⟨rfl,rfl,rfl,rfl,rfl,(fun w1 h => by rw [cell_cells (h.own (r.r,.cells (rC (toR CF.2.D) r) 72 (0,0)) (List.mem_append_right [(ab,Obj.cells ((jac (sc.getD i jz)).toArray) 62 (0,0))] (List.mem_append_right (((jb,Obj.cells #[.int .i64 CF.2.why,.pointer (some ⟨m.d,0,none⟩),.int .u64 (CF.2.num : Int)] 121 (0,0)) :: dO CF.2.D m x2)) (List.mem_append_left _ (List.mem_cons_of_mem _ (List.mem_cons_self ..)))))),rC]; rfl),rfl,trivial⟩ ?_
     refine Ae 27 rfl 2  (Eff.callA (vs := [.pointer (some ⟨jb,0,none⟩)]) (.int .i64 (CF.2.D.last.length : Int)) rfl Tryz.func22 rfl rfl kr (fun w1 h => jSectors jb CF.2.why CF.2.num m x2 CF.2.D w1 (fun e he => h.own e (List.mem_append_right [(ab,Obj.cells ((jac (sc.getD i jz)).toArray) 62 (0,0))] (List.mem_append_left _ he))))) (fun _ _ => (.cons_cons _ (List.Sublist.refl _))) ?_
     rintro ⟨⟩ -
     refine Ap [33,34] [(1,false,none)] (some [5,7,8,10,56,57,58,134]) #[true,true,true,true,true,true,true,true,true,true,true,true,true,true,true,true,true,true,true,true,true,true,true,true,true,true,true,true,true,true,true,true,true,true,true] (.cons_cons _ (List.Sublist.refl _)) 0 (fun _ => [((.bool false : Value) = .bool false)]) ⟨rfl,trivial⟩ ?_
     refine CfgA.done kr ?_
     refine Cfg.condF rfl (b := ((CF.2.D.last.length : Int) != (CF.2.D.last.length : Int))) kr (bne_self_eq_false _) ?_
     refine Cfg.begL rfl ?_
     refine Lp 1 [] (some [5,7,8,10,56,57,58,136]) n0 trivial ?_
     refine Le (Eff.callA (vs := [.pointer (some ⟨jb,0,none⟩),.int .i64 100]) (.tuple #[.agg (bv bJ),.int .i64 eJ]) rfl Tryz.func23 rfl rfl kr (fun w1 h => by have h9 := jRead jb CF.2.why CF.2.num m x2 CF.2.D 100 w1 hgC hmo_x2 (fun e he => h.own e (List.mem_append_right [(ab,Obj.cells ((jac (sc.getD i jz)).toArray) 62 (0,0))] (List.mem_append_left _ he))); rw [← hbJ,← heJ] at h9; exact h9)) ?_
     rintro ⟨⟩ -
     refine Lp 3 [] (some [5,7,8,10,56,57,58,138,139]) n0 trivial ?_
     refine Le (Eff.alloc (z := (.agg (bv (List.replicate 512 0)))) rfl kr) ?_
     rintro b20 ⟨hb20,nb20⟩
     refine Le (Eff.storeN (b := b20) (off := 0) (vs := (bv bJ)) (n := 512) rfl kr kr kr ((bv_size _).trans hbl) (all_bv _) 0 (cs := (bv (List.replicate 512 0))) (e := 25) kr (by rw [zsz512]; omega)) ?_
     rintro ⟨⟩ -
     refine CfgL.setO (congrArg (fun (xq : Array Value) => (([(b20,.cells xq 25 (0,0)),(ab,.cells ((jac (sc.getD i jz)).toArray) 62 (0,0))] ++ (((jb,Obj.cells #[.int .i64 CF.2.why,.pointer (some ⟨m.d,0,none⟩),.int .u64 (CF.2.num : Int)] 121 (0,0)) :: dO CF.2.D m x2) ++ (((kb,Obj.cells #[.pointer (some ⟨r.r,0,none⟩),.int .u64 (CF.2.num : Int),.int .i64 CF.2.why] 68 (0,0)) :: rO (toR CF.2.D) r) ++ (Own.o 79 (jv W) ka ++ (Own.o 36 (jv W) kc ++ []))))) : List (Nat × Obj))) (show _ = (bv bJ) from spl_all (((bv_size _).trans hbl).trans zsz512.symm))) ?_
     refine Lp 1 [] (some [5,7,8,10,20,21,56,57,58]) n0 trivial ?_
     refine CfgL.done rfl ?_
     refine Cfg.begL rfl ?_
     refine CfgL.pure 1 [] none (Γ' := [(141,[],.pointer (some ⟨r.r,0,none⟩)),(21,[],.int .i64 eJ),(20,[],.pointer (some ⟨b20,0,none⟩)),(58,[],.int .i64 (i : Int)),(57,[],.int .i64 (sc.length : Int)),(56,[],.slice (some ⟨sb,off,none⟩) sc.length cap),(10,[],.pointer (some ⟨kb,0,none⟩)),(8,[],.pointer (some ⟨jb,0,none⟩)),(7,[],.pointer (some ⟨r.r,0,none⟩)),(5,[],.pointer (some ⟨m.d,0,none⟩))]) (nd := (fun _ => [])) kr (fun _ => kr) trivial ?_
     refine Le (Eff.callA (vs := [.pointer (some ⟨r.r,0,none⟩),.int .i64 100]) (.tuple #[.agg (bv (readF CF.2.D 100)),.int .i64 (fltF CF.2.D 100)]) rfl Tryz.func24 rfl rfl kr (fun w1 h => by have h9 := rRead r (toR CF.2.D) 100 w1 (toR_ok hgC) (fun e he => h.own e (List.mem_append_right [(b20,Obj.cells (bv bJ) 25 (0,0)),(ab,Obj.cells ((jac (sc.getD i jz)).toArray) 62 (0,0))] (List.mem_append_right (((jb,Obj.cells #[.int .i64 CF.2.why,.pointer (some ⟨m.d,0,none⟩),.int .u64 (CF.2.num : Int)] 121 (0,0)) :: dO CF.2.D m x2)) (List.mem_append_left _ (List.mem_cons_of_mem _ he))))); rw [toR_readE,toR_readB] at h9; exact h9)) ?_
     rintro ⟨⟩ -
     refine Lp 3 [] (some [5,7,8,10,20,21,56,57,58,143,144]) n0 trivial ?_
     refine Le (Eff.alloc (z := (.agg (bv (List.replicate 512 0)))) rfl kr) ?_
     rintro b22 ⟨hb22,nb22⟩
     refine Le (Eff.storeN (b := b22) (off := 0) (vs := (bv (readF CF.2.D 100))) (n := 512) rfl kr kr kr ((bv_size _).trans (readF_len hgC _)) (all_bv _) 0 (cs := (bv (List.replicate 512 0))) (e := 25) kr (by rw [zsz512]; omega)) ?_
     rintro ⟨⟩ -
     refine CfgL.setO (congrArg (fun (xq : Array Value) => (([(b22,.cells xq 25 (0,0)),(b20,.cells (bv bJ) 25 (0,0)),(ab,.cells ((jac (sc.getD i jz)).toArray) 62 (0,0))] ++ (((jb,Obj.cells #[.int .i64 CF.2.why,.pointer (some ⟨m.d,0,none⟩),.int .u64 (CF.2.num : Int)] 121 (0,0)) :: dO CF.2.D m x2) ++ (((kb,Obj.cells #[.pointer (some ⟨r.r,0,none⟩),.int .u64 (CF.2.num : Int),.int .i64 CF.2.why] 68 (0,0)) :: rO (toR CF.2.D) r) ++ (Own.o 79 (jv W) ka ++ (Own.o 36 (jv W) kc ++ []))))) : List (Nat × Obj))) (show _ = (bv (readF CF.2.D 100)) from spl_all (((bv_size _).trans (readF_len hgC _)).trans zsz512.symm))) ?_
     refine Lp 1 [] (some [5,7,8,10,20,21,22,23,56,57,58]) n0 trivial ?_
     refine CfgL.done rfl ?_
     refine Rg [5,7,8,10,20,21,22,23,56,57,58,149] [dZ,dZ,dZ,(0,false,some (.int .i64 CF.2.why))] (fun S => [(∀ w1,S w1 → w1.cell? ⟨kb,2,none⟩ = some (.int .i64 CF.2.why))]) ⟨(fun w1 h => by rw [cell_cells (h.own ((kb,Obj.cells #[.pointer (some ⟨r.r,0,none⟩),.int .u64 (CF.2.num : Int),.int .i64 CF.2.why] 68 (0,0))) (List.mem_append_right [(b22,Obj.cells (bv (readF CF.2.D 100)) 25 (0,0)),(b20,Obj.cells (bv bJ) 25 (0,0)),(ab,Obj.cells ((jac (sc.getD i jz)).toArray) 62 (0,0))] (List.mem_append_right (((jb,Obj.cells #[.int .i64 CF.2.why,.pointer (some ⟨m.d,0,none⟩),.int .u64 (CF.2.num : Int)] 121 (0,0)) :: dO CF.2.D m x2)) (List.mem_append_left _ (List.mem_cons_self ..)))))]; rfl),trivial⟩ ?_
     refine Cfg.cond rfl (b := (CF.2.why != (0 : Int))) kr (fun c15r => ?_) (fun c15r => ?_)
     ·have c15 := (bne_iff_ne.1 c15r)
      refine Rg [5,7,8,10,56,57,58,155] [dZ,dZ,dZ,dZ,(0,false,some (.int .i64 CF.2.why))] (fun S => [(∀ w1,S w1 → w1.cell? ⟨kb,2,none⟩ = some (.int .i64 CF.2.why))]) ⟨(fun w1 h => by rw [cell_cells (h.own ((kb,Obj.cells #[.pointer (some ⟨r.r,0,none⟩),.int .u64 (CF.2.num : Int),.int .i64 CF.2.why] 68 (0,0))) (List.mem_append_right [(b22,Obj.cells (bv (readF CF.2.D 100)) 25 (0,0)),(b20,Obj.cells (bv bJ) 25 (0,0)),(ab,Obj.cells ((jac (sc.getD i jz)).toArray) 62 (0,0))] (List.mem_append_right (((jb,Obj.cells #[.int .i64 CF.2.why,.pointer (some ⟨m.d,0,none⟩),.int .u64 (CF.2.num : Int)] 121 (0,0)) :: dO CF.2.D m x2)) (List.mem_append_left _ (List.mem_cons_self ..)))))]; rfl),trivial⟩ ?_
      refine Cfg.condF rfl (b := (eJ != CF.2.why)) kr (by rw [heJ,if_pos c15]; exact bne_self_eq_false _) ?_
      refine Rg [5,7,8,10,56,57,58] [] (fun _ => [((-9223372036854775808 : Int) ≤ ((i : Int) + 1) ∧ ((i : Int) + 1) ≤ 9223372036854775807)]) ⟨om,trivial⟩ ?_
      refine Cfg.again rfl (i + 1,CF.2.D,x2,jb,kb,CF.2.why,CF.2.num) ⟨by omega,hgC,hmo_x2,by omega⟩ (by show sc.length - (i + 1) < sc.length - i; omega) (Conv.mk kr) (.cons _ (.cons _ (.cons _ (show List.Sublist (((jb,Obj.cells #[.int .i64 CF.2.why,.pointer (some ⟨m.d,0,none⟩),.int .u64 (CF.2.num : Int)] 121 (0,0)) :: dO CF.2.D m x2) ++ (((kb,Obj.cells #[.pointer (some ⟨r.r,0,none⟩),.int .u64 (CF.2.num : Int),.int .i64 CF.2.why] 68 (0,0)) :: rO (toR CF.2.D) r) ++ [])) (((jb,Obj.cells #[.int .i64 CF.2.why,.pointer (some ⟨m.d,0,none⟩),.int .u64 (CF.2.num : Int)] 121 (0,0)) :: dO CF.2.D m x2) ++ (((kb,Obj.cells #[.pointer (some ⟨r.r,0,none⟩),.int .u64 (CF.2.num : Int),.int .i64 CF.2.why] 68 (0,0)) :: rO (toR CF.2.D) r) ++ (Own.o 79 (jv W) ka ++ (Own.o 36 (jv W) kc ++ [])))) from List.Sublist.append (List.Sublist.refl ((jb,Obj.cells #[.int .i64 CF.2.why,.pointer (some ⟨m.d,0,none⟩),.int .u64 (CF.2.num : Int)] 121 (0,0)) :: dO CF.2.D m x2)) (List.Sublist.append (List.Sublist.refl ((kb,Obj.cells #[.pointer (some ⟨r.r,0,none⟩),.int .u64 (CF.2.num : Int),.int .i64 CF.2.why] 68 (0,0)) :: rO (toR CF.2.D) r)) (List.nil_sublist _))))))
     ·have c15 := (bne_eq_false_iff_eq.1 c15r)
      refine Rg [5,7,8,10,56,57,58,163] [(0,false,some (.agg (bv bJ))),(0,false,some (.agg (bv (readF CF.2.D 100)))),(0,false,some (.bool (bJ == (readF CF.2.D 100))))] (fun S => [(∀ w1,S w1 → (loadVar 25 ⟨b20,0,none⟩).run Tryz.prog w1 = .ok (.agg (bv bJ)) w1),(∀ w1,S w1 → (loadVar 25 ⟨b22,0,none⟩).run Tryz.prog w1 = .ok (.agg (bv (readF CF.2.D 100))) w1),(∀ w1,S w1 → (Op.equal 25 (.agg (bv bJ)) (.agg (bv (readF CF.2.D 100)))).run Tryz.prog w1 = .ok (bJ == (readF CF.2.D 100)) w1)]) ⟨(fun w1 h => h.oload 1 rfl Tryz.underlying25 rfl (n := 512) kr ((bv_size _).trans hbl)),(fun w1 h => h.oload 0 rfl Tryz.underlying25 rfl (n := 512) kr ((bv_size _).trans (readF_len hgC _))),(fun _ _ => equal_bv Tryz.underlying25 Tryz.underlying5 kr hbl (readF_len hgC _)),trivial⟩ ?_
      refine Cfg.condF rfl (b := ((!(bJ == (readF CF.2.D 100))) || (eJ != (fltF CF.2.D 100)))) kr (by rw [hbJ,heJ,if_neg (fun e => e c15),if_neg (fun e => e c15),beq_self_eq_true,bne_self_eq_false]; rfl) ?_
      refine Rg [5,7,8,10,56,57,58] [] (fun _ => [((-9223372036854775808 : Int) ≤ ((i : Int) + 1) ∧ ((i : Int) + 1) ≤ 9223372036854775807)]) ⟨om,trivial⟩ ?_
      refine Cfg.again rfl (i + 1,CF.2.D,x2,jb,kb,CF.2.why,CF.2.num) ⟨by omega,hgC,hmo_x2,by omega⟩ (by show sc.length - (i + 1) < sc.length - i; omega) (Conv.mk kr) (.cons _ (.cons _ (.cons _ (show List.Sublist (((jb,Obj.cells #[.int .i64 CF.2.why,.pointer (some ⟨m.d,0,none⟩),.int .u64 (CF.2.num : Int)] 121 (0,0)) :: dO CF.2.D m x2) ++ (((kb,Obj.cells #[.pointer (some ⟨r.r,0,none⟩),.int .u64 (CF.2.num : Int),.int .i64 CF.2.why] 68 (0,0)) :: rO (toR CF.2.D) r) ++ [])) (((jb,Obj.cells #[.int .i64 CF.2.why,.pointer (some ⟨m.d,0,none⟩),.int .u64 (CF.2.num : Int)] 121 (0,0)) :: dO CF.2.D m x2) ++ (((kb,Obj.cells #[.pointer (some ⟨r.r,0,none⟩),.int .u64 (CF.2.num : Int),.int .i64 CF.2.why] 68 (0,0)) :: rO (toR CF.2.D) r) ++ (Own.o 79 (jv W) ka ++ (Own.o 36 (jv W) kc ++ [])))) from List.Sublist.append (List.Sublist.refl ((jb,Obj.cells #[.int .i64 CF.2.why,.pointer (some ⟨m.d,0,none⟩),.int .u64 (CF.2.num : Int)] 121 (0,0)) :: dO CF.2.D m x2)) (List.Sublist.append (List.Sublist.refl ((kb,Obj.cells #[.pointer (some ⟨r.r,0,none⟩),.int .u64 (CF.2.num : Int),.int .i64 CF.2.why] 68 (0,0)) :: rO (toR CF.2.D) r)) (List.nil_sublist _))))))
   ·have c4 := (of_decide_eq_false c4r)
    refine Cfg.begL rfl ?_
    refine CfgL.pure 2 [] (some [165,166]) (Γ' := [(166,[],.pointer (some ⟨r.r,0,none⟩)),(165,[],.pointer (some ⟨m.d,0,none⟩))]) (nd := (fun _ => [])) kr (fun _ => kr) trivial ?_
    refine Le (Eff.callA (vs := [.pointer (some ⟨m.d,0,none⟩),.pointer (some ⟨r.r,0,none⟩)]) (.bool true) rfl Tryz.func25 rfl rfl kr (fun w1 h => dSame m r x D w1 hg hmo (jk_has (L := []) h))) ?_
    rintro ⟨⟩ -
    refine Lp 1 [] (some [4]) n0 trivial ?_
    refine CfgL.done rfl ?_
    refine Cfg.ret rfl (rs := [.tmp 4]) rfl [.bool true] ⟨kr,trivial⟩ (fun w1 hp => ?_)
    exact ⟨by simp [resOf],hp.ext⟩
end Go.Proofs.YtohjpggjgomgoaaGreatDoor
namespace Go.Proofs.YtohjpggjgomgoaaGreatDoor
open K
set_option linter.unusedVariables false
open Go.ChangeShapes Go.WideShapes
theorem list4 {cs : List Value} (h : cs.length = 4) : cs = (cs.drop 0).take 1 ++ (cs.drop 1).take 1 ++ (cs.drop 2).take 1 ++ (cs.drop 3).take 1 := by
 match cs,h with
 | [a,b,c,d],_ => rfl
theorem act_open {H : Type} {enc : TypeId × Value → H} {w : World} {base : Nat} {held : Bool} (cs : List Value) (fuel : Nat) (y : DataW H × List MemPlace) (hl : cs.length = 4) (h : DataW.trod enc Tryz.prog w base (fun _ => true) held fuel 60 cs = some y) :
  ∃ a : AK,AKok w a ∧ cs = ac a := by
 obtain ⟨xs,m,_,_,_,hlen,hf⟩ := DataW.trod_struct Tryz.underlying60 h
 have c1 : Tryz.prog.cellsOf 3 = 1 := by kernel_rfl
 have c2 : Tryz.prog.cellsOf 5 = 1 := by kernel_rfl
 have c3 : Tryz.prog.cellsOf 58 = 1 := by kernel_rfl
 match xs,hlen with
 | [y0,y1,y2,y3],_ =>
  have h0 : DataW.trod enc Tryz.prog w base (fun _ => true) held m 3 ((cs.drop 0).take 1) = some y0 := by have q := hf 0 ⟨ "Do",3,0,false,"","",0⟩ rfl; simp only [c1] at q; exact q
  have h1 : DataW.trod enc Tryz.prog w base (fun _ => true) held m 3 ((cs.drop 1).take 1) = some y1 := by have q := hf 1 ⟨ "At",3,1,false,"","",8⟩ rfl; simp only [c1] at q; exact q
  have h2 : DataW.trod enc Tryz.prog w base (fun _ => true) held m 5 ((cs.drop 2).take 1) = some y2 := by have q := hf 2 ⟨ "B",5,2,false,"","",16⟩ rfl; simp only [c2] at q; exact q
  have h3 : DataW.trod enc Tryz.prog w base (fun _ => true) held m 58 ((cs.drop 3).take 1) = some y3 := by have q := hf 3 ⟨ "Kept",58,3,false,"","",24⟩ rfl; simp only [c3] at q; exact q
  obtain ⟨d,hd,_⟩ := DataW.trod_int Tryz.underlying3 h0
  obtain ⟨q,hq,_,hqw⟩ := DataW.trod_int Tryz.underlying3 h1
  obtain ⟨b,hb,_⟩ := DataW.trod_int Tryz.underlying5 h2
  rw [hb] at h2
  have hb2 := trod_u8 Tryz.underlying5 h2
  obtain ⟨la,cap,ks,Rl,hk,hk1,hk2,_,hR,hI⟩ := trod_bools Tryz.underlying58 Tryz.underlying4 kr h3
  have hq2 : -9223372036854775808 ≤ q ∧ q ≤ 9223372036854775807 := by
   simp [Lit.wf,IntKind.min,IntKind.max,IntKind.signed,IntKind.bits] at hqw
   omega
  refine ⟨⟨d,q,toB (.int .u8 b),la,cap,ks,Rl⟩,⟨hq2,Nat.le_trans hk1 hk2,hR,hI⟩,?_⟩
  have h9 := list4 hl
  rw [hd,hq,hb,hk] at h9
  unfold ac
  rw [← hb2]
  exact h9
open Go.ChangeShapes Go.WideShapes
theorem list6 {cs : List Value} (h : cs.length = 6) : cs = (cs.drop 0).take 1 ++ (cs.drop 1).take 1 ++ (cs.drop 2).take 4 := by
 match cs,h with
 | [a,b,c,d,e,f],_ => rfl
theorem jact_open {H : Type} {enc : TypeId × Value → H} {w : World} {base : Nat} {held : Bool} (cs : List Value) (fuel : Nat) (y : DataW H × List MemPlace) (hl : cs.length = 6) (h : DataW.trod enc Tryz.prog w base (fun _ => true) held fuel 62 cs = some y) :
  ∃ a : JA,JAok w a ∧ cs = jac a := by
 obtain ⟨xs,m,_,_,_,hlen,hf⟩ := DataW.trod_struct Tryz.underlying62 h
 have c1 : Tryz.prog.cellsOf 23 = 1 := by kernel_rfl
 have c2 : Tryz.prog.cellsOf 4 = 1 := by kernel_rfl
 have c3 : Tryz.prog.cellsOf 60 = 4 := by kernel_rfl
 match xs,hlen with
 | [y0,y1,y2],_ =>
  have h0 : DataW.trod enc Tryz.prog w base (fun _ => true) held m 23 ((cs.drop 0).take 1) = some y0 := by have q := hf 0 ⟨ "L",23,0,false,"","",0⟩ rfl; simp only [c1] at q; exact q
  have h1 : DataW.trod enc Tryz.prog w base (fun _ => true) held m 4 ((cs.drop 1).take 1) = some y1 := by have q := hf 1 ⟨ "Disk",4,1,false,"","",24⟩ rfl; simp only [c2] at q; exact q
  have h2 : DataW.trod enc Tryz.prog w base (fun _ => true) held m 60 ((cs.drop 2).take 4) = some y2 := by have q := hf 2 ⟨ "A",60,2,false,"","",32⟩ rfl; simp only [c3] at q; exact q
  obtain ⟨la,cap,ps,Rl,hk,hk1,hk2,_,_,hR,hI⟩ := trod_flat putC (fun _ => True) Tryz.underlying23 kr (by decide) (fun cs fuel y g1 g2 => put_open cs fuel y g1 g2) h0
  obtain ⟨b,hb,_⟩ := DataW.trod_bool Tryz.underlying4 h1
  obtain ⟨a,ha,ha2⟩ := act_open ((cs.drop 2).take 4) m y2 (by rw [List.length_take,List.length_drop]; omega) h2
  refine ⟨⟨la,cap,ps,Rl,b,a⟩,⟨Nat.le_trans hk1 hk2,hR,putC_in hI,ha⟩,?_⟩
  have h9 := list6 hl
  rw [hk,hb,ha2] at h9
  exact h9
end Go.Proofs.YtohjpggjgomgoaaGreatDoor
