/- Texts on which the proof of this claim stands: Open5, Ob7. -/
import Derived.Test.YtojefiolcedigaaGreatDoorP1
import Derived.SizedLaws
import Derived.Test.YtojefiolcedigaaGreatDoorP2
namespace Go.Proofs.YtojefiolcedigaaGreatDoor
namespace K
open Go.ChangeShapes Go.WideShapes
section
variable {H : Type} {enc : TypeId × Value → H} {P : Program} {w : World} {base : Nat} {held : Bool}
theorem weights_each {l : List (DataW H)} {e : TypeId} (h : (DataW.weightsAll P e l).all (· ≤ reachBytes) = true) : ∀ d ∈ l,(d.weights P e).all (· ≤ reachBytes) = true := by
 induction l with
 | nil => intro d hd; cases hd
 | cons x l ih =>
  rw [DataW.weightsAll,List.all_append,Bool.and_eq_true] at h
  intro d hd
  rcases List.mem_cons.1 hd with rfl | hd
  ·exact h.1
  ·exact ih h.2 d hd
theorem weights_slice {t e : TypeId} {l r : List (DataW H)} (ht : P.underlying t = some (.slice e)) (h : (DataW.weights P t (.slice l r)).all (· ≤ reachBytes) = true) : l.length * P.bytesOf e ≤ reachBytes ∧ ∀ d ∈ l,(d.weights P e).all (· ≤ reachBytes) = true := by
 rw [DataW.weights,ht] at h
 simp only [List.all_cons,List.all_append,Bool.and_eq_true,decide_eq_true_eq] at h
 exact ⟨Nat.le_trans (Nat.mul_le_mul_right _ (Nat.le_add_right _ _)) h.1,weights_each h.2.1⟩
theorem weights_cons {t : TypeId} {ts : List TypeId} {d : DataW H} {r : List (DataW H)} (h : (DataW.weightsEach P (t :: ts) (d :: r)).all (· ≤ reachBytes) = true) : (d.weights P t).all (· ≤ reachBytes) = true ∧ (DataW.weightsEach P ts r).all (· ≤ reachBytes) = true := by
 rw [DataW.weightsEach,List.all_append,Bool.and_eq_true] at h
 exact h
theorem weights_struct {t : TypeId} {fs : Array Field} {l : List (DataW H)} (ht : P.underlying t = some (.struct fs)) (h : (DataW.weights P t (.agg l)).all (· ≤ reachBytes) = true) : (DataW.weightsEach P (fs.toList.map (·.type)) l).all (· ≤ reachBytes) = true := by
 rw [DataW.weights,ht] at h; exact h
theorem open_struct {r : Reach} {b0 : Nat} {t : TypeId} {fs : Array Field} {v : Value} {d : DataW H} {p : List MemPlace} (ht : P.underlying t = some (.struct fs)) (hv : Value.okWide P w r b0 t v) (h : DataW.Trod enc P w base (fun _ => true) held t v d p) :
  ∃ (cs : Array Value) (fuel : Nat),v = .agg cs ∧ DataW.trod enc P w base (fun _ => true) held fuel t cs.toList = some (d,p) := by
 unfold Value.okWide at hv
 rw [ht] at hv
 obtain ⟨cs,rfl,_⟩ := hv
 obtain ⟨fuel,hf⟩ := h
 exact ⟨cs,fuel,rfl,hf⟩
theorem trod_inW {t e : TypeId} {sz fuel : Nat} {cs0 : List Value} {x : DataW H × List MemPlace} (ht : P.underlying t = some (.slice e)) (hsz : P.cellsOf e = sz) (hz : 0 < sz) (hf : DataW.trod enc P w base (fun _ => true) held fuel t cs0 = some x) (hw : (x.1.weights P t).all (· ≤ reachBytes) = true) :
  ∃ (la : Option Addr) (n cap : Nat) (L : List (List Value)) (Rl : List (Nat × Obj)),cs0 = [.slice la n cap] ∧ L.length = n ∧ n ≤ cap ∧ cap ≤ maxLen ∧ (la = none → n = 0 ∧ cap = 0) ∧
   (∀ i,i < n → (L.getD i []).length = sz ∧ ∃ fuel y,DataW.trod enc P w base (fun _ => true) held fuel e (L.getD i []) = some y ∧ (y.1.weights P e).all (· ≤ reachBytes) = true) ∧ Has w Rl ∧ InS Rl la (n * sz) (fun j => (L.getD (j / sz) []).getD (j % sz) undef) ∧ n * P.bytesOf e ≤ reachBytes := by
 rcases Go.Deep.open_slice ht hf with ⟨rfl,_⟩ | ⟨a,n0,cap,m,k,D,Pl,rfl,_,hl,hm,hmm,hdx,hx⟩
 ·refine ⟨none,0,0,[],[],rfl,rfl,Nat.le_refl _,Nat.zero_le _,fun _ => ⟨rfl,rfl⟩,(fun i hi => by omega),(fun e he => by cases he),(fun hk => by simp at hk),by rw [Nat.zero_mul]; exact Nat.zero_le _⟩
 ·simp only [if_true] at hmm
  subst hmm
  rw [hdx] at hw
  obtain ⟨hw1,hw2⟩ := weights_slice ht hw
  rw [List.length_map,List.length_range] at hw1
  rw [hsz] at hx
  have hx' : ∀ i,∃ cs',i < n0 → (w.cells? base (a.add (i * sz)) sz = some cs' ∧ DataW.trod enc P w base (fun _ => true) held k e cs' = some (D i,Pl i)) := by
   intro i
   by_cases hi : i < n0
   ·obtain ⟨cs',h1⟩ := hx i (by omega)
    exact ⟨cs',fun _ => h1⟩
   ·exact ⟨[],fun h => absurd h hi⟩
  obtain ⟨g,hg⟩ : ∃ g : Nat → List Value,∀ i,i < n0 → (w.cells? base (a.add (i * sz)) sz = some (g i) ∧ DataW.trod enc P w base (fun _ => true) held k e (g i) = some (D i,Pl i)) := ⟨fun i => Classical.choose (hx' i),fun i => Classical.choose_spec (hx' i)⟩
  have hgetL : ∀ i,i < n0 → ((List.range n0).map g).getD i [] = g i := fun i hi => by simp [hi]
  have hcell : ∀ j,j < n0 * sz → w.cell? (a.add j) = some ((((List.range n0).map g).getD (j / sz) []).getD (j % sz) undef) := by
   intro j hj
   have hq : j / sz < n0 := Nat.div_lt_of_lt_mul (by rw [Nat.mul_comm]; exact hj)
   have hr : j % sz < sz := Nat.mod_lt _ hz
   obtain ⟨h1,_⟩ := hg (j / sz) hq
   obtain ⟨_,hlen,hat⟩ := World.cells?_some h1
   have h2 := hat (j % sz) hr
   rw [Go.Deep.add_add,show j / sz * sz + j % sz = j by rw [Nat.mul_comm]; exact Nat.div_add_mod j sz] at h2
   rw [h2,hgetL _ hq,List.getD_eq_getElem?_getD,List.getElem?_eq_getElem (by omega)]
   rfl
  have hele : ∀ i,i < n0 → (((List.range n0).map g).getD i []).length = sz ∧ ∃ fuel y,DataW.trod enc P w base (fun _ => true) held fuel e (((List.range n0).map g).getD i []) = some y ∧ (y.1.weights P e).all (· ≤ reachBytes) = true := by
   intro i hi
   obtain ⟨h1,h2⟩ := hg i hi
   rw [hgetL i hi]
   exact ⟨(World.cells?_some h1).2.1,k,_,h2,hw2 _ (List.mem_map.2 ⟨i,List.mem_range.2 hi,rfl⟩)⟩
  by_cases hk : 0 < n0 * sz
  ·have h0 := hcell 0 hk
   rw [Addr.add_zero'] at h0
   obtain ⟨bl,off,sp⟩ := a
   unfold World.cell? at h0
   simp only at h0
   cases hh : w.heap[bl]? with
   | none => rw [hh] at h0; cases h0
   | some ob =>
    rw [hh] at h0
    cases ob with
    | cells c el fr =>
     simp only at h0
     cases sp with
     | some q => simp at h0
     | none =>
      refine ⟨some ⟨bl,off,none⟩,n0,_,(List.range n0).map g,[(bl,.cells c el fr)],rfl,by simp,hl,hm,(fun h => by cases h),hele,(fun x hx => by simp only [List.mem_cons,List.not_mem_nil,or_false] at hx; subst hx; exact hh),(fun _ => ⟨bl,off,c,el,fr,rfl,List.mem_cons_self ..,fun j hj => ?_⟩),hw1⟩
      have := hcell j hj
      rw [add_none,cell_cells hh] at this
      exact this
    | _ => cases h0
  ·exact ⟨some a,n0,_,(List.range n0).map g,[],rfl,by simp,hl,hm,(fun h => by cases h),hele,(fun x hx => by cases hx),(fun h => absurd h hk),hw1⟩
theorem trod_flatW {α : Type} (f : α → List Value) (Q : α → Prop) {t e : TypeId} {sz fuel0 : Nat} {cs0 : List Value} {x0 : DataW H × List MemPlace} (ht : P.underlying t = some (.slice e)) (hsz : P.cellsOf e = sz) (hz : 0 < sz)
  (hel : ∀ (cs : List Value) (fuel : Nat) (y : DataW H × List MemPlace),cs.length = sz → DataW.trod enc P w base (fun _ => true) held fuel e cs = some y → (y.1.weights P e).all (· ≤ reachBytes) = true → ∃ a,Q a ∧ cs = f a)
  (h : DataW.trod enc P w base (fun _ => true) held fuel0 t cs0 = some x0) (hw : (x0.1.weights P t).all (· ≤ reachBytes) = true) :
  ∃ (la : Option Addr) (cap : Nat) (xs : List α) (Rl : List (Nat × Obj)),cs0 = [.slice la xs.length cap] ∧ xs.length ≤ cap ∧ cap ≤ maxLen ∧ (la = none → xs.length = 0 ∧ cap = 0) ∧ (∀ x ∈ xs,Q x) ∧ Has w Rl ∧
   InS Rl la (xs.length * sz) (fun j => (xs.flatMap f).getD j undef) ∧ xs.length * P.bytesOf e ≤ reachBytes := by
 obtain ⟨la,n,cap,L,Rl,rfl,hn,hc,hm,hno,hL,hR,hI,hB⟩ := trod_inW ht hsz hz h hw
 have hx : ∀ i,∃ a : Option α,i < n → ∃ b,a = some b ∧ Q b ∧ L.getD i [] = f b := by
  intro i
  by_cases hi : i < n
  ·obtain ⟨h1,fuel,y,h2,h5⟩ := hL i hi
   obtain ⟨a,h3,h4⟩ := hel _ fuel y h1 h2 h5
   exact ⟨some a,fun _ => ⟨a,rfl,h3,h4⟩⟩
  ·exact ⟨none,fun h => absurd h hi⟩
 obtain ⟨g,hg⟩ : ∃ g : Nat → Option α,∀ i,i < n → ∃ b,g i = some b ∧ Q b ∧ L.getD i [] = f b := ⟨fun i => Classical.choose (hx i),fun i => Classical.choose_spec (hx i)⟩
 have hlen : ((List.range n).filterMap g).length = n ∧ ∀ i,i < n → ((List.range n).filterMap g)[i]? = g i := by
  have key : ∀ m,m ≤ n → ((List.range m).filterMap g).length = m ∧ ∀ i,i < m → ((List.range m).filterMap g)[i]? = g i := by
   intro m
   induction m with
   | zero => intro _; exact ⟨rfl,fun i hi => by omega⟩
   | succ m ih =>
    intro hm
    obtain ⟨h1,h2⟩ := ih (by omega)
    obtain ⟨b,hb,_⟩ := hg m (by omega)
    rw [List.range_succ,List.filterMap_append,show List.filterMap g [m] = [b] by simp [hb]]
    refine ⟨by rw [List.length_append,h1]; rfl,fun i hi => ?_⟩
    by_cases him : i < m
    ·rw [List.getElem?_append_left (by omega),h2 i him]
    ·have : i = m := by omega
     subst this
     rw [List.getElem?_append_right (by omega),h1,Nat.sub_self,hb]; rfl
  exact key n (Nat.le_refl _)
 obtain ⟨hlen,hget⟩ := hlen
 have hq : ∀ i (hi : i < ((List.range n).filterMap g).length),Q ((List.range n).filterMap g)[i] ∧ L.getD i [] = f ((List.range n).filterMap g)[i] := by
  intro i hi
  obtain ⟨b,hb,h1,h2⟩ := hg i (by omega)
  have := hget i (by omega)
  rw [List.getElem?_eq_getElem hi,hb] at this
  rw [Option.some.inj this]; exact ⟨h1,h2⟩
 refine ⟨la,cap,(List.range n).filterMap g,Rl,by rw [hlen],by omega,hm,by rw [hlen]; exact hno,?_,hR,?_,by rw [hlen]; exact hB⟩
 ·intro x hx
  obtain ⟨i,hi,rfl⟩ := List.getElem_of_mem hx
  exact (hq i hi).1
 ·rw [hlen]
  refine hI.more (fun _ hx => hx) fun j hj => ?_
  have hi : j / sz < n := Nat.div_lt_of_lt_mul (by rw [Nat.mul_comm]; exact hj)
  have hr : j % sz < sz := Nat.mod_lt _ hz
  have hfl : ∀ x ∈ (List.range n).filterMap g,(f x).length = sz := by
   intro x hx
   obtain ⟨i,hi,rfl⟩ := List.getElem_of_mem hx
   rw [← (hq i hi).2]; exact (hL i (by omega)).1
  have h1 := flat_get f sz hfl (i := j / sz) (j := j % sz) (by omega) hr
  rw [show j / sz * sz + j % sz = j by rw [Nat.mul_comm]; exact Nat.div_add_mod j sz] at h1
  rw [(hq (j / sz) (by omega)).2,List.getD_eq_getElem?_getD,List.getD_eq_getElem?_getD,h1]
end
end K
end Go.Proofs.YtojefiolcedigaaGreatDoor
namespace Go.Proofs.YtojefiolcedigaaGreatDoor
open K
set_option linter.unusedVariables false
open Go.ChangeShapes Go.WideShapes
theorem list3 {cs : List Value} (h : cs.length = 3) : cs = (cs.drop 0).take 1 ++ (cs.drop 1).take 1 ++ (cs.drop 2).take 1 := by
 match cs,h with
 | [_,_,_],_ => rfl
theorem list3b {cs : List Value} (h : cs.length = 3) : cs = ((cs.drop 0).take 2).take 1 ++ ((cs.drop 0).take 2).drop 1 ++ (cs.drop 2).take 1 ∧ (((cs.drop 0).take 2).drop 1).take 1 = ((cs.drop 0).take 2).drop 1 := by
 match cs,h with
 | [_,_,_],_ => exact ⟨rfl,rfl⟩
theorem ed_open {H : Type} {enc : TypeId × Value → H} {w : World} {base : Nat} {held : Bool} (cs : List Value) (fuel : Nat) (y : DataW H × List MemPlace) (hl : cs.length = 3) (h : DataW.trod enc Tryz.prog w base (fun _ => true) held fuel 81 cs = some y) : ∃ a : Ed,True ∧ cs = edc a := by
 obtain ⟨xs,m,_,_,_,hlen,hf⟩ := DataW.trod_struct Tryz.underlying81 h
 have c1 : Tryz.prog.cellsOf 79 = 1 := by kernel_rfl
 match xs,hlen with
 | [y0,y1,y2],_ =>
  have h0 : DataW.trod enc Tryz.prog w base (fun _ => true) held m 79 ((cs.drop 0).take 1) = some y0 := by have q := hf 0 ⟨ "ID",79,0,false,"","",0⟩ rfl; simp only [c1] at q; exact q
  have h1 : DataW.trod enc Tryz.prog w base (fun _ => true) held m 79 ((cs.drop 1).take 1) = some y1 := by have q := hf 1 ⟨ "A",79,1,false,"","",4⟩ rfl; simp only [c1] at q; exact q
  have h2 : DataW.trod enc Tryz.prog w base (fun _ => true) held m 79 ((cs.drop 2).take 1) = some y2 := by have q := hf 2 ⟨ "B",79,2,false,"","",8⟩ rfl; simp only [c1] at q; exact q
  obtain ⟨a,ha,_,wa⟩ := DataW.trod_int Tryz.underlying79 h0
  obtain ⟨b,hb,_,wb⟩ := DataW.trod_int Tryz.underlying79 h1
  obtain ⟨c,hc,_,wc⟩ := DataW.trod_int Tryz.underlying79 h2
  have qa := wf_u32 a wa
  have qb := wf_u32 b wb
  have qc := wf_u32 c wc
  refine ⟨(a.toNat,b.toNat,c.toNat),trivial,?_⟩
  have h9 := list3 hl
  rw [ha,hb,hc] at h9
  refine h9.trans ?_
  show [Value.int .u32 a,.int .u32 b,.int .u32 c] = [Value.int .u32 (a.toNat : Int),.int .u32 (b.toNat : Int),.int .u32 (c.toNat : Int)]
  rw [Int.toNat_of_nonneg qa.1,Int.toNat_of_nonneg qb.1,Int.toNat_of_nonneg qc.1]
theorem u32_open {H : Type} {enc : TypeId × Value → H} {w : World} {base : Nat} {held : Bool} (cs : List Value) (fuel : Nat) (y : DataW H × List MemPlace) (h : DataW.trod enc Tryz.prog w base (fun _ => true) held fuel 79 cs = some y) : ∃ a : Nat,True ∧ cs = u32c a := by
 obtain ⟨a,ha,_,wa⟩ := DataW.trod_int Tryz.underlying79 h
 have qa := wf_u32 a wa
 refine ⟨a.toNat,trivial,ha.trans ?_⟩
 show [Value.int .u32 a] = [Value.int .u32 (a.toNat : Int)]
 rw [Int.toNat_of_nonneg qa.1]
theorem dg_open {H : Type} {enc : TypeId × Value → H} {w : World} {base : Nat} {held : Bool} (cs : List Value) (fuel : Nat) (y : DataW H × List MemPlace) (h : DataW.trod enc Tryz.prog w base (fun _ => true) held fuel 30 cs = some y) : ∃ a : List UInt8,a.length = 32 ∧ cs = dgc a := by
 obtain ⟨h1,h2⟩ := trod_bytes Tryz.underlying30 Tryz.underlying5 (by kernel_rfl) (by kernel_rfl) h
 refine ⟨_,h1,?_⟩
 unfold dgc
 rw [← h2]
theorem row_open {H : Type} {enc : TypeId × Value → H} {w : World} {base : Nat} {held : Bool} (cs : List Value) (fuel : Nat) (y : DataW H × List MemPlace) (h : DataW.trod enc Tryz.prog w base (fun _ => true) held fuel 22 cs = some y) (hw : (y.1.weights Tryz.prog 22).all (· ≤ reachBytes) = true) :
  ∃ a : RowU × List (Nat × Obj),(Has w a.2 ∧ InF u32c 1 a.2 a.1.a a.1.xs ∧ a.1.xs.length ≤ 140737488355328 / 4) ∧ cs = rowc a.1 := by
 obtain ⟨la,cap,xs,Rl,hc,_,_,_,_,hR,hI,hB⟩ := trod_flatW (sz := 1) u32c (fun _ => True) Tryz.underlying22 (by kernel_rfl) (by decide) (fun cs fuel y _ g2 _ => u32_open cs fuel y g2) h hw
 have hb : Tryz.prog.bytesOf 79 = 4 := by kernel_rfl
 have hr := reachBytes_lt
 rw [hb] at hB
 exact ⟨(⟨la,cap,xs⟩,Rl),⟨hR,hI,by show xs.length ≤ _; omega⟩,hc⟩
theorem map_open {H : Type} {enc : TypeId × Value → H} {w : World} {base : Nat} {held : Bool} (cs : List Value) (fuel : Nat) (y : DataW H × List MemPlace) (h : DataW.trod enc Tryz.prog w base (fun _ => true) held fuel 28 cs = some y) (hw : (y.1.weights Tryz.prog 28).all (· ≤ reachBytes) = true) :
  ∃ (m : MM) (Rl : List (Nat × Obj)),Has w Rl ∧ InM Rl m ∧ cs = mc m := by
 obtain ⟨y0,y1,n,rfl,hl,g0,g1⟩ := trod_struct2 Tryz.underlying28 h
 obtain ⟨w0,w1⟩ := weights_cons (weights_struct Tryz.underlying28 hw)
 obtain ⟨w1,_⟩ := weights_cons w1
 have cG : Tryz.prog.cellsOf 25 = 2 := by kernel_rfl
 have cS : Tryz.prog.cellsOf 26 = 1 := by kernel_rfl
 have cM : Tryz.prog.cellsOf 28 = 3 := by kernel_rfl
 have cU : Tryz.prog.cellsOf 22 = 1 := by kernel_rfl
 have cE : Tryz.prog.cellsOf 23 = 1 := by kernel_rfl
 rw [cM] at hl
 simp only [cG,cS] at g0 g1
 obtain ⟨z0,z1,k,rfl,hl2,f0,f1⟩ := trod_struct2 Tryz.underlying25 g0
 obtain ⟨v0,v1⟩ := weights_cons (weights_struct Tryz.underlying25 w0)
 obtain ⟨v1,_⟩ := weights_cons v1
 simp only [cU,cE] at f0 f1
 obtain ⟨va,vc,vs,Rv,hv,_,_,_,_,hRv,hIv,hBv⟩ := trod_flatW (sz := 1) u32c (fun _ => True) Tryz.underlying22 (by kernel_rfl) (by decide) (fun cs fuel y _ g2 _ => u32_open cs fuel y g2) f0 v0
 obtain ⟨ea,ec,es,Re,he,_,_,_,_,hRe,hIe,hBe⟩ := trod_flatW (sz := 3) edc (fun _ => True) Tryz.underlying23 (by kernel_rfl) (by decide) (fun cs fuel y g1 g2 _ => ed_open cs fuel y g1 g2) f1 v1
 obtain ⟨ra,rc,rs,Rr,hr,_,_,_,hq,hRr,hIr,hBr⟩ := trod_flatW (sz := 1) (fun x : RowU × List (Nat × Obj) => rowc x.1) (fun a => Has w a.2 ∧ InF u32c 1 a.2 a.1.a a.1.xs ∧ a.1.xs.length ≤ 140737488355328 / 4) Tryz.underlying26 (by kernel_rfl) (by decide) (fun cs fuel y _ g2 g3 => row_open cs fuel y g2 g3) g1 w1
 have b1 : Tryz.prog.bytesOf 79 = 4 := by kernel_rfl
 have b2 : Tryz.prog.bytesOf 81 = 12 := by kernel_rfl
 have b3 : Tryz.prog.bytesOf 22 = 24 := by kernel_rfl
 have hrl := reachBytes_lt
 rw [b1] at hBv
 rw [b2] at hBe
 rw [b3] at hBr
 have hfl : (rs.map (·.1)).flatMap rowc = rs.flatMap fun x => rowc x.1 := List.flatMap_map ..
 refine ⟨⟨va,vc,vs,ea,ec,es,ra,rc,rs.map (·.1)⟩,Rv ++ (Re ++ (Rr ++ rs.flatMap (·.2))),?_,⟨?_,?_,?_,?_,?_⟩,?_⟩
 ·intro e hx
  rcases List.mem_append.1 hx with hx | hx
  ·exact hRv e hx
  ·rcases List.mem_append.1 hx with hx | hx
   ·exact hRe e hx
   ·rcases List.mem_append.1 hx with hx | hx
    ·exact hRr e hx
    ·obtain ⟨a,ha,hx⟩ := List.mem_flatMap.1 hx
     exact (hq a ha).1 e hx
 ·exact InF.mono (f := u32c) hIv (fun e hx => List.mem_append_left _ hx)
 ·exact InF.mono (f := edc) hIe (fun e hx => List.mem_append_right _ (List.mem_append_left _ hx))
 ·have h9 : InF rowc 1 Rr ra (rs.map (·.1)) := by
   unfold InF
   rw [hfl,List.length_map]; exact hIr
  exact h9.mono (fun e hx => List.mem_append_right _ (List.mem_append_right _ (List.mem_append_left _ hx)))
 ·intro x hx
  obtain ⟨a,ha,rfl⟩ := List.mem_map.1 hx
  exact ⟨(hq a ha).2.1.mono (fun e hx => List.mem_append_right _ (List.mem_append_right _ (List.mem_append_right _ (List.mem_flatMap.2 ⟨a,ha,hx⟩)))),(hq a ha).2.2⟩
 ·show vs.length ≤ _ ∧ es.length ≤ _ ∧ (rs.map (·.1)).length ≤ _
  rw [List.length_map]
  omega
 ·obtain ⟨h9,h8⟩ := list3b hl
  have f0' : ((cs.drop 0).take 2).take 1 = [.slice va vs.length vc] := hv
  have f1' : ((cs.drop 0).take 2).drop 1 = [.slice ea es.length ec] := by
   rw [← h8]; exact he
  rw [f0',f1',hr] at h9
  refine h9.trans ?_
  unfold mc
  rw [List.length_map]; rfl
set_option maxRecDepth 100000 in
theorem com_open {H : Type} {enc : TypeId × Value → H} {w : World} {base : Nat} {held : Bool} (cs : List Value) (fuel : Nat) (y : DataW H × List MemPlace) (h : DataW.trod enc Tryz.prog w base (fun _ => true) held fuel 34 cs = some y) (hw : (y.1.weights Tryz.prog 34).all (· ≤ reachBytes) = true) :
  ∃ (c : CM) (Rl : List (Nat × Obj)),Has w Rl ∧ InC Rl c ∧ cs = cc c := by
 obtain ⟨xs,n,_,rfl,hl,hlen,hf⟩ := DataW.trod_struct Tryz.underlying34 h
 have c0 : Tryz.prog.cellsOf 30 = 32 := by kernel_rfl
 have c1 : Tryz.prog.cellsOf 31 = 1 := by kernel_rfl
 have c2 : Tryz.prog.cellsOf 32 = 1 := by kernel_rfl
 have c3 : Tryz.prog.cellsOf 9 = 1 := by kernel_rfl
 have cC : Tryz.prog.cellsOf 34 = 35 := by kernel_rfl
 rw [cC] at hl
 have hws := weights_struct Tryz.underlying34 hw
 match xs,hlen with
 | [y0,y1,y2,y3],_ =>
  have h0 : DataW.trod enc Tryz.prog w base (fun _ => true) held n 30 ((cs.drop 0).take 32) = some y0 := by have q := hf 0 ⟨ "Map",30,0,false,"","",0⟩ rfl; simp only [c0] at q; exact q
  have h1 : DataW.trod enc Tryz.prog w base (fun _ => true) held n 31 ((cs.drop 32).take 1) = some y1 := by have q := hf 1 ⟨ "Parents",31,32,false,"","",32⟩ rfl; simp only [c1] at q; exact q
  have h2 : DataW.trod enc Tryz.prog w base (fun _ => true) held n 32 ((cs.drop 33).take 1) = some y2 := by have q := hf 2 ⟨ "Number",32,33,false,"","",56⟩ rfl; simp only [c2] at q; exact q
  have h3 : DataW.trod enc Tryz.prog w base (fun _ => true) held n 9 ((cs.drop 34).take 1) = some y3 := by have q := hf 3 ⟨ "Text",9,34,false,"","",64⟩ rfl; simp only [c3] at q; exact q
  have w1 := (weights_cons (weights_cons hws).2).1
  obtain ⟨d,hd,hd2⟩ := dg_open _ _ _ h0
  obtain ⟨pa,pc,ps,Rp,hp,_,_,_,hq,hRp,hIp,hBp⟩ := trod_flatW (sz := 32) dgc (fun d => d.length = 32) Tryz.underlying31 (by kernel_rfl) (by decide) (fun cs fuel y _ g2 _ => dg_open cs fuel y g2) h1 w1
  obtain ⟨k,hk,_,wk⟩ := DataW.trod_int Tryz.underlying32 h2
  have qk := wf_u64 k wk
  obtain ⟨s,hs,_,_⟩ := DataW.trod_string Tryz.underlying9 h3
  have b1 : Tryz.prog.bytesOf 30 = 32 := by kernel_rfl
  have hrl := reachBytes_lt
  rw [b1] at hBp
  refine ⟨⟨d,pa,pc,ps,k.toNat,s⟩,Rp,hRp,⟨hd,hIp,hq,by show ps.length ≤ _; omega⟩,?_⟩
  have h9 : cs = (cs.drop 0).take 32 ++ ((cs.drop 32).take 1 ++ ((cs.drop 33).take 1 ++ (cs.drop 34).take 1)) := by
   have e1 : cs.drop 34 = (cs.drop 34).take 1 := (List.take_of_length_le (by rw [List.length_drop]; omega)).symm
   have e2 : cs.drop 33 = (cs.drop 33).take 1 ++ cs.drop 34 := by rw [show cs.drop 34 = (cs.drop 33).drop 1 by rw [List.drop_drop],List.take_append_drop]
   have e3 : cs.drop 32 = (cs.drop 32).take 1 ++ cs.drop 33 := by rw [show cs.drop 33 = (cs.drop 32).drop 1 by rw [List.drop_drop],List.take_append_drop]
   rw [← e1,← e2,← e3,List.drop_zero,List.take_append_drop]
  rw [hd2,hp,hk,hs] at h9
  refine h9.trans ?_
  show dgc d ++ [.slice pa ps.length pc,.int .u64 k,.string s] = dgc d ++ [.slice pa ps.length pc,.int .u64 (k.toNat : Int),.string s]
  rw [Int.toNat_of_nonneg qk.1]
theorem tag_open {H : Type} {enc : TypeId × Value → H} {w : World} {base : Nat} {held : Bool} (cs : List Value) (fuel : Nat) (y : DataW H × List MemPlace) (h : DataW.trod enc Tryz.prog w base (fun _ => true) held fuel 36 cs = some y) :
  ∃ t : TM,t.d.length = 32 ∧ cs = tc t := by
 obtain ⟨y0,y1,n,rfl,hl,g0,g1⟩ := trod_struct2 Tryz.underlying36 h
 have c0 : Tryz.prog.cellsOf 30 = 32 := by kernel_rfl
 have c3 : Tryz.prog.cellsOf 9 = 1 := by kernel_rfl
 have cT : Tryz.prog.cellsOf 36 = 33 := by kernel_rfl
 rw [cT] at hl
 simp only [c0,c3] at g0 g1
 obtain ⟨d,hd,hd2⟩ := dg_open _ _ _ g0
 obtain ⟨s,hs,_,_⟩ := DataW.trod_string Tryz.underlying9 g1
 refine ⟨⟨d,s⟩,hd,?_⟩
 have h9 : cs = (cs.drop 0).take 32 ++ (cs.drop 32).take 1 := by
  have e1 : cs.drop 32 = (cs.drop 32).take 1 := (List.take_of_length_le (by rw [List.length_drop]; omega)).symm
  rw [← e1,List.drop_zero,List.take_append_drop]
 have g0' : (cs.drop 0).take 32 = dgc d := hd2
 have g1' : (cs.drop 32).take 1 = [.string s] := hs
 rw [g0',g1'] at h9
 exact h9
end Go.Proofs.YtojefiolcedigaaGreatDoor
