/- Texts on which the proof of this claim stands: Lay1, J1, J2, J3, J4, J5, J6, J7, Open, Open2, Open3, Open4, K14, K15, K16, K23, K28, K29, Dk1, Sha6, Bld. -/
import Derived.Test.YtohjpggjgomgoaaGreatDoorChecked
import Derived.Test.YtohjpggjgomgoaaGreatDoorP1
import Derived.Shelf.SortM.Plain
import Derived.Shelf.SortM.SortNone
import Derived.Deep.Slices
import Derived.ProofKit
import Derived.OpenShut
import Derived.SizedLaws
import Derived.ChangeArms
import Derived.Deep.Strs
import Derived.ArgAppend
import Derived.Test.YtohjpggjgomgoaaGreatDoorRows
namespace Go.Proofs.YtohjpggjgomgoaaGreatDoor
open Go.Shelf Go.Proofs
def L.keys65_ren : Go.Shelf.Ren := ⟨fun | 7 => 65 | 10 => 98 | n => n,fun | 23 => 131 | 26 => 3 | 3 => 3 | 28 => 135 | 0 => 0 | 27 => 134 | 33 => 141 | 4 => 4 | n => n,fun | n => n⟩
theorem L.keys65 : Go.Proofs.SlLaysZI.n7 Tryz.prog L.keys65_ren := {
 mixed := by kernel_rfl,
 f7 := ⟨Tryz.f65.name,by decide,Tryz.func65.trans (congrArg some kr)⟩,
 f10 := ⟨Tryz.f98.name,by decide,Tryz.func98.trans (congrArg some kr)⟩,
 t0 := Tryz.underlying0,
 a0 := Tryz.isAgg0,
 z0 := Tryz.sizeOf0,
 v0 := Tryz.zeroValue0,
 t4 := Tryz.underlying4,
 a4 := Tryz.isAgg4,
 z4 := Tryz.sizeOf4,
 v4 := Tryz.zeroValue4,
 t23 := Tryz.underlying131,
 a23 := Tryz.isAgg131,
 z23 := Tryz.sizeOf131,
 v23 := Tryz.zeroValue131,
 t26 := Tryz.underlying3,
 a26 := Tryz.isAgg3,
 z26 := Tryz.sizeOf3,
 v26 := Tryz.zeroValue3,
 t27 := Tryz.underlying134,
 a27 := Tryz.isAgg134,
 z27 := Tryz.sizeOf134,
 v27 := Tryz.zeroValue134,
 t28 := Tryz.underlying135,
 a28 := Tryz.isAgg135,
 z28 := Tryz.sizeOf135,
 v28 := Tryz.zeroValue135,
 t33 := Tryz.underlying141,
 a33 := Tryz.isAgg141,
 z33 := Tryz.sizeOf141,
 v33 := Tryz.zeroValue141 }
def L.sorted64_ren : Go.Shelf.Ren := ⟨fun | 6 => 64 | 8 => 96 | 9 => 97 | 11 => 107 | 13 => 109 | 12 => 108 | 23 => 123 | 24 => 124 | 14 => 114 | 15 => 115 | 16 => 116 | 17 => 117 | 18 => 118 | 19 => 119 | 20 => 120 | 21 => 121 | 22 => 122 | 25 => 126 | 26 => 127 | 27 => 128 | 28 => 129 | 29 => 130 | 30 => 131 | 31 => 132 | n => n,fun | 26 => 3 | 28 => 135 | 24 => 132 | 0 => 0 | 3 => 3 | 37 => 90 | 48 => 88 | 50 => 22 | 4 => 4 | 40 => 192 | 39 => 191 | 45 => 197 | 5 => 5 | 9 => 9 | 51 => 201 | 55 => 204 | 57 => 206 | 58 => 207 | 33 => 141 | n => n,fun | n => n⟩
theorem L.sorted64 : Go.Proofs.SlLaysZI.n6 Tryz.prog L.sorted64_ren := {
 mixed := by kernel_rfl,
 f6 := ⟨Tryz.f64.name,by decide,Tryz.func64.trans (congrArg some kr)⟩,
 f8 := ⟨Tryz.f96.name,by decide,Tryz.func96.trans (congrArg some kr)⟩,
 f11 := ⟨Tryz.f107.name,by decide,Tryz.func107.trans (congrArg some kr)⟩,
 t0 := Tryz.underlying0,
 a0 := Tryz.isAgg0,
 z0 := Tryz.sizeOf0,
 v0 := Tryz.zeroValue0,
 t24 := Tryz.underlying132,
 a24 := Tryz.isAgg132,
 z24 := Tryz.sizeOf132,
 v24 := Tryz.zeroValue132,
 t26 := Tryz.underlying3,
 a26 := Tryz.isAgg3,
 z26 := Tryz.sizeOf3,
 v26 := Tryz.zeroValue3,
 t28 := Tryz.underlying135,
 a28 := Tryz.isAgg135,
 z28 := Tryz.sizeOf135,
 v28 := Tryz.zeroValue135,
 i26 := by kernel_rfl }
def L.sort97_ren : Go.Shelf.Ren := ⟨fun | 5 => 97 | 8 => 109 | 7 => 108 | 19 => 123 | 20 => 124 | 10 => 114 | 11 => 115 | 12 => 116 | 13 => 117 | 14 => 118 | 15 => 119 | 16 => 120 | 17 => 121 | 18 => 122 | 30 => 126 | 31 => 127 | 32 => 128 | 33 => 129 | 34 => 130 | 35 => 131 | 40 => 132 | n => n,fun | 23 => 132 | 25 => 3 | 3 => 3 | 32 => 90 | 22 => 132 | 0 => 0 | 44 => 88 | 46 => 22 | 4 => 4 | 36 => 192 | 35 => 191 | 41 => 197 | 5 => 5 | 9 => 9 | 53 => 201 | 57 => 204 | 63 => 206 | 64 => 207 | n => n,fun | n => n⟩
theorem L.sort97 : Go.Proofs.SlLaysM.n5 Tryz.prog L.sort97_ren := {
 mixed := by kernel_rfl,
 f5 := ⟨Tryz.f97.name,by decide,Tryz.func97.trans (congrArg some kr)⟩,
 f7 := ⟨Tryz.f108.name,by decide,Tryz.func108.trans (congrArg some kr)⟩,
 f8 := Tryz.func109.trans (congrArg some kr),
 f10 := ⟨Tryz.f114.name,by decide,Tryz.func114.trans (congrArg some kr)⟩,
 f11 := ⟨Tryz.f115.name,by decide,Tryz.func115.trans (congrArg some kr)⟩,
 f12 := ⟨Tryz.f116.name,by decide,Tryz.func116.trans (congrArg some kr)⟩,
 f13 := ⟨Tryz.f117.name,by decide,Tryz.func117.trans (congrArg some kr)⟩,
 f14 := ⟨Tryz.f118.name,by decide,Tryz.func118.trans (congrArg some kr)⟩,
 f15 := ⟨Tryz.f119.name,by decide,Tryz.func119.trans (congrArg some kr)⟩,
 f16 := ⟨Tryz.f120.name,by decide,Tryz.func120.trans (congrArg some kr)⟩,
 f17 := ⟨Tryz.f121.name,by decide,Tryz.func121.trans (congrArg some kr)⟩,
 f18 := ⟨Tryz.f122.name,by decide,Tryz.func122.trans (congrArg some kr)⟩,
 f19 := Tryz.func123.trans (congrArg some kr),
 f20 := Tryz.func124.trans (congrArg some kr),
 f30 := ⟨Tryz.f126.name,by decide,Tryz.func126.trans (congrArg some kr)⟩,
 f31 := Tryz.func127.trans (congrArg some kr),
 f32 := Tryz.func128.trans (congrArg some kr),
 f33 := ⟨Tryz.f129.name,by decide,Tryz.func129.trans (congrArg some kr)⟩,
 f34 := ⟨Tryz.f130.name,by decide,Tryz.func130.trans (congrArg some kr)⟩,
 f35 := ⟨Tryz.f131.name,by decide,Tryz.func131.trans (congrArg some kr)⟩,
 f40 := ⟨Tryz.f132.name,by decide,Tryz.func132.trans (congrArg some kr)⟩,
 t0 := Tryz.underlying0,
 a0 := Tryz.isAgg0,
 z0 := Tryz.sizeOf0,
 v0 := Tryz.zeroValue0,
 t3 := Tryz.underlying3,
 a3 := Tryz.isAgg3,
 z3 := Tryz.sizeOf3,
 v3 := Tryz.zeroValue3,
 t4 := Tryz.underlying4,
 a4 := Tryz.isAgg4,
 z4 := Tryz.sizeOf4,
 v4 := Tryz.zeroValue4,
 t5 := Tryz.underlying5,
 a5 := Tryz.isAgg5,
 z5 := Tryz.sizeOf5,
 v5 := Tryz.zeroValue5,
 t9 := Tryz.underlying9,
 a9 := Tryz.isAgg9,
 z9 := Tryz.sizeOf9,
 v9 := Tryz.zeroValue9,
 t22 := Tryz.underlying132,
 a22 := Tryz.isAgg132,
 z22 := Tryz.sizeOf132,
 v22 := Tryz.zeroValue132,
 t23 := Tryz.underlying132,
 a23 := Tryz.isAgg132,
 z23 := Tryz.sizeOf132,
 v23 := Tryz.zeroValue132,
 t25 := Tryz.underlying3,
 a25 := Tryz.isAgg3,
 z25 := Tryz.sizeOf3,
 v25 := Tryz.zeroValue3,
 t32 := Tryz.underlying90,
 a32 := Tryz.isAgg90,
 z32 := Tryz.sizeOf90,
 v32 := Tryz.zeroValue90,
 t35 := Tryz.underlying191,
 a35 := Tryz.isAgg191,
 z35 := Tryz.sizeOf191,
 v35 := Tryz.zeroValue191,
 t36 := Tryz.underlying192,
 a36 := Tryz.isAgg192,
 z36 := Tryz.sizeOf192,
 v36 := Tryz.zeroValue192,
 t41 := Tryz.underlying197,
 a41 := Tryz.isAgg197,
 z41 := Tryz.sizeOf197,
 v41 := Tryz.zeroValue197,
 t44 := Tryz.underlying88,
 a44 := Tryz.isAgg88,
 z44 := Tryz.sizeOf88,
 v44 := Tryz.zeroValue88,
 t46 := Tryz.underlying22,
 a46 := Tryz.isAgg22,
 z46 := Tryz.sizeOf22,
 v46 := Tryz.zeroValue22,
 t53 := Tryz.underlying201,
 a53 := Tryz.isAgg201,
 z53 := Tryz.sizeOf201,
 v53 := Tryz.zeroValue201,
 t57 := Tryz.underlying204,
 a57 := Tryz.isAgg204,
 z57 := Tryz.sizeOf204,
 v57 := Tryz.zeroValue204,
 t63 := Tryz.underlying206,
 a63 := Tryz.isAgg206,
 z63 := Tryz.sizeOf206,
 v63 := Tryz.zeroValue206,
 t64 := Tryz.underlying207,
 a64 := Tryz.isAgg207,
 z64 := Tryz.sizeOf207,
 v64 := Tryz.zeroValue207 }
def L.keys110_ren : Go.Shelf.Ren := ⟨fun | 7 => 110 | 10 => 125 | n => n,fun | 23 => 113 | 26 => 3 | 3 => 25 | 28 => 135 | 0 => 0 | 27 => 134 | 33 => 141 | 4 => 4 | n => n,fun | n => n⟩
theorem L.keys110 : Go.Proofs.SlLaysZI.n7 Tryz.prog L.keys110_ren := {
 mixed := by kernel_rfl,
 f7 := ⟨Tryz.f110.name,by decide,Tryz.func110.trans (congrArg some kr)⟩,
 f10 := ⟨Tryz.f125.name,by decide,Tryz.func125.trans (congrArg some kr)⟩,
 t0 := Tryz.underlying0,
 a0 := Tryz.isAgg0,
 z0 := Tryz.sizeOf0,
 v0 := Tryz.zeroValue0,
 t4 := Tryz.underlying4,
 a4 := Tryz.isAgg4,
 z4 := Tryz.sizeOf4,
 v4 := Tryz.zeroValue4,
 t23 := Tryz.underlying113,
 a23 := Tryz.isAgg113,
 z23 := Tryz.sizeOf113,
 v23 := Tryz.zeroValue113,
 t26 := Tryz.underlying3,
 a26 := Tryz.isAgg3,
 z26 := Tryz.sizeOf3,
 v26 := Tryz.zeroValue3,
 t27 := Tryz.underlying134,
 a27 := Tryz.isAgg134,
 z27 := Tryz.sizeOf134,
 v27 := Tryz.zeroValue134,
 t28 := Tryz.underlying135,
 a28 := Tryz.isAgg135,
 z28 := Tryz.sizeOf135,
 v28 := Tryz.zeroValue135,
 t33 := Tryz.underlying141,
 a33 := Tryz.isAgg141,
 z33 := Tryz.sizeOf141,
 v33 := Tryz.zeroValue141 }
theorem L.sorts64 (m : Nat) : AnyZI.SortsIn Tryz.prog L.sorted64_ren Fence.wide m :=
  ⟨fun blk off cap ss W hH hblk hsz => callsIn_wide.2 (AnyM.slices_Sort_int L.sort97 blk off cap ss W hH hblk hsz),
   fun p cap W => callsIn_wide.2 (AnyM.slices_Sort_int_none L.sort97 p cap W)⟩
end Go.Proofs.YtohjpggjgomgoaaGreatDoor
namespace Go.Proofs.YtohjpggjgomgoaaGreatDoor
namespace K
open Go.ChangeShapes Go.WideShapes
section
variable {H : Type} {enc : TypeId × Value → H} {P : Program} {w : World} {base : Nat} {spare : Nat → Bool} {held : Bool}
theorem wf_u8 {n : Int} (h : (Lit.int .u8 n).wf = true) : 0 ≤ n ∧ n ≤ 255 := by
 simp [Lit.wf,IntKind.min,IntKind.max,IntKind.signed,IntKind.bits] at h
 omega
def toB : Value → UInt8
 | .int _ n => UInt8.ofNat n.toNat
 | _ => 0
theorem trod_u8 {e : TypeId} {fuel : Nat} {v : Value} {x : DataW H × List MemPlace} (he : P.underlying e = some (.int .u8)) (h : DataW.trod enc P w base spare held fuel e [v] = some x) : v = .int .u8 ((toB v).toNat : Int) := by
 obtain ⟨n,hn,_,hw⟩ := DataW.trod_int he h
 simp only [List.cons.injEq,and_true] at hn
 subst hn
 have := wf_u8 hw
 simp only [toB,UInt8.toNat_ofNat']
 congr 1
 omega
theorem open_in {r : Reach} {b0 : Nat} {t e : TypeId} {sz : Nat} {v : Value} {d : DataW H} {p : List MemPlace} (ht : P.underlying t = some (.slice e)) (hsz : P.cellsOf e = sz) (hz : 0 < sz) (hv : Value.okWide P w r b0 t v) (h : DataW.Trod enc P w base (fun _ => true) held t v d p) :
  ∃ (la : Option Addr) (n cap : Nat) (L : List (List Value)) (Rl : List (Nat × Obj)),v = .slice la n cap ∧ L.length = n ∧ n ≤ cap ∧ cap ≤ maxLen ∧ (la = none → n = 0 ∧ cap = 0) ∧
   (∀ i,i < n → (L.getD i []).length = sz ∧ ∃ fuel y,DataW.trod enc P w base (fun _ => true) held fuel e (L.getD i []) = some y) ∧ Has w Rl ∧ InS Rl la (n * sz) (fun j => (L.getD (j / sz) []).getD (j % sz) undef) := by
 obtain ⟨a0,n0,c0,rfl⟩ := okWide_slice ht hv
 obtain ⟨fuel,hf⟩ := h
 rcases Go.Deep.open_slice ht hf with ⟨hc,_⟩ | ⟨a,len,cap,m,k,D,Pl,hc,_,hl,hm,hmm,_,hx⟩
 ·simp only [Value.cells,List.cons.injEq,Value.slice.injEq,and_true] at hc
  obtain ⟨rfl,rfl,rfl⟩ := hc
  refine ⟨none,0,0,[],[],rfl,rfl,Nat.le_refl _,Nat.zero_le _,fun _ => ⟨rfl,rfl⟩,(fun i hi => by omega),(fun e he => by cases he),fun hk => by simp at hk⟩
 ·simp only [Value.cells,List.cons.injEq,Value.slice.injEq,and_true] at hc
  obtain ⟨rfl,rfl,rfl⟩ := hc
  simp only [if_true] at hmm
  subst hmm
  rw [hsz] at hx
  have hx' : ∀ i,∃ cs',i < n0 → (w.cells? base (a.add (i * sz)) sz = some cs' ∧ DataW.trod enc P w base (fun _ => true) held k e cs' = some (D i,Pl i)) := by
   intro i
   by_cases hi : i < n0
   ·obtain ⟨cs',h1⟩ := hx i om
    exact ⟨cs',fun _ => h1⟩
   ·exact ⟨[],fun h => absurd h hi⟩
  obtain ⟨g,hg⟩ : ∃ g : Nat → List Value,∀ i,i < n0 → (w.cells? base (a.add (i * sz)) sz = some (g i) ∧ DataW.trod enc P w base (fun _ => true) held k e (g i) = some (D i,Pl i)) := ⟨fun i => Classical.choose (hx' i),fun i => Classical.choose_spec (hx' i)⟩
  have hgetL : ∀ i,i < n0 → ((List.range n0).map g).getD i [] = g i := fun i hi => by simp [hi]
  have hcell : ∀ j,j < n0 * sz → w.cell? (a.add j) = some ((((List.range n0).map g).getD (j / sz) []).getD (j % sz) undef) := by
   intro j hj
   have hq : j / sz < n0 := Nat.div_lt_of_lt_mul (by rw [Nat.mul_comm]; exact hj)
   have hr : j % sz < sz := Nat.mod_lt _ hz
   obtain ⟨h1,_⟩ := hg (j / sz) hq
   obtain ⟨_,hlen,hat⟩ := World.cells?_some h1
   have h2 := hat (j % sz) hr
   rw [Go.Deep.add_add,show j / sz * sz + j % sz = j by rw [Nat.mul_comm]; exact Nat.div_add_mod j sz] at h2
   rw [h2,hgetL _ hq,List.getD_eq_getElem?_getD,List.getElem?_eq_getElem om]
   rfl
  have hele : ∀ i,i < n0 → (((List.range n0).map g).getD i []).length = sz ∧ ∃ fuel y,DataW.trod enc P w base (fun _ => true) held fuel e (((List.range n0).map g).getD i []) = some y := by
   intro i hi
   obtain ⟨h1,h2⟩ := hg i hi
   rw [hgetL i hi]
   exact ⟨(World.cells?_some h1).2.1,k,_,h2⟩
  by_cases hk : 0 < n0 * sz
  ·have h0 := hcell 0 hk
   rw [Addr.add_zero'] at h0
   obtain ⟨bl,off,sp⟩ := a
   unfold World.cell? at h0
   simp only at h0
   cases hh : w.heap[bl]? with
   | none => rw [hh] at h0; cases h0
   | some ob =>
    rw [hh] at h0
    cases ob with
    | cells c el fr =>
     simp only at h0
     cases sp with
     | some q => simp at h0
     | none =>
      refine ⟨some ⟨bl,off,none⟩,n0,_,(List.range n0).map g,[(bl,.cells c el fr)],rfl,by simp,hl,hm,(fun h => by cases h),hele,(fun x hx => by simp only [List.mem_cons,List.not_mem_nil,or_false] at hx; subst hx; exact hh),fun _ => ⟨bl,off,c,el,fr,rfl,List.mem_cons_self ..,fun j hj => ?_⟩⟩
      have := hcell j hj
      rw [add_none,cell_cells hh] at this
      exact this
    | _ => cases h0
  ·exact ⟨some a,n0,_,(List.range n0).map g,[],rfl,by simp,hl,hm,(fun h => by cases h),hele,(fun x hx => by cases hx),fun h => absurd h hk⟩
end
end K
end Go.Proofs.YtohjpggjgomgoaaGreatDoor
namespace Go.Proofs.YtohjpggjgomgoaaGreatDoor
namespace K
open Go.ChangeShapes Go.WideShapes
theorem InS.more {R R' : List (Nat × Obj)} {la : Option Addr} {k : Nat} {f g : Nat → Value} (h : InS R la k f) (hR : ∀ x ∈ R,x ∈ R') (hf : ∀ j,j < k → f j = g j) : InS R' la k g := by
 intro hk
 obtain ⟨b,off,cs,t,fr,h1,h2,h3⟩ := h hk
 exact ⟨b,off,cs,t,fr,h1,hR _ h2,fun j hj => by rw [h3 j hj,hf j hj]⟩
section
variable {H : Type} {enc : TypeId × Value → H} {P : Program} {w : World} {base : Nat} {held : Bool}
end
end K
end Go.Proofs.YtohjpggjgomgoaaGreatDoor
namespace Go.Proofs.YtohjpggjgomgoaaGreatDoor
namespace K
open Go.ChangeShapes Go.WideShapes
theorem flat_get {α : Type} (f : α → List Value) (sz : Nat) : ∀ {l : List α},(∀ x ∈ l,(f x).length = sz) → ∀ {i j : Nat} (hi : i < l.length),j < sz → (l.flatMap f)[i * sz + j]? = (f l[i])[j]?
 | [],_,i,j,hi,_ => by simp at hi
 | x :: l,h,i,j,hi,hj => by
  have hx := h x (List.mem_cons_self ..)
  rw [List.flatMap_cons]
  cases i with
  | zero => rw [Nat.zero_mul,Nat.zero_add,List.getElem?_append_left om]; rfl
  | succ i =>
   rw [List.getElem?_append_right (by rw [hx,Nat.succ_mul]; omega),hx,show (i + 1) * sz + j - sz = i * sz + j by rw [Nat.succ_mul]; omega]
   exact flat_get f sz (fun y hy => h y (List.mem_cons_of_mem _ hy)) (by simpa using hi) hj
section
variable {H : Type} {enc : TypeId × Value → H} {P : Program} {w : World} {base : Nat} {held : Bool}
theorem open_flat {α : Type} (f : α → List Value) (Q : α → Prop) {r : Reach} {b0 : Nat} {t e : TypeId} {sz : Nat} {v : Value} {d : DataW H} {p : List MemPlace} (ht : P.underlying t = some (.slice e)) (hsz : P.cellsOf e = sz) (hz : 0 < sz)
  (hel : ∀ (cs : List Value) (fuel : Nat) (y : DataW H × List MemPlace),cs.length = sz → DataW.trod enc P w base (fun _ => true) held fuel e cs = some y → ∃ a,Q a ∧ cs = f a)
  (hv : Value.okWide P w r b0 t v) (h : DataW.Trod enc P w base (fun _ => true) held t v d p) :
  ∃ (la : Option Addr) (cap : Nat) (xs : List α) (Rl : List (Nat × Obj)),v = .slice la xs.length cap ∧ xs.length ≤ cap ∧ cap ≤ maxLen ∧ (la = none → xs.length = 0 ∧ cap = 0) ∧ (∀ x ∈ xs,Q x) ∧ Has w Rl ∧
   InS Rl la (xs.length * sz) (fun j => (xs.flatMap f).getD j undef) := by
 obtain ⟨la,n,cap,L,Rl,rfl,hn,hc,hm,hno,hL,hR,hI⟩ := open_in ht hsz hz hv h
 have hx : ∀ i,∃ a : Option α,i < n → ∃ b,a = some b ∧ Q b ∧ L.getD i [] = f b := by
  intro i
  by_cases hi : i < n
  ·obtain ⟨h1,fuel,y,h2⟩ := hL i hi
   obtain ⟨a,h3,h4⟩ := hel _ fuel y h1 h2
   exact ⟨some a,fun _ => ⟨a,rfl,h3,h4⟩⟩
  ·exact ⟨none,fun h => absurd h hi⟩
 obtain ⟨g,hg⟩ : ∃ g : Nat → Option α,∀ i,i < n → ∃ b,g i = some b ∧ Q b ∧ L.getD i [] = f b := ⟨fun i => Classical.choose (hx i),fun i => Classical.choose_spec (hx i)⟩
 have hlen : ((List.range n).filterMap g).length = n ∧ ∀ i,i < n → ((List.range n).filterMap g)[i]? = g i := by
  have key : ∀ m,m ≤ n → ((List.range m).filterMap g).length = m ∧ ∀ i,i < m → ((List.range m).filterMap g)[i]? = g i := by
   intro m
   induction m with
   | zero => intro _; exact ⟨rfl,fun i hi => by omega⟩
   | succ m ih =>
    intro hm
    obtain ⟨h1,h2⟩ := ih om
    obtain ⟨b,hb,_⟩ := hg m om
    rw [List.range_succ,List.filterMap_append,show List.filterMap g [m] = [b] by simp [hb]]
    refine ⟨by rw [List.length_append,h1]; rfl,fun i hi => ?_⟩
    by_cases him : i < m
    ·rw [List.getElem?_append_left om,h2 i him]
    ·have : i = m := by omega
     subst this
     rw [List.getElem?_append_right om,h1,Nat.sub_self,hb]; rfl
  exact key n (Nat.le_refl _)
 obtain ⟨hlen,hget⟩ := hlen
 have hq : ∀ i (hi : i < ((List.range n).filterMap g).length),Q ((List.range n).filterMap g)[i] ∧ L.getD i [] = f ((List.range n).filterMap g)[i] := by
  intro i hi
  obtain ⟨b,hb,h1,h2⟩ := hg i om
  have := hget i om
  rw [List.getElem?_eq_getElem hi,hb] at this
  rw [Option.some.inj this]; exact ⟨h1,h2⟩
 refine ⟨la,cap,(List.range n).filterMap g,Rl,by rw [hlen],by omega,hm,by rw [hlen]; exact hno,?_,hR,?_⟩
 ·intro x hx
  obtain ⟨i,hi,rfl⟩ := List.getElem_of_mem hx
  exact (hq i hi).1
 ·rw [hlen]
  refine hI.more (fun _ hx => hx) fun j hj => ?_
  have hi : j / sz < n := Nat.div_lt_of_lt_mul (by rw [Nat.mul_comm]; exact hj)
  have hr : j % sz < sz := Nat.mod_lt _ hz
  have hfl : ∀ x ∈ (List.range n).filterMap g,(f x).length = sz := by
   intro x hx
   obtain ⟨i,hi,rfl⟩ := List.getElem_of_mem hx
   rw [← (hq i hi).2]; exact (hL i om).1
  have h1 := flat_get f sz hfl (i := j / sz) (j := j % sz) om hr
  rw [show j / sz * sz + j % sz = j by rw [Nat.mul_comm]; exact Nat.div_add_mod j sz] at h1
  rw [(hq (j / sz) om).2,List.getD_eq_getElem?_getD,List.getD_eq_getElem?_getD,h1]
end
end K
end Go.Proofs.YtohjpggjgomgoaaGreatDoor
namespace Go.Proofs.YtohjpggjgomgoaaGreatDoor
namespace K
open Go.ChangeShapes Go.WideShapes
section
variable {H : Type} {enc : TypeId × Value → H} {P : Program} {w : World} {base : Nat} {held : Bool}
theorem trod_in {t e : TypeId} {sz fuel : Nat} {cs0 : List Value} {x : DataW H × List MemPlace} (ht : P.underlying t = some (.slice e)) (hsz : P.cellsOf e = sz) (hz : 0 < sz) (hf : DataW.trod enc P w base (fun _ => true) held fuel t cs0 = some x) :
  ∃ (la : Option Addr) (n cap : Nat) (L : List (List Value)) (Rl : List (Nat × Obj)),cs0 = [.slice la n cap] ∧ L.length = n ∧ n ≤ cap ∧ cap ≤ maxLen ∧ (la = none → n = 0 ∧ cap = 0) ∧
   (∀ i,i < n → (L.getD i []).length = sz ∧ ∃ fuel y,DataW.trod enc P w base (fun _ => true) held fuel e (L.getD i []) = some y) ∧ Has w Rl ∧ InS Rl la (n * sz) (fun j => (L.getD (j / sz) []).getD (j % sz) undef) := by
 rcases Go.Deep.open_slice ht hf with ⟨rfl,_⟩ | ⟨a,n0,cap,m,k,D,Pl,rfl,_,hl,hm,hmm,_,hx⟩
 ·refine ⟨none,0,0,[],[],rfl,rfl,Nat.le_refl _,Nat.zero_le _,fun _ => ⟨rfl,rfl⟩,(fun i hi => by omega),(fun e he => by cases he),fun hk => by simp at hk⟩
 ·simp only [if_true] at hmm
  subst hmm
  rw [hsz] at hx
  have hx' : ∀ i,∃ cs',i < n0 → (w.cells? base (a.add (i * sz)) sz = some cs' ∧ DataW.trod enc P w base (fun _ => true) held k e cs' = some (D i,Pl i)) := by
   intro i
   by_cases hi : i < n0
   ·obtain ⟨cs',h1⟩ := hx i om
    exact ⟨cs',fun _ => h1⟩
   ·exact ⟨[],fun h => absurd h hi⟩
  obtain ⟨g,hg⟩ : ∃ g : Nat → List Value,∀ i,i < n0 → (w.cells? base (a.add (i * sz)) sz = some (g i) ∧ DataW.trod enc P w base (fun _ => true) held k e (g i) = some (D i,Pl i)) := ⟨fun i => Classical.choose (hx' i),fun i => Classical.choose_spec (hx' i)⟩
  have hgetL : ∀ i,i < n0 → ((List.range n0).map g).getD i [] = g i := fun i hi => by simp [hi]
  have hcell : ∀ j,j < n0 * sz → w.cell? (a.add j) = some ((((List.range n0).map g).getD (j / sz) []).getD (j % sz) undef) := by
   intro j hj
   have hq : j / sz < n0 := Nat.div_lt_of_lt_mul (by rw [Nat.mul_comm]; exact hj)
   have hr : j % sz < sz := Nat.mod_lt _ hz
   obtain ⟨h1,_⟩ := hg (j / sz) hq
   obtain ⟨_,hlen,hat⟩ := World.cells?_some h1
   have h2 := hat (j % sz) hr
   rw [Go.Deep.add_add,show j / sz * sz + j % sz = j by rw [Nat.mul_comm]; exact Nat.div_add_mod j sz] at h2
   rw [h2,hgetL _ hq,List.getD_eq_getElem?_getD,List.getElem?_eq_getElem om]
   rfl
  have hele : ∀ i,i < n0 → (((List.range n0).map g).getD i []).length = sz ∧ ∃ fuel y,DataW.trod enc P w base (fun _ => true) held fuel e (((List.range n0).map g).getD i []) = some y := by
   intro i hi
   obtain ⟨h1,h2⟩ := hg i hi
   rw [hgetL i hi]
   exact ⟨(World.cells?_some h1).2.1,k,_,h2⟩
  by_cases hk : 0 < n0 * sz
  ·have h0 := hcell 0 hk
   rw [Addr.add_zero'] at h0
   obtain ⟨bl,off,sp⟩ := a
   unfold World.cell? at h0
   simp only at h0
   cases hh : w.heap[bl]? with
   | none => rw [hh] at h0; cases h0
   | some ob =>
    rw [hh] at h0
    cases ob with
    | cells c el fr =>
     simp only at h0
     cases sp with
     | some q => simp at h0
     | none =>
      refine ⟨some ⟨bl,off,none⟩,n0,_,(List.range n0).map g,[(bl,.cells c el fr)],rfl,by simp,hl,hm,(fun h => by cases h),hele,(fun x hx => by simp only [List.mem_cons,List.not_mem_nil,or_false] at hx; subst hx; exact hh),fun _ => ⟨bl,off,c,el,fr,rfl,List.mem_cons_self ..,fun j hj => ?_⟩⟩
      have := hcell j hj
      rw [add_none,cell_cells hh] at this
      exact this
    | _ => cases h0
  ·exact ⟨some a,n0,_,(List.range n0).map g,[],rfl,by simp,hl,hm,(fun h => by cases h),hele,(fun x hx => by cases hx),fun h => absurd h hk⟩
theorem trod_bools {t e : TypeId} {fuel0 : Nat} {cs0 : List Value} {x : DataW H × List MemPlace} (ht : P.underlying t = some (.slice e)) (he : P.underlying e = some .bool) (hce : P.cellsOf e = 1) (h : DataW.trod enc P w base (fun _ => true) held fuel0 t cs0 = some x) :
  ∃ (la : Option Addr) (cap : Nat) (ks : List Bool) (Rl : List (Nat × Obj)),cs0 = [.slice la ks.length cap] ∧ ks.length ≤ cap ∧ cap ≤ maxLen ∧ (la = none → ks.length = 0 ∧ cap = 0) ∧ Has w Rl ∧ InS Rl la ks.length (fun j => .bool (ks.getD j false)) := by
 obtain ⟨la,n,cap,L,Rl,rfl,hn,hc,hm,hno,hel,hR,hI⟩ := trod_in ht hce om h
 have hlen : (L.map fun cs => match cs with | [.bool b] => b | _ => false).length = n := by rw [List.length_map,hn]
 refine ⟨la,cap,L.map fun cs => match cs with | [.bool b] => b | _ => false,Rl,by rw [hlen],by omega,hm,by rw [hlen]; exact hno,hR,?_⟩
 rw [hlen]
 rw [Nat.mul_one] at hI
 refine hI.more (fun _ hx => hx) fun j hj => ?_
 obtain ⟨h1,fuel,y,h2⟩ := hel j hj
 obtain ⟨b,hb,_⟩ := DataW.trod_bool he h2
 have hL : L[j]? = some [.bool b] := by
  rw [List.getElem?_eq_getElem om]
  rw [List.getD_eq_getElem?_getD,List.getElem?_eq_getElem om] at hb
  exact congrArg some hb
 simp [List.getD_eq_getElem?_getD,Nat.mod_one,hL]
theorem trod_flat {α : Type} (f : α → List Value) (Q : α → Prop) {t e : TypeId} {sz fuel0 : Nat} {cs0 : List Value} {x0 : DataW H × List MemPlace} (ht : P.underlying t = some (.slice e)) (hsz : P.cellsOf e = sz) (hz : 0 < sz)
  (hel : ∀ (cs : List Value) (fuel : Nat) (y : DataW H × List MemPlace),cs.length = sz → DataW.trod enc P w base (fun _ => true) held fuel e cs = some y → ∃ a,Q a ∧ cs = f a)
  (h : DataW.trod enc P w base (fun _ => true) held fuel0 t cs0 = some x0) :
  ∃ (la : Option Addr) (cap : Nat) (xs : List α) (Rl : List (Nat × Obj)),cs0 = [.slice la xs.length cap] ∧ xs.length ≤ cap ∧ cap ≤ maxLen ∧ (la = none → xs.length = 0 ∧ cap = 0) ∧ (∀ x ∈ xs,Q x) ∧ Has w Rl ∧
   InS Rl la (xs.length * sz) (fun j => (xs.flatMap f).getD j undef) := by
 obtain ⟨la,n,cap,L,Rl,rfl,hn,hc,hm,hno,hL,hR,hI⟩ := trod_in ht hsz hz h
 have hx : ∀ i,∃ a : Option α,i < n → ∃ b,a = some b ∧ Q b ∧ L.getD i [] = f b := by
  intro i
  by_cases hi : i < n
  ·obtain ⟨h1,fuel,y,h2⟩ := hL i hi
   obtain ⟨a,h3,h4⟩ := hel _ fuel y h1 h2
   exact ⟨some a,fun _ => ⟨a,rfl,h3,h4⟩⟩
  ·exact ⟨none,fun h => absurd h hi⟩
 obtain ⟨g,hg⟩ : ∃ g : Nat → Option α,∀ i,i < n → ∃ b,g i = some b ∧ Q b ∧ L.getD i [] = f b := ⟨fun i => Classical.choose (hx i),fun i => Classical.choose_spec (hx i)⟩
 have hlen : ((List.range n).filterMap g).length = n ∧ ∀ i,i < n → ((List.range n).filterMap g)[i]? = g i := by
  have key : ∀ m,m ≤ n → ((List.range m).filterMap g).length = m ∧ ∀ i,i < m → ((List.range m).filterMap g)[i]? = g i := by
   intro m
   induction m with
   | zero => intro _; exact ⟨rfl,fun i hi => by omega⟩
   | succ m ih =>
    intro hm
    obtain ⟨h1,h2⟩ := ih om
    obtain ⟨b,hb,_⟩ := hg m om
    rw [List.range_succ,List.filterMap_append,show List.filterMap g [m] = [b] by simp [hb]]
    refine ⟨by rw [List.length_append,h1]; rfl,fun i hi => ?_⟩
    by_cases him : i < m
    ·rw [List.getElem?_append_left om,h2 i him]
    ·have : i = m := by omega
     subst this
     rw [List.getElem?_append_right om,h1,Nat.sub_self,hb]; rfl
  exact key n (Nat.le_refl _)
 obtain ⟨hlen,hget⟩ := hlen
 have hq : ∀ i (hi : i < ((List.range n).filterMap g).length),Q ((List.range n).filterMap g)[i] ∧ L.getD i [] = f ((List.range n).filterMap g)[i] := by
  intro i hi
  obtain ⟨b,hb,h1,h2⟩ := hg i om
  have := hget i om
  rw [List.getElem?_eq_getElem hi,hb] at this
  rw [Option.some.inj this]; exact ⟨h1,h2⟩
 refine ⟨la,cap,(List.range n).filterMap g,Rl,by rw [hlen],by omega,hm,by rw [hlen]; exact hno,?_,hR,?_⟩
 ·intro x hx
  obtain ⟨i,hi,rfl⟩ := List.getElem_of_mem hx
  exact (hq i hi).1
 ·rw [hlen]
  refine hI.more (fun _ hx => hx) fun j hj => ?_
  have hi : j / sz < n := Nat.div_lt_of_lt_mul (by rw [Nat.mul_comm]; exact hj)
  have hr : j % sz < sz := Nat.mod_lt _ hz
  have hfl : ∀ x ∈ (List.range n).filterMap g,(f x).length = sz := by
   intro x hx
   obtain ⟨i,hi,rfl⟩ := List.getElem_of_mem hx
   rw [← (hq i hi).2]; exact (hL i om).1
  have h1 := flat_get f sz hfl (i := j / sz) (j := j % sz) om hr
  rw [show j / sz * sz + j % sz = j by rw [Nat.mul_comm]; exact Nat.div_add_mod j sz] at h1
  rw [(hq (j / sz) om).2,List.getD_eq_getElem?_getD,List.getD_eq_getElem?_getD,h1]
end
end K
end Go.Proofs.YtohjpggjgomgoaaGreatDoor
namespace Go.Proofs.YtohjpggjgomgoaaGreatDoor
namespace K
section
variable {C : Cx} {R O : List (Nat × Obj)} {Γ : Env} {op : Oper}
theorem Eff.maxI {x y : Operand} {tys : Array TypeId} {k : IntKind} {a b : Int} (ho : op.op = .call ⟨.builtin .max,#[x,y],tys⟩) (hx : opd Γ [] x = some (.int k a)) (hy : opd Γ [] y = some (.int k b)) : Eff C R O Γ op Unit (fun _ => .int k (if b > a then b else a)) (fun _ => O) (fun _ => True) :=
 Eff.of_run fun ac w hs hp => ⟨(),w,trivial,by
  have e1 := opd_ok hs (holds_nil _) hx
  have e2 := opd_ok hs (holds_nil _) hy
  simp [execOp,ho,resolve,invoke,builtin,Builtin.max_,Builtin.max2,e1,e2],hp⟩
theorem Eff.minI {x y : Operand} {tys : Array TypeId} {k : IntKind} {a b : Int} (ho : op.op = .call ⟨.builtin .min,#[x,y],tys⟩) (hx : opd Γ [] x = some (.int k a)) (hy : opd Γ [] y = some (.int k b)) : Eff C R O Γ op Unit (fun _ => .int k (if b < a then b else a)) (fun _ => O) (fun _ => True) :=
 Eff.of_run fun ac w hs hp => ⟨(),w,trivial,by
  have e1 := opd_ok hs (holds_nil _) hx
  have e2 := opd_ok hs (holds_nil _) hy
  simp [execOp,ho,resolve,invoke,builtin,Builtin.min_,Builtin.min2,e1,e2],hp⟩
end
end K
end Go.Proofs.YtohjpggjgomgoaaGreatDoor
namespace Go.Proofs.YtohjpggjgomgoaaGreatDoor
namespace K
section
variable {C : Cx} {R O : List (Nat × Obj)} {Γ : Env} {op : Oper}
end
theorem own_ins {o : Own} {e : TypeId} {n : Nat} {xs : List Value} {f : Nat → Value} (hok : OwnOk o 1 n xs) (hf : ∀ j,j < n → xs[j]? = some (f j)) : InS (o.o e xs) o.a n f := by
 intro hn
 obtain ⟨p,rfl⟩ := own_some hok hn
 refine ⟨p.1,0,_,e,(0,0),rfl,List.mem_cons_self ..,fun j hj => ?_⟩
 have hl : xs.length = n := by simpa using hok.len
 rw [Nat.zero_add]
 simp only [List.getElem?_toArray]
 rw [List.getElem?_append_left om]
 exact hf j hj
end K
end Go.Proofs.YtohjpggjgomgoaaGreatDoor
namespace Go.Proofs.YtohjpggjgomgoaaGreatDoor
namespace K
structure MO where
 b : Nat
 cap : Nat
 junk : List Value
 mark : Bool
def MO.fr (o : MO) : Nat × Nat := bif o.mark then (o.cap,o.cap + 1) else (0,0)
def MO.o (e : TypeId) (xs : List Value) (o : MO) : List (Nat × Obj) := [(o.b,.cells (xs ++ o.junk).toArray e o.fr)]
structure MOk (o : MO) (n : Nat) (xs : List Value) : Prop where
 len : xs.length = n
 junk : n + o.junk.length = o.cap
section
variable {C : Cx} {R O : List (Nat × Obj)} {Γ : Env} {op : Oper}
theorem ext_push {w w' : World} {o : Obj} (hw : w'.heap = w.heap.push o) (h1 : w'.os = w.os) (h2 : w'.tape = w.tape) (h3 : w'.output = w.output) : Ext [] w w' :=
 ⟨h1,h2,h3,by rw [hw]; simp,fun k hk _ => by rw [hw,Array.getElem?_push,if_neg om]⟩
theorem Eff.toBytes {src dst e : TypeId} {x : Operand} (ho : op.op = .convert src dst x) (hu1 : C.P.underlying src = some .string) (hu2 : C.P.underlying dst = some (.slice e)) (hue : C.P.underlying e = some (.int .u8))
  {t : ByteArray} (hx : opd Γ [] x = some (.string t)) (Fl T : List (Nat × Obj)) (hO : O = Fl ++ T) :
  Eff C R O Γ op MO (fun o => .slice (some ⟨o.b,0,none⟩) t.size o.cap) (fun o => Fl ++ (o.o e (bv t.data.toList).toList ++ T)) (fun o => MOk o t.size (bv t.data.toList).toList) := by
 refine Eff.perm (O2 := O) (O2' := fun o => o.o e (bv t.data.toList).toList ++ O) ?_ (List.Perm.refl _) (fun o => by rw [hO]; exact List.perm_append_comm_assoc _ _ _)
 refine Eff.of_run fun a w hs hp => ?_
 let cap := (Question.appendCap t.size 0 e).cut (w.tape w.drawn (.appendCap t.size 0 e))
 have hcap : t.size ≤ cap := Nat.le_add_right _ _
 let cs : Array Value := (t.data.map fun b => Value.int .u8 b.toNat) ++ Array.replicate (cap - t.size) (.int .u8 0)
 have hcs : cs.size = cap := by simp [cs]; show t.size + (cap - t.size) = cap; omega
 let w1 : World := { w with drawn := w.drawn + 1 }
 let w2 : World := (w1.alloc (.cells cs e (0,0))).freeze ⟨w.heap.size,cap,none⟩ 1
 have hw2 : w2.heap = w.heap.push (.cells cs e (cap,cap + 1)) := by
  simp only [w2,World.freeze,World.alloc,Nat.one_ne_zero,if_false]
  apply Array.ext_getElem?
  intro k
  simp only [Array.getElem?_modify]
  by_cases hk : w.heap.size = k
  ·subst hk; simp [w1]
  ·simp only [hk,if_false]
   simp only [Array.getElem?_push,w1]
   rw [if_neg (fun h => hk h.symm),if_neg (fun h => hk h.symm)]
 have hstb : (Conv.stringToBytes e t).run C.P w = .ok (.slice (some ⟨w.heap.size,0,none⟩) t.size cap) w2 := by
  have hsh : (w1.alloc (.cells cs e (0,0))).shape? w.heap.size = some (e,cap) := by
   simp [World.shape?,World.alloc,w1,hcs]
  have hsh' : World.shape? { w1 with heap := w1.heap.push (.cells cs e (0,0)) } w.heap.size = some (e,cap) := hsh
  unfold Conv.stringToBytes
  simp only [Sem.run_bind]
  show _ = Result.ok (Value.slice (some ⟨w.heap.size,0,none⟩) t.size cap) w2
  simp only [choose,Sem.run,Question.forced,Bool.false_eq_true,if_false,Result.andThen_ok,newRow,newObj,Sem.run_bind,Sem.run_pure]
  simp only [markStringish,shape,Sem.run_bind,Sem.run]
  have hh : World.shape? { heap := w.heap.push (.cells ((t.data.map fun b => Value.int .u8 b.toNat) ++ Array.replicate ((Question.appendCap t.size 0 e).cut (w.tape w.drawn (.appendCap t.size 0 e)) - t.size) (.int .u8 0)) e),tape := w.tape,drawn := w.drawn + 1,os := w.os,output := w.output } w.heap.size = some (e,cap) := hsh'
  rw [hh]
  rfl
 have hcells : cs = ((bv t.data.toList).toList ++ List.replicate (cap - t.size) (Value.int .u8 0)).toArray := by
  apply Array.ext'
  simp [cs,bv_list]
 have hget : w2.heap[w.heap.size]? = some (.cells ((bv t.data.toList).toList ++ List.replicate (cap - t.size) (Value.int .u8 0)).toArray e (cap,cap + 1)) := by
  rw [hw2,← hcells]; simp
 refine ⟨⟨w.heap.size,cap,List.replicate (cap - t.size) (Value.int .u8 0),true⟩,w2,⟨by rw [bv_len]; exact ba_len t,by rw [List.length_replicate]; show t.size + (cap - t.size) = cap; omega⟩,?_,?_⟩
 ·simp only [execOp,ho]
  refine run_v ?_
  simp only [convert,Sem.run_bind,run_underlying' hu1,run_underlying' hu2,Result.andThen_ok,opd_ok hs (holds_nil _) hx,run_underlying' hue,hstb]
 ·exact (hp.calm (ext_push hw2 rfl rfl rfl)).add hget (hp.fresh (Nat.le_refl _)) (.inl hp.ext.size)
theorem Eff.appendM {t e : TypeId} {x1 x2 : Operand} (ho : op.op = .call ⟨.builtin .append,#[x1,x2],#[t,t]⟩) (ht : C.P.underlying t = some (.slice e)) (hsz : (C.P.info? e).map (fun i => (i.size,i.bytes)) = some (1,1))
  {z : Value} (hz0 : (C.P.info? e).bind (·.zero) = some z) (hzs : z.cells.size = 1) (o : MO) {n : Nat} {xs : List Value} (hok : MOk o n xs) (h1 : opd Γ [] x1 = some (.slice (some ⟨o.b,0,none⟩) n o.cap))
  {b2 off2 c2 : Nat} (h2 : opd Γ [] x2 = some (.slice (some ⟨b2,off2,none⟩) 1 c2)) (v : Value) (hv : K.one v = true) (Fl T : List (Nat × Obj)) (hO : O = Fl ++ (o.o e xs ++ T))
  (hsrc : ∀ w,HP C.w0 C.M R O w → w.cell? ⟨b2,off2,none⟩ = some v) (hroom : n + 1 ≤ 140737488355328) :
  Eff C R O Γ op MO (fun o' => .slice (some ⟨o'.b,0,none⟩) (n + 1) o'.cap) (fun o' => Fl ++ (o'.o e (xs ++ [v]) ++ T)) (fun o' => MOk o' (n + 1) (xs ++ [v])) := by
 have hperm : O.Perm (o.o e xs ++ (Fl ++ T)) := by rw [hO]; exact List.perm_append_comm_assoc _ _ _
 refine Eff.perm (O2 := o.o e xs ++ (Fl ++ T)) (O2' := fun o' => o'.o e (xs ++ [v]) ++ (Fl ++ T)) ?_ hperm (fun x => List.perm_append_comm_assoc _ _ _)
 refine Eff.of_run fun a w hs hp => ?_
 obtain ⟨inf,hi,hse⟩ := Option.map_eq_some_iff.1 hsz
 obtain ⟨inf',hi',hz⟩ := Option.bind_eq_some_iff.1 hz0
 rw [hi] at hi'
 simp only [Option.some.injEq] at hi'
 subst hi'
 simp only [Prod.mk.injEq] at hse
 obtain ⟨hs1,hb1⟩ := hse
 have hnews : ∀ j u,[v][j]? = some u → w.cell? (Addr.add ⟨b2,off2,none⟩ j) = some u := fun j u hj => by
  rw [add_none]
  cases j with
  | zero =>
   simp only [List.getElem?_cons_zero,Option.some.injEq] at hj
   subst hj
   exact hsrc w (hp.perm hperm.symm)
  | succ j => simp at hj
 have hex : ∀ {u : Value} {w' : World},(Builtin.append_ #[t,t] op.type #[a.eval x1,a.eval x2]).run C.P w = .ok u w' → (execOp a.eval op).run C.P w = .ok (.value u) w' := by
  intro u w' h
  simp [execOp,ho,resolve,invoke,builtin,h]
 have e1 := opd_ok hs (holds_nil _) h1
 have e2 := opd_ok hs (holds_nil _) h2
 have hget : (o.o e xs ++ (Fl ++ T))[0]? = some (o.b,.cells (xs ++ o.junk).toArray e o.fr) := rfl
 have hb := hp.own _ (List.mem_of_getElem? hget)
 have hj := hok.junk
 have hl := hok.len
 by_cases hr : n + 1 ≤ o.cap
 ·have hcell : ∀ j,j < 1 → (w.cell? ⟨o.b,0 + n * inf.size + j,none⟩).isSome = true := fun j hj' => by
   have hlt : 0 + n * inf.size + j < (xs ++ o.junk).toArray.size := by
    rw [hs1]; simp only [List.size_toArray,List.length_append]; omega
   rw [cell_cells hb,Array.getElem?_eq_getElem hlt]; rfl
  have hfz : ∀ j,j < 1 → w.frozen? ⟨o.b,0 + n * inf.size + j,none⟩ = false := fun j hj' => by
   have hq : ∀ k,k < o.cap → (decide (o.fr.1 ≤ k) && decide (k < o.fr.2)) = false := fun k hk => by
    unfold MO.fr
    cases o.mark with
    | true => simp; omega
    | false => simp
   have := hq (0 + n * inf.size + j) (by rw [hs1]; omega)
   simp only [World.frozen?,hb]
   exact this
  have hrun := run_append_room_cells (P := C.P) w t op.type e inf ht hi o.b 0 n o.cap ⟨b2,off2,none⟩ 1 c2 [v] (by rw [hs1]; rfl) hnews (fun u hu => one_cell (by rw [List.mem_singleton.1 hu]; exact hv)) hr hcell hfz
  refine ⟨⟨o.b,o.cap,o.junk.drop 1,o.mark⟩,_,⟨by rw [List.length_append,hl]; rfl,by rw [List.length_drop]; show n + 1 + (o.junk.length - 1) = o.cap; omega⟩,hex (by rw [e1,e2]; exact hrun),?_⟩
  have hnew : (xs ++ o.junk).toArray.setIfInBounds (0 + n * inf.size) v = (xs ++ [v] ++ o.junk.drop 1).toArray := by
   apply Array.ext'
   rw [hs1,Nat.zero_add,Nat.mul_one,← hl]
   cases hjk : o.junk with
   | nil => rw [hjk] at hj; simp at hj; omega
   | cons y l => simp
  have hset := hp.set 0 (.cells ((xs ++ o.junk).toArray.setIfInBounds (0 + n * inf.size) v) e o.fr) hget (w' := w.setCells o.b (0 + n * inf.size) [v]) (setCell_heap hb) rfl rfl rfl
  rw [hnew] at hset
  exact hset
 ·have hp1 : HP C.w0 C.M R (Fl ++ T) w := hp.sub (List.sublist_append_right _ _)
  have holds : ∀ j u,xs[j]? = some u → w.cell? (Addr.add ⟨o.b,0,none⟩ j) = some u := fun j u hju => by
   rw [add_none,Nat.zero_add,cell_cells hb]
   have hlt : j < xs.length := (List.getElem?_eq_some_iff.1 hju).1
   simp [List.getElem?_append_left hlt,hju]
  have hrun := Go.run_append_grow (P := C.P) w t op.type e inf z ht hi hz ⟨o.b,0,none⟩ n o.cap xs (by rw [hs1]; omega) holds ⟨b2,off2,none⟩ 1 c2 [v] (by rw [hs1]; rfl) hnews om om (growslice_fits om (by rw [hb1]; omega))
  have hge := grownCap_ge w (n + 1) o.cap e
  have hp2 := (hp1.calm (ext_drew w)).alloc (.cells (xs.toArray ++ [v].toArray ++ Builtin.zeroCells z.cells (grownCap w (n + 1) o.cap e - (n + 1))) e (0,0))
  refine ⟨⟨w.heap.size,grownCap w (n + 1) o.cap e,(Builtin.zeroCells z.cells (grownCap w (n + 1) o.cap e - (n + 1))).toList,false⟩,_,⟨by rw [List.length_append,hl]; rfl,by
   show n + 1 + (Builtin.zeroCells z.cells (grownCap w (n + 1) o.cap e - (n + 1))).toList.length = grownCap w (n + 1) o.cap e
   rw [Array.length_toList,zeroCells_size,hzs]; omega⟩,hex (by rw [e1,e2]; exact hrun),?_⟩
  have e3 : (xs.toArray ++ [v].toArray ++ Builtin.zeroCells z.cells (grownCap w (n + 1) o.cap e - (n + 1))) = (xs ++ [v] ++ (Builtin.zeroCells z.cells (grownCap w (n + 1) o.cap e - (n + 1))).toList).toArray := by
   apply Array.ext'
   simp
  rw [e3] at hp2 ⊢
  exact hp2
theorem Eff.makeRow {t e : TypeId} {l c : Operand} {n : Nat} {cells : Array Value} {v1 v2 : Value} (ho : op.op = .makeSlice t l c) (h1 : opd Γ [] l = some v1) (h2 : opd Γ [] c = some v2)
  (hrun : ∀ w,(Instr.makeSlice t v1 v2).run C.P w = .ok (.slice (some ⟨w.heap.size,0,none⟩) n n) (w.alloc (.cells cells e (0,0)))) :
  Eff C R O Γ op Nat (fun b => .slice (some ⟨b,0,none⟩) n n) (fun b => (b,.cells cells e (0,0)) :: O) (fun b => C.w0.heap.size ≤ b ∧ b ∉ O.map (·.1)) := by
 refine Eff.of_run fun a w hs hp => ⟨w.heap.size,w.alloc (.cells cells e (0,0)),⟨hp.ext.size,hp.fresh (Nat.le_refl _)⟩,?_,hp.alloc _⟩
 simp only [execOp,ho]
 refine run_v ?_
 rw [opd_ok hs (holds_nil _) h1,opd_ok hs (holds_nil _) h2]
 exact hrun w
end
end K
end Go.Proofs.YtohjpggjgomgoaaGreatDoor
namespace Go.Proofs.YtohjpggjgomgoaaGreatDoor
namespace K
theorem run_mkZ {P : Program} {w : World} {t e : TypeId} {k : IntKind} {n : Nat} {inf : TypeInfo} {z : Value} {L : List Value} (hu : P.underlying t = some (.slice e)) (hinf : P.info? e = some inf) (hz : inf.zero = some z) (hs : z.cells.size = inf.size) (h0 : 0 < n * inf.size) (hn : n ≤ 1000000000) (hb : inf.bytes ≤ 100000)
  (hl : L.length = n * inf.size) (hL : ∀ i,i < n * inf.size → L[i]? = some (z.cells[i % inf.size]!)) :
  (Instr.makeSlice t (.int k (n : Int)) (.int k (n : Int))).run P w = .ok (.slice (some ⟨w.heap.size,0,none⟩) n n) (w.alloc (.cells L.toArray e (0,0))) := by
 have w1 : IntKind.i64.wrap (n : Int) = (n : Int) := wrap_in (by simp [lo,hi]; omega)
 have c1 : ¬ ((n : Int) < 0) := by omega
 have c2 : ¬ ((inf.bytes : Int) * (n : Int) > 2 ^ 48) := by
  have h1 : inf.bytes * n ≤ 100000 * 1000000000 := Nat.mul_le_mul hb hn
  have h2 : ((inf.bytes * n : Nat) : Int) ≤ ((100000 * 1000000000 : Nat) : Int) := Int.ofNat_le.2 h1
  rw [Int.natCast_mul] at h2
  omega
 have c4 : ¬ ((n : Int) > (n : Int)) := by omega
 have hti : (typeInfo e).run P w = .ok inf w := by simp [typeInfo,program,Sem.run,hinf]
 have har : (askRoom ((n : Int).toNat * inf.bytes)).run P w = .ok () w := by
  unfold askRoom
  split <;> rfl
 have hzv : (zeroValue e).run P w = .ok z w := by simp [zeroValue,typeInfo,program,Sem.run,hinf,hz]
 have hrow : (Array.range (n * inf.size)).map (fun x => z.cells[x % z.cells.size]!) = L.toArray := by
  apply Array.ext
  ·simp [hl]
  ·intro i h1 h2
   have h3 := hL i (by simpa using h1)
   rw [← hs] at h3
   have h4 : L.toArray[i]? = some (z.cells[i % z.cells.size]!) := by rw [List.getElem?_toArray]; exact h3
   rw [Array.getElem?_eq_getElem h2] at h4
   rw [Option.some.inj h4]
   simp
 simp only [Instr.makeSlice,Sem.run_bind,run_underlying' hu,Result.andThen_ok,asInt,asIntOf,Sem.run_pure,hti,w1,c1,c2,c4,decide_false,Bool.or_self,Bool.false_eq_true,if_false,har,run_sizeOf' hinf]
 rw [Int.toNat_natCast,if_neg om]
 simp only [Sem.run_bind,hzv,Result.andThen_ok,Sem.run_pure]
 rw [hrow]
 simp [newRow,newObj,Sem.run]
theorem Eff.remI {C : Cx} {R O : List (Nat × Obj)} {Γ : Env} {op : Oper} {ty ty2 : TypeId} {x y : Operand} {k : IntKind} {a b : Int} (ho : op.op = .binOp .rem ty x y ty2) (hx : opd Γ [] x = some (.int k a)) (hy : opd Γ [] y = some (.int k b)) (hb : b ≠ 0) :
  Eff C R O Γ op Unit (fun _ => .int k (a.tmod b)) (fun _ => O) (fun _ => True) :=
 Eff.of_run fun c w hs hp => ⟨(),w,trivial,by
  simp only [execOp,ho]
  refine run_v ?_
  rw [opd_ok hs (holds_nil _) hx,opd_ok hs (holds_nil _) hy]
  simp [eqGuard,binOp,Op.intDiv,hb],hp⟩
theorem CfgA.three {C : Cx} {R O Os : List (Nat × Obj)} {Γ : Env} {ks : List KI} {ops : Array Oper} {fuel fuel' : Nat} {l : Array Bool} (i j k : Nat) (hr : Region.ready .any ops l = [i,j,k]) (hf : fuel = fuel' + 1) (h1 : CfgI C R Os O Γ ops fuel' l i ks) (h2 : CfgI C R Os O Γ ops fuel' l j ks) (h3 : CfgI C R Os O Γ ops fuel' l k ks) : CfgA C R Os O Γ ops fuel l ks := by
 subst hf
 intro a w hs hp
 refine wpAnyH_all hr (by simp) ?_
 intro q hq
 simp only [List.mem_cons,List.not_mem_nil,or_false] at hq
 rcases hq with rfl | rfl | rfl
 ·exact h1 a w hs hp
 ·exact h2 a w hs hp
 ·exact h3 a w hs hp
end K
end Go.Proofs.YtohjpggjgomgoaaGreatDoor
namespace Go.Proofs.YtohjpggjgomgoaaGreatDoor
namespace K
def n0 : (World → Prop) → List Prop := fun _ => []
def evG (C : Cx) (R O : List (Nat × Obj)) (Γ : Env) (ops : Array Oper) (l : List Oper) (ds : List Dir) (kp : Option (List Nat)) : Env :=
 match evR C (HP C.w0 C.M R O) Γ ops l ds kp with
 | some r => r.1
 | none => []
def evN (C : Cx) (R O : List (Nat × Obj)) (Γ : Env) (ops : Array Oper) (l : List Oper) (ds : List Dir) (kp : Option (List Nat)) : Option (List Prop) :=
 match evR C (HP C.w0 C.M R O) Γ ops l ds kp with
 | some r => some r.2
 | none => none
section
variable {C : Cx} {R O Os Os' : List (Nat × Obj)} {Γ Γ' : Env} {ks ks' : List KI} {nd : (World → Prop) → List Prop} {ops : Array Oper}
theorem evG_some {l : List Oper} {ds : List Dir} {kp : Option (List Nat)} {n : List Prop} (h : evN C R O Γ ops l ds kp = some n) : evR C (HP C.w0 C.M R O) Γ ops l ds kp = some (evG C R O Γ ops l ds kp,n) := by
 unfold evN at h
 unfold evG
 split at h
 ·rename_i r hr
  rw [hr]
  obtain ⟨a,b⟩ := r
  simp only [Option.some.injEq] at h
  rw [h]
 ·cases h
theorem Rg (kp : List Nat) (ds : List Dir) (nd : (World → Prop) → List Prop) (hn : All (nd (HP C.w0 C.M R O))) {id : Nat} (h : Cfg C R O (evG C R O Γ ops ops.toList ds (some kp)) ks') (hk : K.nrm 99 ks = .inl (.region id ops false) :: ks' := by rfl)
  (he : evN C R O Γ ops ops.toList ds (some kp) = some (nd (HP C.w0 C.M R O)) := by kernel_rfl) : Cfg C R O Γ ks := by
 refine Cfg.nrm ?_
 rw [hk]
 intro a w hs hp
 obtain ⟨hsel,Γ2,he2,hw⟩ := evR_some (evG_some he)
 refine wpIn_region_list ?_
 have := wplIn_pure (ro := C.ro) (Q := C.Q ks') (l2 := []) (w := w) ops.toList ds Γ a (sel_all hsel (fun _ h => h)) hs he2 hn.mem hp (fun a' hs' => h a' w (hw _ _ _ hs') hp)
 simpa using this
theorem Lp {rest : List Oper} (k : Nat) (ds : List Dir) (kp : Option (List Nat)) (nd : (World → Prop) → List Prop) (hn : All (nd (HP C.w0 C.M R O))) (h : CfgL C R O (evG C R O Γ ops (rest.take k) ds kp) ops (rest.drop k) ks)
  (hm : (rest.all fun o => match o.op with | .select .. => false | _ => true) = true := by kernel_rfl) (he : evN C R O Γ ops (rest.take k) ds kp = some (nd (HP C.w0 C.M R O)) := by kernel_rfl) : CfgL C R O Γ ops rest ks := by
 intro a w hs hp
 obtain ⟨hsel,Γ2,he2,hw⟩ := evR_some (evG_some he)
 have := wplIn_pure (ro := C.ro) (Q := C.Q ks) (l2 := rest.drop k) (w := w) (rest.take k) ds Γ a (fun o ho cs b hh => by
  have := List.all_eq_true.1 hm o (List.mem_of_mem_take ho)
  simp [hh] at this) hs he2 hn.mem hp (fun a' hs' => h a' w (hw _ _ _ hs') hp)
 rwa [List.take_append_drop] at this
theorem Ap {fuel : Nat} {l : Array Bool} (is : List Nat) (ds : List Dir) (kp : Option (List Nat)) (l' : Array Bool) (hO : Os.Sublist O) (fuel' : Nat) (nd : (World → Prop) → List Prop) (hn : All (nd (HP C.w0 C.M R Os)))
  (h : CfgA C R Os O (evG C R Os Γ ops ((opsAt ops is).getD []) ds kp) ops fuel' l' ks) (ht : takes .any ops l is = some l' := by kernel_rfl) (ho0 : (opsAt ops is).isSome = true := by kernel_rfl) (hf : fuel = fuel' + is.length := by rfl)
  (he : evN C R Os Γ ops ((opsAt ops is).getD []) ds kp = some (nd (HP C.w0 C.M R Os)) := by kernel_rfl) : CfgA C R Os O Γ ops fuel l ks := by
 intro a w hs hp
 obtain ⟨hsel,Γ2,he2,hw⟩ := evR_some (evG_some he)
 obtain ⟨os,ho⟩ := Option.isSome_iff_exists.1 ho0
 rw [ho,Option.getD_some] at he2
 rw [ho,Option.getD_some] at hw h
 subst hf
 exact any_pure (Q := C.Q ks) (w := w) hsel (panicOk C ks) is os ds l Γ a ht ho hs he2 hn.mem (hp.sub hO) (fun a' hs' => h a' w (hw _ _ _ hs') hp)
theorem Le {rest' : List Oper} {o : Oper} {ι : Type} {V : ι → Value} {O' : ι → List (Nat × Obj)} {F : ι → Prop} (he : Eff C R O Γ o ι V O' F)
  (h : ∀ x,F x → CfgL C R (O' x) (putO Γ o.dst (V x)) ops rest' ks) (hd : DstOk C.fn.ntmps o = true := by kernel_rfl) (hg : guardV Γ ops o = guardW o := by kernel_rfl) (hnd : ndf o = true := by kernel_rfl) : CfgL C R O Γ ops (o :: rest') ks := CfgL.eff rfl hd hg he h hnd
theorem Ae {fuel : Nat} {l : Array Bool} (i : Nat) {o : Oper} (ho : ops[i]? = some o) (fuel' : Nat) {ι : Type} {V : ι → Value} {O' : ι → List (Nat × Obj)} {F : ι → Prop} (he : Eff C R O Γ o ι V O' F) (hO : ∀ x,F x → Os.Sublist (O' x))
  (h : ∀ x,F x → CfgA C R Os (O' x) (putO Γ o.dst (V x)) ops fuel' (l.setIfInBounds i true) ks) (hr : Region.ready .any ops l = [i] := by kernel_rfl) (hf : fuel = fuel' + 1 := by rfl) (hd : DstOk C.fn.ntmps o = true := by kernel_rfl) (hg : guardV Γ ops o = guardW o := by kernel_rfl) : CfgA C R Os O Γ ops fuel l ks := CfgA.eff i ho hr hf hd hg he hO h
theorem Ie {fuel : Nat} {l : Array Bool} {i : Nat} {o : Oper} (ho : ops[i]? = some o) {ι : Type} {V : ι → Value} {O' : ι → List (Nat × Obj)} {F : ι → Prop} (he : Eff C R O Γ o ι V O' F) (hO : ∀ x,F x → Os.Sublist (O' x))
  (h : ∀ x,F x → CfgA C R Os (O' x) (putO Γ o.dst (V x)) ops fuel (l.setIfInBounds i true) ks) (hd : DstOk C.fn.ntmps o = true := by kernel_rfl) (hg : guardV Γ ops o = guardW o := by kernel_rfl) : CfgI C R Os O Γ ops fuel l i ks := CfgI.eff ho hd hg he hO h
theorem wpAnyH_weak {P : Program} {md : Region.Mode} {Q : Exit → Act → World → Prop} {S S' : World → Prop} (hS : ∀ w,S' w → S w) : ∀ (fuel : Nat) (l : Array Bool) (a : Act) (w : World),wpAnyH P md ops Q S' fuel l a w → wpAnyH P md ops Q S fuel l a w
 | 0,_,_,_,h => h
 | fuel + 1,_,_,_,h => ⟨h.1,fun i hi => wpOp_mono (fun a' w' h' => ⟨hS _ h'.1,wpAnyH_weak hS fuel _ a' w' h'.2⟩) (h.2 i hi)⟩
theorem CfgA.grow {fuel : Nat} {l : Array Bool} (Os' : List (Nat × Obj)) (hs : Os.Sublist Os') (h : CfgA C R Os' O Γ ops fuel l ks) : CfgA C R Os O Γ ops fuel l ks := fun a w ha hp => wpAnyH_weak (fun _ hw => hw.sub hs) _ _ _ _ (h a w ha hp)
theorem Cg (h : Cfg C R O Γ' ks) (hc : (Γ'.map fun e => find Γ e.1) = Γ'.map fun e => some e.2 := by kernel_rfl) : Cfg C R O Γ ks := Conv.cfg (Conv.mk hc) h
end
end K
end Go.Proofs.YtohjpggjgomgoaaGreatDoor
namespace Go.Proofs.YtohjpggjgomgoaaGreatDoor
open K
set_option linter.unusedVariables false
def zb : List UInt8 := List.replicate 512 0
theorem zb_len : zb.length = 512 := List.length_replicate
abbrev Wt := List (Int × List UInt8)
def wv2 (W : Wt) : List (Int × Value) := W.map fun p => (p.1,Value.agg (bv p.2))
def wget (W : Wt) (k : Int) : Option (List UInt8) := match W with
 | [] => none
 | p :: W => if k = p.1 then some p.2 else wget W k
def wset (W : Wt) (k : Int) (v : List UInt8) : Wt := match W with
 | [] => [(k,v)]
 | p :: W => if k = p.1 then (k,v) :: W else p :: wset W k v
def keysW (W : Wt) : List Int := srt ((wv2 W).map (·.1))
theorem keysW_len (W : Wt) : (keysW W).length = W.length := by unfold keysW; rw [srt_len,List.length_map]; unfold wv2; rw [List.length_map]
theorem mget_wv (k : Int) : ∀ W : Wt,mget (wv2 W) k = (wget W k).map fun b => Value.agg (bv b)
 | [] => rfl
 | p :: W => by
  show (if k = p.1 then some (Value.agg (bv p.2)) else mget (wv2 W) k) = _
  unfold wget
  split
  ·rfl
  ·exact mget_wv k W
theorem mset_wv (k : Int) (b : List UInt8) : ∀ W : Wt,mset (wv2 W) k (.agg (bv b)) = wv2 (wset W k b)
 | [] => rfl
 | p :: W => by
  show (if k = p.1 then (k,Value.agg (bv b)) :: wv2 W else (p.1,Value.agg (bv p.2)) :: mset (wv2 W) k (.agg (bv b))) = _
  unfold wset
  split
  ·rfl
  ·rw [mset_wv k b W]; rfl
theorem wget_set (W : Wt) (k : Int) (v : List UInt8) (j : Int) : wget (wset W k v) j = if j = k then some v else wget W j := by
 induction W with
 | nil => simp [wset,wget]
 | cons p W ih =>
  unfold wset
  by_cases h : k = p.1
  ·rw [if_pos h]
   unfold wget
   by_cases hj : j = k
   ·rw [if_pos hj,if_pos hj]
   ·simp only [if_neg hj]
    rw [if_neg (show ¬ j = p.1 from fun e => hj (by rw [e,h]))]
  ·rw [if_neg h]
   unfold wget
   by_cases hj : j = p.1
   ·rw [if_pos hj,if_neg (fun e => h (by rw [← e,hj])),if_pos hj]
   ·rw [if_neg hj,if_neg hj,ih]
theorem wset_mem {W : Wt} {k : Int} {v : List UInt8} : ∀ p ∈ wset W k v,p = (k,v) ∨ p ∈ W := by
 induction W with
 | nil => intro p hp; exact .inl (List.mem_singleton.1 hp)
 | cons q W ih =>
  intro p hp
  unfold wset at hp
  split at hp
  ·rcases List.mem_cons.1 hp with rfl | hp
   ·exact .inl rfl
   ·exact .inr (List.mem_cons_of_mem _ hp)
  ·rcases List.mem_cons.1 hp with rfl | hp
   ·exact .inr (List.mem_cons_self ..)
   ·rcases ih p hp with h | h
    ·exact .inl h
    ·exact .inr (List.mem_cons_of_mem _ h)
theorem wget_mem {k : Int} {b : List UInt8} : ∀ {W : Wt},wget W k = some b → (k,b) ∈ W
 | [],h => by cases h
 | p :: W,h => by
  unfold wget at h
  split at h
  ·rename_i hk
   rw [← Option.some.inj h,hk]; exact List.mem_cons_self ..
  ·exact List.mem_cons_of_mem _ (wget_mem h)
structure DK where
 fuse : Int
 steps : Int
 down : Bool
 last : List (List UInt8)
 wait : Wt
structure DM where
 d : Nat
 lb : Nat
 mb : Nat
abbrev MX := Array MapEntry × Nat
def rows (l : List (List UInt8)) : List Value := l.flatMap fun b => (bv b).toList
def dC (D : DK) (m : DM) : Array Value := #[.int .i64 D.fuse,.int .i64 D.steps,.bool D.down,.slice (some ⟨m.lb,0,none⟩) D.last.length D.last.length,.map (some m.mb)]
def dO (D : DK) (m : DM) (x : MX) : List (Nat × Obj) := [(m.d,.cells (dC D m) 117 (0,0)),(m.lb,.cells (rows D.last).toArray 25 (0,0)),(m.mb,.map x.1 x.2)]
def W5 (l : List (List UInt8)) : Prop := ∀ b ∈ l,b.length = 512
structure DG (D : DK) : Prop where
 w : W5 D.last
 ww : ∀ p ∈ D.wait,p.2.length = 512
 k : ∀ p ∈ D.wait,0 ≤ p.1 ∧ p.1 < (D.last.length : Int)
 n : D.last.length ≤ 4096
 nd : (D.wait.map (·.1)).Nodup
 f : -1 ≤ D.fuse ∧ D.fuse ≤ 9223372036854775807
theorem nodup_len : ∀ (n : Nat) (l : List Int),l.Nodup → (∀ x ∈ l,0 ≤ x ∧ x < (n : Int)) → l.length ≤ n
 | 0,l,_,h => by
  cases l with
  | nil => exact Nat.le_refl _
  | cons a l => have := h a (List.mem_cons_self ..); omega
 | n + 1,l,hd,h => by
  by_cases hm : (n : Int) ∈ l
  ·have h1 := nodup_len n (l.erase n) (hd.erase _) (fun x hx => by
    have h2 := h x (List.mem_of_mem_erase hx)
    have h3 := (hd.mem_erase_iff.1 hx).1
    omega)
   rw [List.length_erase_of_mem hm] at h1
   omega
  ·have h1 := nodup_len n l hd (fun x hx => by
    have h2 := h x hx
    have h3 : x ≠ (n : Int) := fun e => hm (e ▸ hx)
    omega)
   omega
theorem DG.wn {D : DK} (h : DG D) : D.wait.length ≤ D.last.length := by
 have h1 := nodup_len D.last.length _ h.nd (fun x hx => by
  obtain ⟨p,hp,rfl⟩ := List.mem_map.1 hx
  exact h.k p hp)
 rw [List.length_map] at h1; exact h1
theorem DG.wl {D : DK} (h : DG D) : D.wait.length ≤ 1000000 := by have := h.wn; have := h.n; omega
theorem W5.at {l : List (List UInt8)} (h : W5 l) {i : Nat} (hi : i < l.length) : (l.getD i zb).length = 512 := by
 rw [List.getD_eq_getElem?_getD,List.getElem?_eq_getElem hi]; exact h _ (List.getElem_mem hi)
theorem W5.at' {l : List (List UInt8)} (h : W5 l) (i : Nat) : (l.getD i zb).length = 512 := by
 by_cases hi : i < l.length
 ·exact h.at hi
 ·rw [List.getD_eq_getElem?_getD,List.getElem?_eq_none om]; exact zb_len
theorem rows_len {l : List (List UInt8)} (h : W5 l) : (rows l).length = l.length * 512 := by
 induction l with
 | nil => rfl
 | cons b l ih =>
  have hb := h b (List.mem_cons_self ..)
  rw [rows,List.flatMap_cons,List.length_append,Array.length_toList,bv_size,hb]
  have := ih (fun x hx => h x (List.mem_cons_of_mem _ hx))
  unfold rows at this
  rw [this,List.length_cons]; omega
theorem rows_get {l : List (List UInt8)} (h : W5 l) {i j : Nat} (hi : i < l.length) (hj : j < 512) : (rows l)[i * 512 + j]? = some (.int .u8 (((l.getD i zb).getD j 0).toNat : Int)) := by
 have h1 := flat_get (fun b : List UInt8 => (bv b).toList) 512 (l := l) (fun x hx => by rw [Array.length_toList,bv_size,h x hx]) hi hj
 unfold rows
 have e : l.getD i zb = l[i] := by rw [List.getD_eq_getElem?_getD,List.getElem?_eq_getElem hi]; rfl
 rw [h1,Array.getElem?_toList,e]
 exact bv_get (h _ (List.getElem_mem hi)) hj
theorem rows_split (l : List (List UInt8)) (i : Nat) (hi : i < l.length) : rows l = rows (l.take i) ++ (bv l[i]).toList ++ rows (l.drop (i + 1)) := by
 have e : l = l.take i ++ (l[i] :: l.drop (i + 1)) := by rw [← List.drop_eq_getElem_cons hi,List.take_append_drop]
 conv => lhs; rw [e]
 unfold rows
 rw [List.flatMap_append,List.flatMap_cons,List.append_assoc]
theorem rows_set {l : List (List UInt8)} {b : List UInt8} {i off : Nat} (h : W5 l) (hb : b.length = 512) (hi : i < l.length) (ho : off = i * 512) : spl (rows l).toArray off (bv b).toList = (rows (l.set i b)).toArray := by
 have h1 := spl_at (L := rows l) (A := rows (l.take i)) (B := (bv l[i]).toList) (T := rows (l.drop (i + 1))) (vs := (bv b).toList) (off := off) (rows_split l i hi)
  (by rw [rows_len (fun x hx => h x (List.mem_of_mem_take hx)),List.length_take,ho]; congr 1; omega) (by rw [Array.length_toList,Array.length_toList,bv_size,bv_size,hb,h _ (List.getElem_mem hi)])
 rw [h1]
 have h2 : i < (l.set i b).length := by rw [List.length_set]; exact hi
 rw [rows_split (l.set i b) i h2]
 have e1 : (l.set i b).take i = l.take i := by rw [List.take_set,List.set_eq_of_length_le (by rw [List.length_take]; omega)]
 have e2 : (l.set i b).drop (i + 1) = l.drop (i + 1) := by rw [List.drop_set]; rw [if_pos om]
 have e3 : (l.set i b)[i] = b := List.getElem_set_self h2
 rw [e1,e2,e3]
theorem sect_cell {w : World} {b n off : Nat} {l : List (List UInt8)} {t : TypeId} {fr : Nat × Nat} (hW : W5 l) (h : w.heap[b]? = some (.cells (rows l).toArray t fr)) {i : Nat} (ho : off = i * 512) (hi : i < l.length) (j : Nat) (hj : j < 512) : w.cell? ⟨b,off + j,none⟩ = some (.int .u8 (((l.getD i zb).getD j 0).toNat : Int)) := by
 rw [cell_cells h,List.getElem?_toArray,ho]; exact rows_get hW hi hj
def shown (D : DK) (q : Int) : List UInt8 := (wget D.wait q).getD (D.last.getD q.toNat zb)
theorem shown_len {D : DK} (h : DG D) (q : Int) : (shown D q).length = 512 := by
 unfold shown
 cases hg : wget D.wait q with
 | none => exact h.w.at' _
 | some b => exact h.ww _ (wget_mem hg)
def fltF (D : DK) (q : Int) : Int := if D.down = true then 13 else if 0 ≤ q ∧ q < (D.last.length : Int) then 0 else 2
def readF (D : DK) (q : Int) : List UInt8 := if fltF D q = 0 then shown D q else zb
def lastsF (D : DK) (q : Int) : List UInt8 := if 0 ≤ q ∧ q < (D.last.length : Int) then D.last.getD q.toNat zb else zb
theorem readF_len {D : DK} (h : DG D) (q : Int) : (readF D q).length = 512 := by unfold readF; split; exact shown_len h q; exact zb_len
theorem getO_len {D : DK} (h : DG D) (q : Int) : ((wget D.wait q).getD zb).length = 512 := by
 cases hg : wget D.wait q with
 | none => exact zb_len
 | some b => exact h.ww _ (wget_mem hg)
theorem zsz512 : (bv (List.replicate 512 0)).size = 512 := by rw [bv_size,List.length_replicate]
theorem Eff.waitGet {C : Cx} {R O : List (Nat × Obj)} {Γ : Env} {op : Oper} {x y : Operand} {ok : Bool} (hP : C.P = Tryz.prog) (ho : op.op = .lookup 113 x y ok) {r : Nat} {k : Int} (hx : opd Γ [] x = some (.map (some r))) (hy : opd Γ [] y = some (.int .i64 k))
  {es : Array MapEntry} {ck : Nat} {W : Wt} (h : MapOk es ck (wv2 W)) (hb : ∀ w,HP C.w0 C.M R O w → w.heap[r]? = some (.map es ck)) :
  Eff C R O Γ op Unit (fun _ => if ok then .tuple #[.agg (bv ((wget W k).getD zb)),.bool (wget W k).isSome] else .agg (bv ((wget W k).getD zb))) (fun _ => O) (fun _ => True) := by
 have h1 := Eff.mapGet (C := C) (z := .agg (bv zb)) ho (by rw [hP]; exact Tryz.underlying113) (by rw [hP]; exact Tryz.underlying3) (by rw [hP]; kernel_rfl) hx hy h hb
 have e : (mget (wv2 W) k).getD (.agg (bv zb)) = .agg (bv ((wget W k).getD zb)) := by rw [mget_wv]; cases wget W k <;> rfl
 have e2 : (mget (wv2 W) k).isSome = (wget W k).isSome := by rw [mget_wv]; cases wget W k <;> rfl
 rw [e,e2] at h1
 exact h1
theorem fltF_in {D : DK} {q : Int} (h : fltF D q = 0) : 0 ≤ q ∧ q < (D.last.length : Int) := by
 unfold fltF at h
 split at h
 ·cases h
 ·split at h
  ·assumption
  ·cases h
end Go.Proofs.YtohjpggjgomgoaaGreatDoor
namespace Go.Proofs.YtohjpggjgomgoaaGreatDoor
open K
set_option linter.unusedVariables false
theorem le_pow {b n : Nat} (h : n < 2 ^ b) : (n : Int) ≤ ((2 ^ b - 1 : Nat) : Int) := by omega
theorem tn_lt {x b : Nat} (h : x < 2 ^ b) : ((x : Int)).toNat < 2 ^ b := by rw [Int.toNat_natCast]; exact h
def rotl (x a b : Nat) : Nat := (x * a % 4294967296) ||| (x / b)
theorem rotl_lt {x a b : Nat} (h : x < 2 ^ 32) : rotl x a b < 2 ^ 32 :=
 Nat.or_lt_two_pow (Nat.mod_lt _ (by decide)) (Nat.lt_of_le_of_lt (Nat.div_le_self _ _) h)
set_option maxRecDepth 100000 in
theorem rot25 (x : Nat) (w : World) (hx : x < 2 ^ 32) :
  Calls Tryz.prog 113 #[.int .u32 (x : Int),.int .i64 (-7)] w fun e w' => e = .returned (.int .u32 (rotl x 33554432 128 : Int)) ∧ Ext [] w w' := by
 refine enter (vs := [.int .u32 (x : Int),.int .i64 (-7)]) [] [] [] Tryz.func113 rfl kr (HP.start w) ?_
 refine Rg [0,1] [] n0 trivial ?_
 refine Rg [0,5] [] (fun _ => [((0 ≤ (18446744073709551609 : Int) ∧ (18446744073709551609 : Int) ≤ 18446744073709551615) ∧ 0 ≤ (31 : Int) ∧ (31 : Int) ≤ 18446744073709551615)]) ⟨om,trivial⟩ ?_
 refine Rg [4] [] (fun _ => [(0 ≤ (25 : Int) ∧ 25 ≤ 32),(0 ≤ (7 : Int) ∧ 7 ≤ 32),((0 ≤ (((x : Int) * 33554432) % 4294967296) ∧ (((x : Int) * 33554432) % 4294967296) ≤ 4294967295) ∧ 0 ≤ ((x : Int) / 128) ∧ ((x : Int) / 128) ≤ 4294967295)]) ⟨om,om,om,trivial⟩ ?_
 refine Cfg.ret rfl (rs := [.tmp 4]) rfl [.int .u32 ((((((x : Int) * 33554432) % 4294967296)).toNat ||| (((x : Int) / 128)).toNat : Nat) : Int)] ⟨kr,trivial⟩ (fun w1 hp => ?_)
 refine ⟨?_,hp.ext⟩
 unfold rotl
 rw [show x * 33554432 % 4294967296 = ((x : Int) * 33554432 % 4294967296).toNat by omega,show x / 128 = ((x : Int) / 128).toNat by omega]
 rfl
set_option maxRecDepth 100000 in
theorem rot14 (x : Nat) (w : World) (hx : x < 2 ^ 32) :
  Calls Tryz.prog 113 #[.int .u32 (x : Int),.int .i64 (-18)] w fun e w' => e = .returned (.int .u32 (rotl x 16384 262144 : Int)) ∧ Ext [] w w' := by
 refine enter (vs := [.int .u32 (x : Int),.int .i64 (-18)]) [] [] [] Tryz.func113 rfl kr (HP.start w) ?_
 refine Rg [0,1] [] n0 trivial ?_
 refine Rg [0,5] [] (fun _ => [((0 ≤ (18446744073709551598 : Int) ∧ (18446744073709551598 : Int) ≤ 18446744073709551615) ∧ 0 ≤ (31 : Int) ∧ (31 : Int) ≤ 18446744073709551615)]) ⟨om,trivial⟩ ?_
 refine Rg [4] [] (fun _ => [(0 ≤ (14 : Int) ∧ 14 ≤ 32),(0 ≤ (18 : Int) ∧ 18 ≤ 32),((0 ≤ (((x : Int) * 16384) % 4294967296) ∧ (((x : Int) * 16384) % 4294967296) ≤ 4294967295) ∧ 0 ≤ ((x : Int) / 262144) ∧ ((x : Int) / 262144) ≤ 4294967295)]) ⟨om,om,om,trivial⟩ ?_
 refine Cfg.ret rfl (rs := [.tmp 4]) rfl [.int .u32 ((((((x : Int) * 16384) % 4294967296)).toNat ||| (((x : Int) / 262144)).toNat : Nat) : Int)] ⟨kr,trivial⟩ (fun w1 hp => ?_)
 refine ⟨?_,hp.ext⟩
 unfold rotl
 rw [show x * 16384 % 4294967296 = ((x : Int) * 16384 % 4294967296).toNat by omega,show x / 262144 = ((x : Int) / 262144).toNat by omega]
 rfl
set_option maxRecDepth 100000 in
theorem rot15 (x : Nat) (w : World) (hx : x < 2 ^ 32) :
  Calls Tryz.prog 113 #[.int .u32 (x : Int),.int .i64 (-17)] w fun e w' => e = .returned (.int .u32 (rotl x 32768 131072 : Int)) ∧ Ext [] w w' := by
 refine enter (vs := [.int .u32 (x : Int),.int .i64 (-17)]) [] [] [] Tryz.func113 rfl kr (HP.start w) ?_
 refine Rg [0,1] [] n0 trivial ?_
 refine Rg [0,5] [] (fun _ => [((0 ≤ (18446744073709551599 : Int) ∧ (18446744073709551599 : Int) ≤ 18446744073709551615) ∧ 0 ≤ (31 : Int) ∧ (31 : Int) ≤ 18446744073709551615)]) ⟨om,trivial⟩ ?_
 refine Rg [4] [] (fun _ => [(0 ≤ (15 : Int) ∧ 15 ≤ 32),(0 ≤ (17 : Int) ∧ 17 ≤ 32),((0 ≤ (((x : Int) * 32768) % 4294967296) ∧ (((x : Int) * 32768) % 4294967296) ≤ 4294967295) ∧ 0 ≤ ((x : Int) / 131072) ∧ ((x : Int) / 131072) ≤ 4294967295)]) ⟨om,om,om,trivial⟩ ?_
 refine Cfg.ret rfl (rs := [.tmp 4]) rfl [.int .u32 ((((((x : Int) * 32768) % 4294967296)).toNat ||| (((x : Int) / 131072)).toNat : Nat) : Int)] ⟨kr,trivial⟩ (fun w1 hp => ?_)
 refine ⟨?_,hp.ext⟩
 unfold rotl
 rw [show x * 32768 % 4294967296 = ((x : Int) * 32768 % 4294967296).toNat by omega,show x / 131072 = ((x : Int) / 131072).toNat by omega]
 rfl
set_option maxRecDepth 100000 in
theorem rot13 (x : Nat) (w : World) (hx : x < 2 ^ 32) :
  Calls Tryz.prog 113 #[.int .u32 (x : Int),.int .i64 (-19)] w fun e w' => e = .returned (.int .u32 (rotl x 8192 524288 : Int)) ∧ Ext [] w w' := by
 refine enter (vs := [.int .u32 (x : Int),.int .i64 (-19)]) [] [] [] Tryz.func113 rfl kr (HP.start w) ?_
 refine Rg [0,1] [] n0 trivial ?_
 refine Rg [0,5] [] (fun _ => [((0 ≤ (18446744073709551597 : Int) ∧ (18446744073709551597 : Int) ≤ 18446744073709551615) ∧ 0 ≤ (31 : Int) ∧ (31 : Int) ≤ 18446744073709551615)]) ⟨om,trivial⟩ ?_
 refine Rg [4] [] (fun _ => [(0 ≤ (13 : Int) ∧ 13 ≤ 32),(0 ≤ (19 : Int) ∧ 19 ≤ 32),((0 ≤ (((x : Int) * 8192) % 4294967296) ∧ (((x : Int) * 8192) % 4294967296) ≤ 4294967295) ∧ 0 ≤ ((x : Int) / 524288) ∧ ((x : Int) / 524288) ≤ 4294967295)]) ⟨om,om,om,trivial⟩ ?_
 refine Cfg.ret rfl (rs := [.tmp 4]) rfl [.int .u32 ((((((x : Int) * 8192) % 4294967296)).toNat ||| (((x : Int) / 524288)).toNat : Nat) : Int)] ⟨kr,trivial⟩ (fun w1 hp => ?_)
 refine ⟨?_,hp.ext⟩
 unfold rotl
 rw [show x * 8192 % 4294967296 = ((x : Int) * 8192 % 4294967296).toNat by omega,show x / 524288 = ((x : Int) / 524288).toNat by omega]
 rfl
set_option maxRecDepth 100000 in
theorem rot26 (x : Nat) (w : World) (hx : x < 2 ^ 32) :
  Calls Tryz.prog 113 #[.int .u32 (x : Int),.int .i64 (-6)] w fun e w' => e = .returned (.int .u32 (rotl x 67108864 64 : Int)) ∧ Ext [] w w' := by
 refine enter (vs := [.int .u32 (x : Int),.int .i64 (-6)]) [] [] [] Tryz.func113 rfl kr (HP.start w) ?_
 refine Rg [0,1] [] n0 trivial ?_
 refine Rg [0,5] [] (fun _ => [((0 ≤ (18446744073709551610 : Int) ∧ (18446744073709551610 : Int) ≤ 18446744073709551615) ∧ 0 ≤ (31 : Int) ∧ (31 : Int) ≤ 18446744073709551615)]) ⟨om,trivial⟩ ?_
 refine Rg [4] [] (fun _ => [(0 ≤ (26 : Int) ∧ 26 ≤ 32),(0 ≤ (6 : Int) ∧ 6 ≤ 32),((0 ≤ (((x : Int) * 67108864) % 4294967296) ∧ (((x : Int) * 67108864) % 4294967296) ≤ 4294967295) ∧ 0 ≤ ((x : Int) / 64) ∧ ((x : Int) / 64) ≤ 4294967295)]) ⟨om,om,om,trivial⟩ ?_
 refine Cfg.ret rfl (rs := [.tmp 4]) rfl [.int .u32 ((((((x : Int) * 67108864) % 4294967296)).toNat ||| (((x : Int) / 64)).toNat : Nat) : Int)] ⟨kr,trivial⟩ (fun w1 hp => ?_)
 refine ⟨?_,hp.ext⟩
 unfold rotl
 rw [show x * 67108864 % 4294967296 = ((x : Int) * 67108864 % 4294967296).toNat by omega,show x / 64 = ((x : Int) / 64).toNat by omega]
 rfl
set_option maxRecDepth 100000 in
theorem rot21 (x : Nat) (w : World) (hx : x < 2 ^ 32) :
  Calls Tryz.prog 113 #[.int .u32 (x : Int),.int .i64 (-11)] w fun e w' => e = .returned (.int .u32 (rotl x 2097152 2048 : Int)) ∧ Ext [] w w' := by
 refine enter (vs := [.int .u32 (x : Int),.int .i64 (-11)]) [] [] [] Tryz.func113 rfl kr (HP.start w) ?_
 refine Rg [0,1] [] n0 trivial ?_
 refine Rg [0,5] [] (fun _ => [((0 ≤ (18446744073709551605 : Int) ∧ (18446744073709551605 : Int) ≤ 18446744073709551615) ∧ 0 ≤ (31 : Int) ∧ (31 : Int) ≤ 18446744073709551615)]) ⟨om,trivial⟩ ?_
 refine Rg [4] [] (fun _ => [(0 ≤ (21 : Int) ∧ 21 ≤ 32),(0 ≤ (11 : Int) ∧ 11 ≤ 32),((0 ≤ (((x : Int) * 2097152) % 4294967296) ∧ (((x : Int) * 2097152) % 4294967296) ≤ 4294967295) ∧ 0 ≤ ((x : Int) / 2048) ∧ ((x : Int) / 2048) ≤ 4294967295)]) ⟨om,om,om,trivial⟩ ?_
 refine Cfg.ret rfl (rs := [.tmp 4]) rfl [.int .u32 ((((((x : Int) * 2097152) % 4294967296)).toNat ||| (((x : Int) / 2048)).toNat : Nat) : Int)] ⟨kr,trivial⟩ (fun w1 hp => ?_)
 refine ⟨?_,hp.ext⟩
 unfold rotl
 rw [show x * 2097152 % 4294967296 = ((x : Int) * 2097152 % 4294967296).toNat by omega,show x / 2048 = ((x : Int) / 2048).toNat by omega]
 rfl
set_option maxRecDepth 100000 in
theorem rot7 (x : Nat) (w : World) (hx : x < 2 ^ 32) :
  Calls Tryz.prog 113 #[.int .u32 (x : Int),.int .i64 (-25)] w fun e w' => e = .returned (.int .u32 (rotl x 128 33554432 : Int)) ∧ Ext [] w w' := by
 refine enter (vs := [.int .u32 (x : Int),.int .i64 (-25)]) [] [] [] Tryz.func113 rfl kr (HP.start w) ?_
 refine Rg [0,1] [] n0 trivial ?_
 refine Rg [0,5] [] (fun _ => [((0 ≤ (18446744073709551591 : Int) ∧ (18446744073709551591 : Int) ≤ 18446744073709551615) ∧ 0 ≤ (31 : Int) ∧ (31 : Int) ≤ 18446744073709551615)]) ⟨om,trivial⟩ ?_
 refine Rg [4] [] (fun _ => [(0 ≤ (7 : Int) ∧ 7 ≤ 32),(0 ≤ (25 : Int) ∧ 25 ≤ 32),((0 ≤ (((x : Int) * 128) % 4294967296) ∧ (((x : Int) * 128) % 4294967296) ≤ 4294967295) ∧ 0 ≤ ((x : Int) / 33554432) ∧ ((x : Int) / 33554432) ≤ 4294967295)]) ⟨om,om,om,trivial⟩ ?_
 refine Cfg.ret rfl (rs := [.tmp 4]) rfl [.int .u32 ((((((x : Int) * 128) % 4294967296)).toNat ||| (((x : Int) / 33554432)).toNat : Nat) : Int)] ⟨kr,trivial⟩ (fun w1 hp => ?_)
 refine ⟨?_,hp.ext⟩
 unfold rotl
 rw [show x * 128 % 4294967296 = ((x : Int) * 128 % 4294967296).toNat by omega,show x / 33554432 = ((x : Int) / 33554432).toNat by omega]
 rfl
set_option maxRecDepth 100000 in
theorem rot30 (x : Nat) (w : World) (hx : x < 2 ^ 32) :
  Calls Tryz.prog 113 #[.int .u32 (x : Int),.int .i64 (-2)] w fun e w' => e = .returned (.int .u32 (rotl x 1073741824 4 : Int)) ∧ Ext [] w w' := by
 refine enter (vs := [.int .u32 (x : Int),.int .i64 (-2)]) [] [] [] Tryz.func113 rfl kr (HP.start w) ?_
 refine Rg [0,1] [] n0 trivial ?_
 refine Rg [0,5] [] (fun _ => [((0 ≤ (18446744073709551614 : Int) ∧ (18446744073709551614 : Int) ≤ 18446744073709551615) ∧ 0 ≤ (31 : Int) ∧ (31 : Int) ≤ 18446744073709551615)]) ⟨om,trivial⟩ ?_
 refine Rg [4] [] (fun _ => [(0 ≤ (30 : Int) ∧ 30 ≤ 32),(0 ≤ (2 : Int) ∧ 2 ≤ 32),((0 ≤ (((x : Int) * 1073741824) % 4294967296) ∧ (((x : Int) * 1073741824) % 4294967296) ≤ 4294967295) ∧ 0 ≤ ((x : Int) / 4) ∧ ((x : Int) / 4) ≤ 4294967295)]) ⟨om,om,om,trivial⟩ ?_
 refine Cfg.ret rfl (rs := [.tmp 4]) rfl [.int .u32 ((((((x : Int) * 1073741824) % 4294967296)).toNat ||| (((x : Int) / 4)).toNat : Nat) : Int)] ⟨kr,trivial⟩ (fun w1 hp => ?_)
 refine ⟨?_,hp.ext⟩
 unfold rotl
 rw [show x * 1073741824 % 4294967296 = ((x : Int) * 1073741824 % 4294967296).toNat by omega,show x / 4 = ((x : Int) / 4).toNat by omega]
 rfl
set_option maxRecDepth 100000 in
theorem rot19 (x : Nat) (w : World) (hx : x < 2 ^ 32) :
  Calls Tryz.prog 113 #[.int .u32 (x : Int),.int .i64 (-13)] w fun e w' => e = .returned (.int .u32 (rotl x 524288 8192 : Int)) ∧ Ext [] w w' := by
 refine enter (vs := [.int .u32 (x : Int),.int .i64 (-13)]) [] [] [] Tryz.func113 rfl kr (HP.start w) ?_
 refine Rg [0,1] [] n0 trivial ?_
 refine Rg [0,5] [] (fun _ => [((0 ≤ (18446744073709551603 : Int) ∧ (18446744073709551603 : Int) ≤ 18446744073709551615) ∧ 0 ≤ (31 : Int) ∧ (31 : Int) ≤ 18446744073709551615)]) ⟨om,trivial⟩ ?_
 refine Rg [4] [] (fun _ => [(0 ≤ (19 : Int) ∧ 19 ≤ 32),(0 ≤ (13 : Int) ∧ 13 ≤ 32),((0 ≤ (((x : Int) * 524288) % 4294967296) ∧ (((x : Int) * 524288) % 4294967296) ≤ 4294967295) ∧ 0 ≤ ((x : Int) / 8192) ∧ ((x : Int) / 8192) ≤ 4294967295)]) ⟨om,om,om,trivial⟩ ?_
 refine Cfg.ret rfl (rs := [.tmp 4]) rfl [.int .u32 ((((((x : Int) * 524288) % 4294967296)).toNat ||| (((x : Int) / 8192)).toNat : Nat) : Int)] ⟨kr,trivial⟩ (fun w1 hp => ?_)
 refine ⟨?_,hp.ext⟩
 unfold rotl
 rw [show x * 524288 % 4294967296 = ((x : Int) * 524288 % 4294967296).toNat by omega,show x / 8192 = ((x : Int) / 8192).toNat by omega]
 rfl
set_option maxRecDepth 100000 in
theorem rot10 (x : Nat) (w : World) (hx : x < 2 ^ 32) :
  Calls Tryz.prog 113 #[.int .u32 (x : Int),.int .i64 (-22)] w fun e w' => e = .returned (.int .u32 (rotl x 1024 4194304 : Int)) ∧ Ext [] w w' := by
 refine enter (vs := [.int .u32 (x : Int),.int .i64 (-22)]) [] [] [] Tryz.func113 rfl kr (HP.start w) ?_
 refine Rg [0,1] [] n0 trivial ?_
 refine Rg [0,5] [] (fun _ => [((0 ≤ (18446744073709551594 : Int) ∧ (18446744073709551594 : Int) ≤ 18446744073709551615) ∧ 0 ≤ (31 : Int) ∧ (31 : Int) ≤ 18446744073709551615)]) ⟨om,trivial⟩ ?_
 refine Rg [4] [] (fun _ => [(0 ≤ (10 : Int) ∧ 10 ≤ 32),(0 ≤ (22 : Int) ∧ 22 ≤ 32),((0 ≤ (((x : Int) * 1024) % 4294967296) ∧ (((x : Int) * 1024) % 4294967296) ≤ 4294967295) ∧ 0 ≤ ((x : Int) / 4194304) ∧ ((x : Int) / 4194304) ≤ 4294967295)]) ⟨om,om,om,trivial⟩ ?_
 refine Cfg.ret rfl (rs := [.tmp 4]) rfl [.int .u32 ((((((x : Int) * 1024) % 4294967296)).toNat ||| (((x : Int) / 4194304)).toNat : Nat) : Int)] ⟨kr,trivial⟩ (fun w1 hp => ?_)
 refine ⟨?_,hp.ext⟩
 unfold rotl
 rw [show x * 1024 % 4294967296 = ((x : Int) * 1024 % 4294967296).toNat by omega,show x / 4194304 = ((x : Int) / 4194304).toNat by omega]
 rfl
end Go.Proofs.YtohjpggjgomgoaaGreatDoor
namespace Go.Proofs.YtohjpggjgomgoaaGreatDoor
open K
set_option linter.unusedVariables false
def stC (hs : List Nat) (bl : List UInt8) (held total : Nat) : Array Value := ((wv hs).toList ++ ((bv bl).toList ++ [Value.int .i64 (held : Int),Value.int .u64 (total : Int)])).toArray
theorem wlen {hs : List Nat} {n : Nat} (h : hs.length = n) : (wv hs).toList.length = n := by rw [Array.length_toList,wv_size,h]
theorem blen {hs : List UInt8} {n : Nat} (h : hs.length = n) : (bv hs).toList.length = n := by rw [Array.length_toList,bv_size,h]
section
variable {hs : List Nat} {bl : List UInt8} {held total : Nat}
theorem st_size (hh : hs.length = 8) (hb : bl.length = 64) : (stC hs bl held total).size = 74 := by
 have h1 := wlen hh; have h2 := blen hb
 simp only [stC,List.size_toArray,List.length_append,h1,h2]; rfl
theorem st_sum (hh : hs.length = 8) {k : Nat} (hk : k < 8) : (stC hs bl held total)[k]? = some (.int .u32 ((hs.getD k 0 : Nat) : Int)) := by
 have h1 := wv_get hh hk
 have h2 := wlen hh
 rw [← Array.getElem?_toList] at h1
 simp only [stC,List.getElem?_toArray]
 rw [List.getElem?_append_left om,h1]
theorem st_byte (hh : hs.length = 8) (hb : bl.length = 64) {j : Nat} (hj : j < 64) : (stC hs bl held total)[8 + j]? = some (.int .u8 ((bl.getD j 0).toNat : Int)) := by
 have h1 := bv_get hb hj
 have h2 := wlen hh; have h3 := blen hb
 rw [← Array.getElem?_toList] at h1
 simp only [stC,List.getElem?_toArray]
 rw [List.getElem?_append_right om,h2,show 8 + j - 8 = j by omega,List.getElem?_append_left om,h1]
theorem st_held (hh : hs.length = 8) (hb : bl.length = 64) : (stC hs bl held total)[72]? = some (.int .i64 (held : Int)) := by
 have h2 := wlen hh; have h3 := blen hb
 simp only [stC,List.getElem?_toArray]
 rw [List.getElem?_append_right om,h2,List.getElem?_append_right om,h3]; rfl
theorem st_total (hh : hs.length = 8) (hb : bl.length = 64) : (stC hs bl held total)[73]? = some (.int .u64 (total : Int)) := by
 have h2 := wlen hh; have h3 := blen hb
 simp only [stC,List.getElem?_toArray]
 rw [List.getElem?_append_right om,h2,List.getElem?_append_right om,h3]; rfl
theorem st_setSum (hh : hs.length = 8) {k : Nat} (hk : k < 8) {x : Int} (hx : 0 ≤ x) : (stC hs bl held total).setIfInBounds k (.int .u32 x) = stC (hs.set k x.toNat) bl held total := by
 have h1 := wv_set (l := hs) (i := k) hx
 have h2 := wlen hh
 apply Array.ext'
 simp only [stC,List.setIfInBounds_toArray]
 rw [List.set_append_left _ _ om,← h1,Array.toList_setIfInBounds]
theorem st_setHeld (hh : hs.length = 8) (hb : bl.length = 64) {n : Nat} {x : Int} (hx : x = (n : Int)) : (stC hs bl held total).setIfInBounds 72 (.int .i64 x) = stC hs bl n total := by
 subst hx
 have h2 := wlen hh; have h3 := blen hb
 apply Array.ext'
 simp only [stC,List.setIfInBounds_toArray]
 rw [List.set_append_right _ _ om,h2,List.set_append_right _ _ om,h3]; rfl
theorem st_setTotal (hh : hs.length = 8) (hb : bl.length = 64) {n : Nat} {x : Int} (hx : x = (n : Int)) : (stC hs bl held total).setIfInBounds 73 (.int .u64 x) = stC hs bl held n := by
 subst hx
 have h2 := wlen hh; have h3 := blen hb
 apply Array.ext'
 simp only [stC,List.setIfInBounds_toArray]
 rw [List.set_append_right _ _ om,h2,List.set_append_right _ _ om,h3]; rfl
end
def be4 (a b c d : Nat) : Nat := (((a * 16777216 % 4294967296) ||| (b * 65536 % 4294967296)) ||| (c * 256 % 4294967296)) ||| d
theorem m24 (n : Nat) : ((n : Int) * 16777216 % 4294967296).toNat = n * 16777216 % 4294967296 := by omega
theorem m16 (n : Nat) : ((n : Int) * 65536 % 4294967296).toNat = n * 65536 % 4294967296 := by omega
theorem m8 (n : Nat) : ((n : Int) * 256 % 4294967296).toNat = n * 256 % 4294967296 := by omega
theorem d10 (n : Nat) : ((n : Int) / 1024).toNat = n / 1024 := by omega
theorem d3 (n : Nat) : ((n : Int) / 8).toNat = n / 8 := by omega
theorem be4_eq (a b c d : Nat) : (((((((((((((a : Nat) : Int) * 16777216) % 4294967296)).toNat ||| (((((b : Nat) : Int) * 65536) % 4294967296)).toNat : Nat) : Int)).toNat ||| (((((c : Nat) : Int) * 256) % 4294967296)).toNat : Nat) : Int)).toNat ||| ((((d : Nat) : Int))).toNat : Nat) : Int) = ((be4 a b c d : Nat) : Int) := by
 unfold be4
 rw [m24,m16,m8,Int.toNat_natCast,Int.toNat_natCast,Int.toNat_natCast]
def bt4 (bl : List UInt8) (i : Nat) : Nat := (bl.getD i 0).toNat
def shBe (bl : List UInt8) (t : Nat) : Nat := be4 (bt4 bl (4 * t)) (bt4 bl (4 * t + 1)) (bt4 bl (4 * t + 2)) (bt4 bl (4 * t + 3))
def wlow (x : Nat) : Nat := (rotl x 33554432 128 ^^^ rotl x 16384 262144) ^^^ (x / 8)
def whigh (x : Nat) : Nat := (rotl x 32768 131072 ^^^ rotl x 8192 524288) ^^^ (x / 1024)
theorem x3 (p q r : Nat) (c : Int) (h : c.toNat = r) : ((((((p : Nat) : Int)).toNat ^^^ (((q : Nat) : Int)).toNat : Nat) : Int)).toNat ^^^ c.toNat = (p ^^^ q) ^^^ r := by rw [h]; rfl
theorem wsum (a b c d : Nat) : ((((((a : Int) + (b : Int)) % 4294967296) + (c : Int)) % 4294967296) + (d : Int)) % 4294967296 = (((((a + b) % 4294967296 + c) % 4294967296 + d) % 4294967296 : Nat) : Int) := by omega
def wn4 (y x7 x x16 : Nat) : Nat := (((whigh y + x7) % 4294967296 + wlow x) % 4294967296 + x16) % 4294967296
theorem wn_eq (y x7 x x16 : Nat) : (((((((((((rotl y 32768 131072 : Int)).toNat ^^^ ((rotl y 8192 524288 : Int)).toNat : Nat) : Int)).toNat ^^^ (((y : Int) / 1024)).toNat : Nat) : Int) + (x7 : Int)) % 4294967296) + (((((((rotl x 33554432 128 : Int)).toNat ^^^ ((rotl x 16384 262144 : Int)).toNat : Nat) : Int)).toNat ^^^ (((x : Int) / 8)).toNat : Nat) : Int)) % 4294967296 + (x16 : Int)) % 4294967296 = ((wn4 y x7 x x16 : Nat) : Int) := by
 rw [x3 _ _ _ _ (d10 y),x3 _ _ _ _ (d3 x)]
 exact wsum (whigh y) x7 (wlow x) x16
def rg (r : List Nat) (i : Nat) : Nat := r.getD i 0
def wnext (bl : List UInt8) (r : List Nat) (t : Nat) : Nat := if t < 16 then shBe bl t else wn4 (rg r (t - 2)) (rg r (t - 7)) (rg r (t - 15)) (rg r (t - 16))
def row (bl : List UInt8) : Nat → List Nat
 | 0 => List.replicate 64 0
 | t + 1 => (row bl t).set t (wnext bl (row bl t) t)
theorem row_len (bl : List UInt8) : ∀ t,(row bl t).length = 64
 | 0 => by simp [row]
 | t + 1 => by rw [row,List.length_set]; exact row_len bl t
theorem b8 (b : UInt8) : b.toNat < 2 ^ 32 := by have := UInt8.toNat_lt b; omega
theorem bt4_lt (bl : List UInt8) (i : Nat) : bt4 bl i < 256 := UInt8.toNat_lt _
theorem b84 (bl : List UInt8) (i : Nat) : bt4 bl i < 2 ^ 32 := b8 _
theorem be_lt (bl : List UInt8) (t : Nat) : shBe bl t < 2 ^ 32 :=
 Nat.or_lt_two_pow (Nat.or_lt_two_pow (Nat.or_lt_two_pow (Nat.mod_lt _ (by decide)) (Nat.mod_lt _ (by decide))) (Nat.mod_lt _ (by decide))) (b84 _ _)
theorem wnext_lt (bl : List UInt8) (r : List Nat) (t : Nat) : wnext bl r t < 2 ^ 32 := by
 unfold wnext
 split
 ·exact be_lt ..
 ·exact Nat.mod_lt _ (by decide)
theorem row_lt (bl : List UInt8) : ∀ t j,rg (row bl t) j < 2 ^ 32
 | 0,j => by
  simp only [rg,row,List.getD_eq_getElem?_getD,List.getElem?_replicate]
  split <;> simp
 | t + 1,j => by
  have ih := row_lt bl t j
  simp only [rg,row,List.getD_eq_getElem?_getD,List.getElem?_set] at *
  split
  ·split
   ·exact wnext_lt ..
   ·simp
  ·exact ih
theorem row_step (bl : List UInt8) (t : Nat) {x : Int} (hx : x = (wnext bl (row bl t) t : Int)) : (wv (row bl t)).setIfInBounds t (.int .u32 x) = wv (row bl (t + 1)) := by
 subst hx
 rw [wv_set om]
 rfl
theorem wnext_lo {bl : List UInt8} {t : Nat} (h : t < 16) {x : Int} (hx : x = ((shBe bl t : Nat) : Int)) : x = (wnext bl (row bl t) t : Int) := by rw [hx]; unfold wnext; rw [if_pos h]
theorem wnext_hi {bl : List UInt8} {t : Nat} (h : 16 ≤ t) {x : Int} (hx : x = ((wn4 (rg (row bl t) (t - 2)) (rg (row bl t) (t - 7)) (rg (row bl t) (t - 15)) (rg (row bl t) (t - 16)) : Nat) : Int)) : x = (wnext bl (row bl t) t : Int) := by rw [hx]; unfold wnext; rw [if_neg (by omega)]
theorem wsize (bl : List UInt8) (t : Nat) : (wv (row bl t)).size = 64 := by rw [wv_size,row_len]
end Go.Proofs.YtohjpggjgomgoaaGreatDoor
namespace Go.Proofs.YtohjpggjgomgoaaGreatDoor
open K
set_option linter.unusedVariables false
def Kc : List Nat := [1116352408,1899447441,3049323471,3921009573,961987163,1508970993,2453635748,2870763221,3624381080,310598401,607225278,1426881987,1925078388,2162078206,2614888103,3248222580,3835390401,4022224774,264347078,604807628,770255983,1249150122,1555081692,1996064986,2554220882,2821834349,2952996808,3210313671,3336571891,3584528711,113926993,338241895,666307205,773529912,1294757372,1396182291,1695183700,1986661051,2177026350,2456956037,2730485921,2820302411,3259730800,3345764771,3516065817,3600352804,4094571909,275423344,430227734,506948616,659060556,883997877,958139571,1322822218,1537002063,1747873779,1955562222,2024104815,2227730452,2361852424,2428436474,2756734187,3204031479,3329325298]
structure W8 where
 a : Nat
 b : Nat
 c : Nat
 d : Nat
 e : Nat
 f : Nat
 g : Nat
 h : Nat
structure W8.Ok (s : W8) : Prop where
 a : s.a < 2 ^ 32
 b : s.b < 2 ^ 32
 c : s.c < 2 ^ 32
 d : s.d < 2 ^ 32
 e : s.e < 2 ^ 32
 f : s.f < 2 ^ 32
 g : s.g < 2 ^ 32
 h : s.h < 2 ^ 32
def bigE (x : Nat) : Nat := (rotl x 67108864 64 ^^^ rotl x 2097152 2048) ^^^ rotl x 128 33554432
def bigA (x : Nat) : Nat := (rotl x 1073741824 4 ^^^ rotl x 524288 8192) ^^^ rotl x 1024 4194304
def choi (e f g : Nat) : Nat := (e &&& f) ^^^ ((4294967295 ^^^ e) &&& g)
def most (a b c : Nat) : Nat := ((a &&& b) ^^^ (a &&& c)) ^^^ (b &&& c)
def fst5 (h x c k w : Nat) : Nat := ((((h + x) % 4294967296 + c) % 4294967296 + k) % 4294967296 + w) % 4294967296
def frst (k w : Nat) (s : W8) : Nat := fst5 s.h (bigE s.e) (choi s.e s.f s.g) k w
def scnd (s : W8) : Nat := (bigA s.a + most s.a s.b s.c) % 4294967296
def rnd (k w : Nat) (s : W8) : W8 := ⟨(frst k w s + scnd s) % 4294967296,s.a,s.b,s.c,(s.d + frst k w s) % 4294967296,s.e,s.f,s.g⟩
def w8 (l : List Nat) : W8 := ⟨rg l 0,rg l 1,rg l 2,rg l 3,rg l 4,rg l 5,rg l 6,rg l 7⟩
def w8l (s : W8) : List Nat := [s.a,s.b,s.c,s.d,s.e,s.f,s.g,s.h]
def rv (hs : List Nat) (bl : List UInt8) : Nat → W8
 | 0 => w8 hs
 | t + 1 => rnd (rg Kc t) (rg (row bl 64) t) (rv hs bl t)
theorem rv_ok {hs : List Nat} (hlt : ∀ i,rg hs i < 2 ^ 32) (bl : List UInt8) : ∀ t,(rv hs bl t).Ok
 | 0 => ⟨hlt 0,hlt 1,hlt 2,hlt 3,hlt 4,hlt 5,hlt 6,hlt 7⟩
 | t + 1 => by
  have ih := rv_ok hlt bl t
  exact ⟨Nat.mod_lt _ (by decide),ih.a,ih.b,ih.c,Nat.mod_lt _ (by decide),ih.e,ih.f,ih.g⟩
theorem add32 (x y : Nat) : ((x : Int) + (y : Int)) % 4294967296 = (((x + y) % 4294967296 : Nat) : Int) := by omega
theorem fst5_eq (h x c k w : Nat) : ((((((((h : Int) + (x : Int)) % 4294967296) + (c : Int)) % 4294967296) + (k : Int)) % 4294967296) + (w : Int)) % 4294967296 = ((fst5 h x c k w : Nat) : Int) := by unfold fst5; omega
def sm (hs vs : List Nat) : Nat → List Nat
 | 0 => hs
 | k + 1 => (sm hs vs k).set k ((rg (sm hs vs k) k + rg vs k) % 4294967296)
theorem sm_len {hs : List Nat} (vs : List Nat) (hh : hs.length = 8) : ∀ k,(sm hs vs k).length = 8
 | 0 => hh
 | k + 1 => by rw [sm,List.length_set]; exact sm_len vs hh k
theorem sm_lt {hs : List Nat} (vs : List Nat) (hlt : ∀ i,rg hs i < 2 ^ 32) : ∀ k i,rg (sm hs vs k) i < 2 ^ 32
 | 0,i => hlt i
 | k + 1,i => by
  have ih := sm_lt vs hlt k i
  simp only [rg,sm,List.getD_eq_getElem?_getD,List.getElem?_set] at *
  split
  ·split
   ·exact Nat.mod_lt _ (by decide)
   ·simp
  ·exact ih
def mixF (hs : List Nat) (bl : List UInt8) : List Nat := sm hs (w8l (rv hs bl 64)) 8
theorem sm_step {hs vs : List Nat} {bl : List UInt8} {held total k : Nat} (hh : hs.length = 8) (hk : k < 8) :
  (stC (sm hs vs k) bl held total).setIfInBounds k (.int .u32 (((rg (sm hs vs k) k : Int) + (rg vs k : Int)) % 4294967296)) = stC (sm hs vs (k + 1)) bl held total := by
 rw [add32,st_setSum (sm_len vs hh k) hk om,Int.toNat_natCast]
 rfl
theorem xx3 (p q r : Nat) : ((((((((p : Nat) : Int)).toNat ^^^ (((q : Nat) : Int)).toNat : Nat) : Int)).toNat ^^^ (((r : Nat) : Int)).toNat : Nat) : Int) = (((p ^^^ q) ^^^ r : Nat) : Int) := rfl
theorem cc4 (m e f g : Nat) : (((((((e : Nat) : Int)).toNat &&& (((f : Nat) : Int)).toNat : Nat) : Int)).toNat ^^^ ((((((m ^^^ (((e : Nat) : Int)).toNat : Nat) : Int)).toNat &&& (((g : Nat) : Int)).toNat : Nat) : Int)).toNat : Nat) = (((e &&& f) ^^^ ((m ^^^ e) &&& g) : Nat) : Int) := rfl
theorem bigE_eq (x : Nat) : ((((((rotl x 67108864 64 : Int)).toNat ^^^ ((rotl x 2097152 2048 : Int)).toNat : Nat) : Int)).toNat ^^^ ((rotl x 128 33554432 : Int)).toNat : Nat) = ((bigE x : Nat) : Int) := by unfold bigE; exact xx3 _ _ _
theorem bigA_eq (x : Nat) : ((((((rotl x 1073741824 4 : Int)).toNat ^^^ ((rotl x 524288 8192 : Int)).toNat : Nat) : Int)).toNat ^^^ ((rotl x 1024 4194304 : Int)).toNat : Nat) = ((bigA x : Nat) : Int) := by unfold bigA; exact xx3 _ _ _
theorem choi_eq (e f g : Nat) : (((((((e : Nat) : Int)).toNat &&& (((f : Nat) : Int)).toNat : Nat) : Int)).toNat ^^^ ((((((4294967295 ^^^ (((e : Nat) : Int)).toNat : Nat) : Int)).toNat &&& (((g : Nat) : Int)).toNat : Nat) : Int)).toNat : Nat) = ((choi e f g : Nat) : Int) := by unfold choi; exact cc4 _ _ _ _
theorem most_eq (a b c : Nat) : ((((((((((a : Int)).toNat &&& ((b : Int)).toNat : Nat) : Int)).toNat ^^^ (((((a : Int)).toNat &&& ((c : Int)).toNat : Nat) : Int)).toNat : Nat) : Int)).toNat ^^^ (((((b : Int)).toNat &&& ((c : Int)).toNat : Nat) : Int)).toNat : Nat) : Int) = ((most a b c : Nat) : Int) := rfl
theorem frst_eq (k w : Nat) (s : W8) : ((((((((s.h : Int) + (bigE s.e : Int)) % 4294967296) + (choi s.e s.f s.g : Int)) % 4294967296) + (k : Int)) % 4294967296) + (w : Int)) % 4294967296 = ((frst k w s : Nat) : Int) := by unfold frst; exact fst5_eq _ _ _ _ _
theorem scnd_eq (s : W8) : ((bigA s.a : Int) + (most s.a s.b s.c : Int)) % 4294967296 = ((scnd s : Nat) : Int) := by unfold scnd; exact add32 _ _
theorem rv_succ (hs : List Nat) (bl : List UInt8) (t : Nat) : rv hs bl (t + 1) = rnd (rg Kc t) (rg (row bl 64) t) (rv hs bl t) := rfl
theorem rnd_def (k w : Nat) (s : W8) : rnd k w s = ⟨(frst k w s + scnd s) % 4294967296,s.a,s.b,s.c,(s.d + frst k w s) % 4294967296,s.e,s.f,s.g⟩ := rfl
section
variable (a b c d e f g h : Nat)
theorem pa : (W8.mk a b c d e f g h).a = a := rfl
theorem pb : (W8.mk a b c d e f g h).b = b := rfl
theorem pc : (W8.mk a b c d e f g h).c = c := rfl
theorem pd : (W8.mk a b c d e f g h).d = d := rfl
theorem pe : (W8.mk a b c d e f g h).e = e := rfl
theorem pf : (W8.mk a b c d e f g h).f = f := rfl
theorem pg : (W8.mk a b c d e f g h).g = g := rfl
theorem ph : (W8.mk a b c d e f g h).h = h := rfl
end
section
variable (hs : List Nat) (bl : List UInt8) (t : Nat)
theorem rv_a : ((frst (rg Kc t) (rg (row bl 64) t) (rv hs bl t) : Int) + (scnd (rv hs bl t) : Int)) % 4294967296 = ((rv hs bl (t + 1)).a : Int) := by rw [rv_succ,rnd_def,pa,add32]
theorem rv_b : ((rv hs bl t).a : Int) = ((rv hs bl (t + 1)).b : Int) := by rw [rv_succ,rnd_def,pb]
theorem rv_c : ((rv hs bl t).b : Int) = ((rv hs bl (t + 1)).c : Int) := by rw [rv_succ,rnd_def,pc]
theorem rv_d : ((rv hs bl t).c : Int) = ((rv hs bl (t + 1)).d : Int) := by rw [rv_succ,rnd_def,pd]
theorem rv_e : (((rv hs bl t).d : Int) + (frst (rg Kc t) (rg (row bl 64) t) (rv hs bl t) : Int)) % 4294967296 = ((rv hs bl (t + 1)).e : Int) := by rw [rv_succ,rnd_def,pe,add32]
theorem rv_f : ((rv hs bl t).e : Int) = ((rv hs bl (t + 1)).f : Int) := by rw [rv_succ,rnd_def,pf]
theorem rv_g : ((rv hs bl t).f : Int) = ((rv hs bl (t + 1)).g : Int) := by rw [rv_succ,rnd_def,pg]
theorem rv_h : ((rv hs bl t).g : Int) = ((rv hs bl (t + 1)).h : Int) := by rw [rv_succ,rnd_def,ph]
end
theorem w8l_len (s : W8) : (w8l s).length = 8 := rfl
def KT (kt : Array Value) : Prop := ∀ t,t < 64 → kt[t]? = some (.int .u32 (rg Kc t : Int))
theorem kget {t : Nat} (h : t < 64) : (wv Kc)[t]? = some (.int .u32 (rg Kc t : Int)) := wv_get (n := 64) rfl h
end Go.Proofs.YtohjpggjgomgoaaGreatDoor
namespace Go.Proofs.YtohjpggjgomgoaaGreatDoor
open K
set_option linter.unusedVariables false
structure Sh where
 hs : List Nat
 bl : List UInt8
 held : Nat
structure Sh.Ok (s : Sh) : Prop where
 hh : s.hs.length = 8
 hb : s.bl.length = 64
 hlt : ∀ i,rg s.hs i < 2 ^ 32
 held : s.held < 64
theorem mixF_len {hs : List Nat} (bl : List UInt8) (hh : hs.length = 8) : (mixF hs bl).length = 8 := sm_len _ hh 8
theorem mixF_lt {hs : List Nat} (bl : List UInt8) (hlt : ∀ i,rg hs i < 2 ^ 32) : ∀ i,rg (mixF hs bl) i < 2 ^ 32 := sm_lt _ hlt 8
def feedB (s : Sh) (c : UInt8) : Sh := if s.held + 1 = 64 then ⟨mixF s.hs (s.bl.set s.held c),s.bl.set s.held c,0⟩ else ⟨s.hs,s.bl.set s.held c,s.held + 1⟩
def feed (s : Sh) (l : List UInt8) : Sh := l.foldl feedB s
theorem feed_nil (s : Sh) : feed s [] = s := rfl
theorem feed_app (s : Sh) (a b : List UInt8) : feed s (a ++ b) = feed (feed s a) b := List.foldl_append ..
theorem feedB_ok {s : Sh} (h : s.Ok) (c : UInt8) : (feedB s c).Ok := by
 unfold feedB
 split
 ·exact ⟨mixF_len _ h.hh,by simp [h.hb],mixF_lt _ h.hlt,Nat.zero_lt_succ 63⟩
 ·have := h.held
  exact ⟨h.hh,by simp [h.hb],h.hlt,by show s.held + 1 < 64; omega⟩
theorem feed_ok : ∀ (l : List UInt8) {s : Sh},s.Ok → (feed s l).Ok
 | [],s,h => h
 | c :: l,s,h => feed_ok l (feedB_ok h c)
theorem feedB_held {s : Sh} (h : s.Ok) (c : UInt8) : (feedB s c).held = (s.held + 1) % 64 := by
 have := h.held
 unfold feedB
 split <;> simp only <;> omega
theorem feed_held : ∀ (l : List UInt8) {s : Sh},s.Ok → (feed s l).held = (s.held + l.length) % 64
 | [],s,h => by have := h.held; show s.held = (s.held + 0) % 64; omega
 | c :: l,s,h => by
  have e := feed_held l (feedB_ok h c)
  rw [feedB_held h c] at e
  show (feed (feedB s c) l).held = _
  rw [e,List.length_cons]; omega
def lay (bl : List UInt8) (off : Nat) : List UInt8 → List UInt8
 | [] => bl
 | c :: l => lay (bl.set off c) (off + 1) l
theorem lay_len : ∀ (l bl : List UInt8) (off : Nat),(lay bl off l).length = bl.length
 | [],bl,off => rfl
 | c :: l,bl,off => by rw [lay,lay_len l,List.length_set]
theorem feed_part : ∀ (l : List UInt8) (hs : List Nat) (bl : List UInt8) (held : Nat),held + l.length < 64 → feed ⟨hs,bl,held⟩ l = ⟨hs,lay bl held l,held + l.length⟩
 | [],hs,bl,held,_ => rfl
 | c :: l,hs,bl,held,h => by
  rw [List.length_cons] at h
  have e : feedB ⟨hs,bl,held⟩ c = ⟨hs,bl.set held c,held + 1⟩ := by unfold feedB; rw [if_neg (by show ¬ held + 1 = 64; omega)]
  show feed (feedB ⟨hs,bl,held⟩ c) l = _
  rw [e,feed_part l hs (bl.set held c) (held + 1) om,lay,List.length_cons,show held + 1 + l.length = held + (l.length + 1) by omega]
theorem feed_full : ∀ (l : List UInt8) (hs : List Nat) (bl : List UInt8) (held : Nat),held < 64 → held + l.length = 64 → feed ⟨hs,bl,held⟩ l = ⟨mixF hs (lay bl held l),lay bl held l,0⟩
 | [],hs,bl,held,h0,h => by simp at h; omega
 | c :: l,hs,bl,held,h0,h => by
  rw [List.length_cons] at h
  show feed (feedB ⟨hs,bl,held⟩ c) l = _
  by_cases hl : held + 1 = 64
  ·obtain rfl : l = [] := List.eq_nil_of_length_eq_zero om
   unfold feedB; rw [if_pos hl]; rfl
  ·have e : feedB ⟨hs,bl,held⟩ c = ⟨hs,bl.set held c,held + 1⟩ := by unfold feedB; rw [if_neg hl]
   rw [e,feed_full l hs (bl.set held c) (held + 1) om om,lay]
theorem st_setByte {hs : List Nat} {bl : List UInt8} {held total j : Nat} (hh : hs.length = 8) (hb : bl.length = 64) (hj : j < 64) (c : UInt8) :
  (stC hs bl held total).setIfInBounds (8 + j) (.int .u8 (c.toNat : Int)) = stC hs (bl.set j c) held total := by
 have h1 := bv_set (l := bl) (i := j) (x := (c.toNat : Int)) om (by have := UInt8.toNat_lt c; omega)
 have h2 := wlen hh; have h3 := blen hb
 apply Array.ext'
 simp only [stC,List.setIfInBounds_toArray]
 rw [List.set_append_right _ _ om,h2,show 8 + j - 8 = j by omega,List.set_append_left _ _ om]
 rw [show UInt8.ofNat ((c.toNat : Int)).toNat = c by simp] at h1
 rw [← h1,Array.toList_setIfInBounds]
theorem spl_lay : ∀ (l : List UInt8) {hs : List Nat} {bl : List UInt8} {held total j : Nat},hs.length = 8 → bl.length = 64 → j + l.length ≤ 64 → spl (stC hs bl held total) (8 + j) (bv l).toList = stC hs (lay bl j l) held total
 | [],hs,bl,held,total,j,hh,hb,hj => rfl
 | c :: l,hs,bl,held,total,j,hh,hb,hj => by
  rw [List.length_cons] at hj
  show spl ((stC hs bl held total).setIfInBounds (8 + j) (.int .u8 (c.toNat : Int))) (8 + j + 1) (bv l).toList = _
  rw [st_setByte hh hb om,show 8 + j + 1 = 8 + (j + 1) by omega,spl_lay l hh (by simp [hb]) om,lay]
theorem off_eq {held : Nat} (h : held < 64) : (if 64 = held then 8 else (addO 8 held)) = 8 + held := by rw [if_neg (by omega),addO_eq]
theorem ext_list (p : ByteArray) (n : Nat) : (p.extract n p.size).data.toList = p.data.toList.drop n := by
 rw [ByteArray.data_extract,Array.toList_extract]
 have : p.size = p.data.toList.length := by simp
 rw [this,List.extract_eq_take_drop,List.take_of_length_le (by simp)]
theorem part_len {p : ByteArray} {n : Nat} (h : n ≤ p.size) : (p.data.toList.take n).length = n := by
 have : p.size = p.data.toList.length := by simp
 rw [List.length_take]; omega
theorem feed_ext (s : Sh) (p : ByteArray) (n : Nat) : feed (feed s (p.data.toList.take n)) (p.extract n p.size).data.toList = feed s p.data.toList := by
 rw [ext_list,← feed_app,List.take_append_drop]
def cn (p : ByteArray) (held : Nat) : Nat := min p.size (64 - held)
theorem ext_size (p : ByteArray) (n : Nat) (h : n ≤ p.size) : (p.extract n p.size).size = p.size - n := by
 rw [ByteArray.size_extract]; omega
end Go.Proofs.YtohjpggjgomgoaaGreatDoor
namespace Go.Proofs.YtohjpggjgomgoaaGreatDoor
open K
set_option linter.unusedVariables false
def lb (total : Nat) : Nat := total * 8 % 18446744073709551616
theorem lb_eq (total : Nat) : ((total : Int) * 8) % 18446744073709551616 = ((lb total : Nat) : Int) := by unfold lb; omega
def pz (z : Sh) (j : Nat) : Sh := feed z (128 :: List.replicate j 0)
def tj (total j : Nat) : Nat := (total + 1 + j) % 18446744073709551616
def padN (z : Sh) : Nat := (119 - z.held) % 64
theorem pz_zero (z : Sh) : feedB z 128 = pz z 0 := rfl
theorem pz_succ (z : Sh) (j : Nat) : feedB (pz z j) 0 = pz z (j + 1) := by
 unfold pz
 rw [List.replicate_succ',← List.cons_append,feed_app]; rfl
theorem tj_zero (total : Nat) : (total + 1) % 18446744073709551616 = tj total 0 := rfl
theorem tj_succ (total j : Nat) : (tj total j + 1) % 18446744073709551616 = tj total (j + 1) := by unfold tj; omega
theorem pz_ok {z : Sh} (h : z.Ok) (j : Nat) : (pz z j).Ok := feed_ok _ h
theorem pz_held {z : Sh} (h : z.Ok) (j : Nat) : (pz z j).held = (z.held + 1 + j) % 64 := by
 unfold pz
 rw [feed_held _ h,List.length_cons,List.length_replicate,show z.held + (j + 1) = z.held + 1 + j by omega]
theorem pad_end {z : Sh} (h : z.Ok) {j : Nat} (hj : j ≤ padN z) : ((pz z j).held : Int) = 56 ↔ j = padN z := by
 have h1 := h.held
 rw [pz_held h]
 unfold padN at *
 omega
def tb (n i : Nat) : UInt8 := UInt8.ofNat (n / 2 ^ (56 - 8 * i))
def tlr (n k : Nat) : List UInt8 := (List.range k).map (tb n) ++ List.replicate (8 - k) 0
theorem tlr_len {n k : Nat} (h : k ≤ 8) : (tlr n k).length = 8 := by simp [tlr]; omega
theorem u8mod (m : Nat) : UInt8.ofNat (m % 256) = UInt8.ofNat m := by apply UInt8.toNat_inj.1; simp
theorem set_one (A : List UInt8) (m : Nat) (x : UInt8) (hm : 1 ≤ m) : (A ++ List.replicate m 0).set A.length x = A ++ [x] ++ List.replicate (m - 1) 0 := by
 obtain ⟨q,rfl⟩ : ∃ q,m = q + 1 := ⟨m - 1,by omega⟩
 simp [List.replicate_succ]
theorem tlr_step {n k : Nat} (hk : k < 8) {x : Int} (hx : x = (n : Int) / ((2 ^ ((56 - 8 * (k : Int))).toNat : Nat) : Int) % 256) : (bv (tlr n k)).setIfInBounds k (.int .u8 x) = bv (tlr n (k + 1)) := by
 have e : x = ((n / 2 ^ (56 - 8 * k) % 256 : Nat) : Int) := by
  rw [hx,show (56 - 8 * (k : Int)).toNat = 56 - 8 * k by omega]; rfl
 subst e
 have hb : n / 2 ^ (56 - 8 * k) % 256 < 256 := Nat.mod_lt _ (by decide)
 rw [bv_set (Int.natCast_nonneg _) om,Int.toNat_natCast,u8mod]
 congr 1
 have h1 := set_one ((List.range k).map (tb n)) (8 - k) (tb n k) om
 rw [List.length_map,List.length_range] at h1
 unfold tlr
 rw [List.range_succ,List.map_append]
 exact h1
def tls (n : Nat) : ByteArray := ⟨(tlr n 8).toArray⟩
def dg4 (x : Nat) : List UInt8 := [UInt8.ofNat (x / 16777216),UInt8.ofNat (x / 65536),UInt8.ofNat (x / 256),UInt8.ofNat x]
def dgr (hs : List Nat) (k : Nat) : List UInt8 := (List.range k).flatMap (fun i => dg4 (rg hs i)) ++ List.replicate (32 - 4 * k) 0
theorem dgf_len (hs : List Nat) : ∀ k,((List.range k).flatMap (fun i => dg4 (rg hs i))).length = 4 * k
 | 0 => rfl
 | k + 1 => by rw [List.range_succ,List.flatMap_append,List.length_append,dgf_len hs k]; simp [dg4]; omega
theorem dgr_len {hs : List Nat} {k : Nat} (h : k ≤ 8) : (dgr hs k).length = 32 := by simp only [dgr,List.length_append,dgf_len,List.length_replicate]; omega
theorem set_four (A : List UInt8) (m : Nat) (a b c d : UInt8) (hm : 4 ≤ m) : ((((A ++ List.replicate m 0).set A.length a).set (A.length + 1) b).set (A.length + 2) c).set (A.length + 3) d = A ++ [a,b,c,d] ++ List.replicate (m - 4) 0 := by
 obtain ⟨q,rfl⟩ : ∃ q,m = q + 4 := ⟨m - 4,by omega⟩
 simp [List.replicate_succ]
theorem bset (l : List UInt8) (i m : Nat) : (bv l).setIfInBounds i (.int .u8 ((m % 256 : Nat) : Int)) = bv (l.set i (UInt8.ofNat m)) := by
 have hb : m % 256 < 256 := Nat.mod_lt _ (by decide)
 rw [bv_set (Int.natCast_nonneg _) om,Int.toNat_natCast,u8mod]
theorem dgr_step (hs : List Nat) {k : Nat} (hk : k < 8) {a b c d : Int} (ha : a = ((rg hs k / 16777216 % 256 : Nat) : Int)) (hb : b = ((rg hs k / 65536 % 256 : Nat) : Int)) (hc : c = ((rg hs k / 256 % 256 : Nat) : Int)) (hd : d = ((rg hs k % 256 : Nat) : Int)) :
  ((((bv (dgr hs k)).setIfInBounds (4 * k) (.int .u8 a)).setIfInBounds ((4 * k) + 1) (.int .u8 b)).setIfInBounds ((4 * k) + 2) (.int .u8 c)).setIfInBounds ((4 * k) + 3) (.int .u8 d) = bv (dgr hs (k + 1)) := by
 subst ha hb hc hd
 rw [bset,bset,bset,bset]
 congr 1
 have h1 := set_four ((List.range k).flatMap (fun i => dg4 (rg hs i))) (32 - 4 * k) (UInt8.ofNat (rg hs k / 16777216)) (UInt8.ofNat (rg hs k / 65536)) (UInt8.ofNat (rg hs k / 256)) (UInt8.ofNat (rg hs k)) om
 rw [dgf_len] at h1
 unfold dgr
 rw [h1,List.range_succ,List.flatMap_append,show 32 - 4 * (k + 1) = 32 - 4 * k - 4 by omega]
 simp [dg4]
def z3 (z : Sh) (total : Nat) : Sh := feed (pz z (padN z)) (tlr (lb total) 8)
def shaEnd (z : Sh) (total : Nat) : List UInt8 := dgr (z3 z total).hs 8
theorem shaEnd_len (z : Sh) (total : Nat) : (shaEnd z total).length = 32 := dgr_len (Nat.le_refl 8)
theorem z3_ok {z : Sh} (h : z.Ok) (total : Nat) : (z3 z total).Ok := feed_ok _ (pz_ok h _)
theorem zsz : (bv (List.replicate 32 0)).size = 32 := rfl
theorem dsz (hs : List Nat) {k : Nat} (h : k ≤ 8) : (bv (dgr hs k)).size = 32 := (bv_size _).trans (dgr_len h)
end Go.Proofs.YtohjpggjgomgoaaGreatDoor
namespace Go.Proofs.YtohjpggjgomgoaaGreatDoor
open K
set_option linter.unusedVariables false
namespace K
theorem HP.dropM {w0 w w' : World} {M : List Nat} {R O : List (Nat × Obj)} (h : HP w0 M R O w) (i : Nat) {b : Nat} {o : Obj} (hi : O[i]? = some (b,o)) (hx : Ext [b] w w') : HP w0 M R (O.eraseIdx i) w' :=
 h.call hx _ (List.eraseIdx_sublist ..) (by
  intro k hk
  simp only [List.mem_cons,List.not_mem_nil,or_false] at hk
  subst hk
  exact List.mem_map.2 ⟨_,List.mem_of_getElem? hi,rfl⟩) (by
  intro e he hm
  simp only [List.mem_cons,List.not_mem_nil,or_false] at hm
  obtain ⟨j,hj⟩ := List.mem_iff_getElem?.1 he
  rw [List.getElem?_eraseIdx] at hj
  split at hj
  ·rename_i hlt
   have := nodup_inj h.dist (i := j) (j := i) (x := b) (by simp [hj,hm]) (by simp [hi])
   omega
  ·rename_i hlt
   have := nodup_inj h.dist (i := j + 1) (j := i) (x := b) (by simp [hj,hm]) (by simp [hi])
   omega)
theorem Eff.callD {C : Cx} {R O : List (Nat × Obj)} {Γ : Env} {o : Oper} {f : FuncId} {fn : Func} {c : Code} {xs : List Operand} {tys : Array TypeId} {vs : List Value} (v : Value) (i : Nat) {b : Nat} {ob : Obj} (ho : o.op = .call ⟨.value (.func f),xs.toArray,tys⟩) (hf : C.P.funcs[f]? = some fn)
  (hnm : (fn.name == "runtime.NumGoroutine") = false) (hb : fn.body = some c) (hx : opds Γ xs = some vs) (hi : O[i]? = some (b,ob))
  (h : ∀ w,HP C.w0 C.M R O w → Calls C.P f vs.toArray w fun e w' => e = .returned v ∧ Ext [b] w w') : Eff C R O Γ o Unit (fun _ => v) (fun _ => O.eraseIdx i) (fun _ => True) :=
 Eff.call ho hf hnm hb hx fun w hp => (h w hp).mono fun _ _ hh => ⟨(),trivial,hh.1,hp.dropM i hi hh.2⟩
end K
def H8 : List Nat := [1779033703,3144134277,1013904242,2773480762,1359893119,2600822924,528734635,1541459225]
def sh0 : Sh := ⟨H8,List.replicate 64 0,0⟩
theorem sh0_ok : sh0.Ok := ⟨rfl,rfl,fun i => by
 unfold sh0 H8 rg
 rcases i with _ | _ | _ | _ | _ | _ | _ | _ | i <;> simp,by decide⟩
def ssat (ss : List ByteArray) (i : Nat) : ByteArray := ss.getD i ByteArray.empty
def scat (ss : List ByteArray) : List UInt8 := ss.flatMap fun s => s.data.toList
def sz (ss : List ByteArray) (i : Nat) : Sh := feed sh0 (scat (ss.take i))
def tt (ss : List ByteArray) (i : Nat) : Nat := (scat (ss.take i)).length % 18446744073709551616
theorem take_ssat {ss : List ByteArray} {i : Nat} (h : i < ss.length) : ss.take (i + 1) = ss.take i ++ [ssat ss i] := by
 rw [List.take_succ_eq_append_getElem h]; simp [ssat,List.getElem?_eq_getElem h]
theorem scat_app (a b : List ByteArray) : scat (a ++ b) = scat a ++ scat b := List.flatMap_append ..
theorem scat_one (s : ByteArray) : scat [s] = s.data.toList := by simp [scat]
theorem sz_succ {ss : List ByteArray} {i : Nat} (h : i < ss.length) : feed (sz ss i) (ssat ss i).data.toList = sz ss (i + 1) := by
 unfold sz; rw [take_ssat h,scat_app,scat_one,feed_app]
theorem tt_succ {ss : List ByteArray} {i : Nat} (h : i < ss.length) : (tt ss i + (ssat ss i).size) % 18446744073709551616 = tt ss (i + 1) := by
 unfold tt; rw [take_ssat h,scat_app,scat_one,List.length_append]
 have : (ssat ss i).data.toList.length = (ssat ss i).size := by simp
 omega
theorem sz_ok (ss : List ByteArray) (i : Nat) : (sz ss i).Ok := feed_ok _ sh0_ok
def shaD (l : List UInt8) : List UInt8 := shaEnd (feed sh0 l) (l.length % 18446744073709551616)
theorem shaD_len (l : List UInt8) : (shaD l).length = 32 := shaEnd_len _ _
theorem sz_all (ss : List ByteArray) : shaEnd (sz ss ss.length) (tt ss ss.length) = shaD (scat ss) := by unfold sz tt shaD; rw [List.take_length]
theorem dz (l : List UInt8) : (bv (shaD l)).size = 32 := (bv_size _).trans (shaD_len l)
end Go.Proofs.YtohjpggjgomgoaaGreatDoor
namespace Go.Proofs.YtohjpggjgomgoaaGreatDoor
open K
set_option linter.unusedVariables false
set_option maxRecDepth 100000 in
theorem words (b : Nat) (hs : List Nat) (bl : List UInt8) (held total : Nat) (w : World) (hh : hs.length = 8) (hb : bl.length = 64) (hR : Has w [(b,.cells (stC hs bl held total) 176 (0,0))]) :
  Calls Tryz.prog 112 #[.pointer (some ⟨b,0,none⟩)] w fun e w' => e = .returned (.agg (wv (row bl 64))) ∧ Ext [] w w' := by
 refine enter (vs := [.pointer (some ⟨b,0,none⟩)]) [] [(b,.cells (stC hs bl held total) 176 (0,0))] [] Tryz.func112 rfl kr (HP.ofHas hR) ?_
 refine Cfg.begL rfl ?_
 refine Le (Eff.alloc (z := (.agg (wv (List.replicate 64 0)))) rfl kr) ?_
 rintro r ⟨hr,nr⟩
 refine CfgL.done rfl ?_
 refine Cfg.begL rfl ?_
 refine Le (Eff.alloc (z := (.agg (wv (List.replicate 64 0)))) rfl kr) ?_
 rintro xw ⟨hxw,nxw⟩
 refine CfgL.done rfl ?_
 refine Rg [0,2,3,10] [] n0 trivial ?_
 refine Cfg.loop rfl (ι := Nat) (fun (t : Nat) => [(10,[],.int .i64 (t : Int)),(3,[],.pointer (some ⟨xw,0,none⟩)),(2,[],.pointer (some ⟨r,0,none⟩)),(0,[],.pointer (some ⟨b,0,none⟩))]) (fun (t : Nat) => [(xw,.cells (wv (row bl t)) 187 (0,0)),(r,.cells (wv (List.replicate 64 0)) 187 (0,0))]) (fun (t : Nat) => (t ≤ 16)) (fun (t : Nat) => 16 - t) 0 ?_ (Conv.mk kr) (.cons_cons _ (.cons_cons _ .slnil)) ?_
 ·exact Nat.zero_le _
 ·rintro t ht
  refine Rg [0,2,3,10,11] [] n0 trivial ?_
  refine Cfg.cond rfl (b := (decide ((t : Int) < (16 : Int)))) kr (fun c1r => ?_) (fun c1r => ?_)
  ·have c1 := (of_decide_eq_true c1r)
   refine Rg [0,2,3,4,10] [] n0 trivial ?_
   refine Cfg.begA rfl kr [(r,.cells (wv (List.replicate 64 0)) 187 (0,0))] ?_
   refine Ap [0,1,2,3,4,5,6,7,8,9,10,11,12,13,14,15,16,17,18,19,20,21,22,23,24,25,26,27,28,29,30,31,32,33,34,35,36,37,38,39,40,41,42] [dZ,dZ,dZ,dZ,dZ,dZ,dZ,(0,false,some (.int .u8 (bt4 bl (4 * t) : Int))),dZ,dZ,dZ,dZ,dZ,dZ,dZ,dZ,dZ,(0,false,some (.int .u8 (bt4 bl ((4 * t) + 1) : Int))),dZ,dZ,dZ,dZ,dZ,dZ,dZ,dZ,dZ,dZ,(0,false,some (.int .u8 (bt4 bl ((4 * t) + 2) : Int))),dZ,dZ,dZ,dZ,dZ,dZ,dZ,dZ,dZ,dZ,(0,false,some (.int .u8 (bt4 bl ((4 * t) + 3) : Int)))] (some [0,2,3,10,54,55]) #[true,true,true,true,true,true,true,true,true,true,true,true,true,true,true,true,true,true,true,true,true,true,true,true,true,true,true,true,true,true,true,true,true,true,true,true,true,true,true,true,true,true,true,false] (.cons _ (.cons_cons _ .slnil)) 1 (fun S => [((-9223372036854775808 : Int) ≤ (4 * (t : Int)) ∧ (4 * (t : Int)) ≤ 9223372036854775807),(0 ≤ (4 * (t : Int)) ∧ (4 * (t : Int)) < (64 : Int)),(∀ w1,S w1 → w1.cell? ⟨b,(addO 8 (4 * t)),none⟩ = some (.int .u8 (bt4 bl (4 * t) : Int))),((0 : Int) ≤ (bt4 bl (4 * t) : Int) ∧ (bt4 bl (4 * t) : Int) ≤ 4294967295),(0 ≤ (24 : Int) ∧ 24 ≤ 32),((-9223372036854775808 : Int) ≤ (4 * (t : Int)) ∧ (4 * (t : Int)) ≤ 9223372036854775807),((-9223372036854775808 : Int) ≤ ((4 * (t : Int)) + 1) ∧ ((4 * (t : Int)) + 1) ≤ 9223372036854775807),(0 ≤ ((4 * (t : Int)) + 1) ∧ ((4 * (t : Int)) + 1) < (64 : Int)),(∀ w1,S w1 → w1.cell? ⟨b,(addO 8 ((4 * t) + 1)),none⟩ = some (.int .u8 (bt4 bl ((4 * t) + 1) : Int))),((0 : Int) ≤ (bt4 bl ((4 * t) + 1) : Int) ∧ (bt4 bl ((4 * t) + 1) : Int) ≤ 4294967295),(0 ≤ (16 : Int) ∧ 16 ≤ 32),((0 ≤ (((bt4 bl (4 * t) : Int) * 16777216) % 4294967296) ∧ (((bt4 bl (4 * t) : Int) * 16777216) % 4294967296) ≤ 4294967295) ∧ 0 ≤ (((bt4 bl ((4 * t) + 1) : Int) * 65536) % 4294967296) ∧ (((bt4 bl ((4 * t) + 1) : Int) * 65536) % 4294967296) ≤ 4294967295),((-9223372036854775808 : Int) ≤ (4 * (t : Int)) ∧ (4 * (t : Int)) ≤ 9223372036854775807),((-9223372036854775808 : Int) ≤ ((4 * (t : Int)) + 2) ∧ ((4 * (t : Int)) + 2) ≤ 9223372036854775807),(0 ≤ ((4 * (t : Int)) + 2) ∧ ((4 * (t : Int)) + 2) < (64 : Int)),(∀ w1,S w1 → w1.cell? ⟨b,(addO 8 ((4 * t) + 2)),none⟩ = some (.int .u8 (bt4 bl ((4 * t) + 2) : Int))),((0 : Int) ≤ (bt4 bl ((4 * t) + 2) : Int) ∧ (bt4 bl ((4 * t) + 2) : Int) ≤ 4294967295),(0 ≤ (8 : Int) ∧ 8 ≤ 32),((0 ≤ ((((((bt4 bl (4 * t) : Int) * 16777216) % 4294967296)).toNat ||| ((((bt4 bl ((4 * t) + 1) : Int) * 65536) % 4294967296)).toNat : Nat) : Int) ∧ ((((((bt4 bl (4 * t) : Int) * 16777216) % 4294967296)).toNat ||| ((((bt4 bl ((4 * t) + 1) : Int) * 65536) % 4294967296)).toNat : Nat) : Int) ≤ 4294967295) ∧ 0 ≤ (((bt4 bl ((4 * t) + 2) : Int) * 256) % 4294967296) ∧ (((bt4 bl ((4 * t) + 2) : Int) * 256) % 4294967296) ≤ 4294967295),((-9223372036854775808 : Int) ≤ (4 * (t : Int)) ∧ (4 * (t : Int)) ≤ 9223372036854775807),((-9223372036854775808 : Int) ≤ ((4 * (t : Int)) + 3) ∧ ((4 * (t : Int)) + 3) ≤ 9223372036854775807),(0 ≤ ((4 * (t : Int)) + 3) ∧ ((4 * (t : Int)) + 3) < (64 : Int)),(∀ w1,S w1 → w1.cell? ⟨b,(addO 8 ((4 * t) + 3)),none⟩ = some (.int .u8 (bt4 bl ((4 * t) + 3) : Int))),((0 : Int) ≤ (bt4 bl ((4 * t) + 3) : Int) ∧ (bt4 bl ((4 * t) + 3) : Int) ≤ 4294967295),((0 ≤ (((((((((bt4 bl (4 * t) : Int) * 16777216) % 4294967296)).toNat ||| ((((bt4 bl ((4 * t) + 1) : Int) * 65536) % 4294967296)).toNat : Nat) : Int)).toNat ||| ((((bt4 bl ((4 * t) + 2) : Int) * 256) % 4294967296)).toNat : Nat) : Int) ∧ (((((((((bt4 bl (4 * t) : Int) * 16777216) % 4294967296)).toNat ||| ((((bt4 bl ((4 * t) + 1) : Int) * 65536) % 4294967296)).toNat : Nat) : Int)).toNat ||| ((((bt4 bl ((4 * t) + 2) : Int) * 256) % 4294967296)).toNat : Nat) : Int) ≤ 4294967295) ∧ 0 ≤ (bt4 bl ((4 * t) + 3) : Int) ∧ (bt4 bl ((4 * t) + 3) : Int) ≤ 4294967295),(0 ≤ (t : Int) ∧ (t : Int) < (64 : Int))]) ⟨om,om,(fun w1 h => h.rcell 0 rfl (by rw [addO_eq]; exact st_byte hh hb om)),(by have := bt4_lt bl (4 * t); omega),om,om,om,om,(fun w1 h => h.rcell 0 rfl (by rw [addO_eq]; exact st_byte hh hb om)),(by have := bt4_lt bl ((4 * t) + 1); omega),om,(by have := bt4_lt bl (4 * t); have := bt4_lt bl ((4 * t) + 1); omega),om,om,om,(fun w1 h => h.rcell 0 rfl (by rw [addO_eq]; exact st_byte hh hb om)),(by have := bt4_lt bl ((4 * t) + 2); omega),om,⟨⟨Int.natCast_nonneg _,le_pow (b := 32) (Nat.or_lt_two_pow om om)⟩,⟨by omega,by omega⟩⟩,om,om,om,(fun w1 h => h.rcell 0 rfl (by rw [addO_eq]; exact st_byte hh hb om)),(by have := bt4_lt bl ((4 * t) + 3); omega),⟨⟨Int.natCast_nonneg _,le_pow (b := 32) (Nat.or_lt_two_pow (tn_lt (Nat.or_lt_two_pow om om)) om)⟩,⟨Int.natCast_nonneg _,le_pow (b := 32) (b84 _ _)⟩⟩,om,trivial⟩ ?_
   refine Ae 43 rfl 0  (Eff.store1 (b := xw) (off := t) (v := .int .u32 ((((((((((((bt4 bl (4 * t) : Int) * 16777216) % 4294967296)).toNat ||| ((((bt4 bl ((4 * t) + 1) : Int) * 65536) % 4294967296)).toNat : Nat) : Int)).toNat ||| ((((bt4 bl ((4 * t) + 2) : Int) * 256) % 4294967296)).toNat : Nat) : Int)).toNat ||| ((bt4 bl ((4 * t) + 3) : Int)).toNat : Nat) : Int)) rfl kr kr rfl kr 0 (cs := (wv (row bl t))) (e := 187) kr (by rw [wsize]; omega)) (fun _ _ => (.cons _ (.cons_cons _ .slnil))) ?_
   rintro ⟨⟩ -
   refine CfgA.done kr ?_
   refine Cg (Γ' := [(10,[],.int .i64 (t : Int)),(3,[],.pointer (some ⟨xw,0,none⟩)),(2,[],.pointer (some ⟨r,0,none⟩)),(0,[],.pointer (some ⟨b,0,none⟩))]) ?_
   refine Rg [0,2,3,10] [] (fun _ => [((-9223372036854775808 : Int) ≤ ((t : Int) + 1) ∧ ((t : Int) + 1) ≤ 9223372036854775807)]) ⟨om,trivial⟩ ?_
   refine Cfg.setO (congrArg (fun (xq : Array Value) => ([(xw,.cells xq 187 (0,0)),(r,.cells (wv (List.replicate 64 0)) 187 (0,0))] : List (Nat × Obj))) (show _ = (wv (row bl (t + 1))) from row_step bl t (wnext_lo om (be4_eq _ _ _ _)))) ?_
   refine Cfg.again rfl (t + 1) (by show t + 1 ≤ 16; omega) (by show 16 - (t + 1) < 16 - t; omega) (Conv.mk kr) (.cons_cons _ (.cons_cons _ .slnil))
  ·have c1 := (of_decide_eq_false c1r)
   obtain rfl : t = 16 := by omega
   refine Conv.cfg (Γ' := [(3,[],.pointer (some ⟨xw,0,none⟩)),(2,[],.pointer (some ⟨r,0,none⟩)),(0,[],.pointer (some ⟨b,0,none⟩))]) (Conv.mk kr) ?_
   refine Rg [2,3,5] [] n0 trivial ?_
   refine Cfg.loop rfl (ι := Nat) (fun (t : Nat) => [(5,[],.int .i64 (t : Int)),(3,[],.pointer (some ⟨xw,0,none⟩)),(2,[],.pointer (some ⟨r,0,none⟩))]) (fun (t : Nat) => [(xw,.cells (wv (row bl t)) 187 (0,0)),(r,.cells (wv (List.replicate 64 0)) 187 (0,0))]) (fun (t : Nat) => (16 ≤ t) ∧ (t ≤ 64)) (fun (t : Nat) => 64 - t) 16 ?_ (Conv.mk kr) (.cons_cons _ (.cons_cons _ .slnil)) ?_
   ·exact ⟨Nat.le_refl _,by decide⟩
   ·rintro t ⟨ht0,ht⟩
    refine Rg [2,3,5,58] [] n0 trivial ?_
    refine Cfg.cond rfl (b := (decide ((t : Int) < (64 : Int)))) kr (fun c2r => ?_) (fun c2r => ?_)
    ·have c2 := (of_decide_eq_true c2r)
     refine Cfg.regD rfl kr [2,3,5,6,7] [dZ,dZ,dZ,(0,false,some (.int .u32 (rg (row bl t) (t - 15) : Int))),dZ,dZ,dZ,(0,false,some (.int .u32 (rg (row bl t) (t - 2) : Int)))] (Γ' := [(7,[],.int .u32 (rg (row bl t) (t - 2) : Int)),(6,[],.int .u32 (rg (row bl t) (t - 15) : Int)),(5,[],.int .i64 (t : Int)),(3,[],.pointer (some ⟨xw,0,none⟩)),(2,[],.pointer (some ⟨r,0,none⟩))]) (nd := (fun S => [((-9223372036854775808 : Int) ≤ ((t : Int) - 15) ∧ ((t : Int) - 15) ≤ 9223372036854775807),(0 ≤ ((t : Int) - 15) ∧ ((t : Int) - 15) < (64 : Int)),(∀ w1,S w1 → w1.cell? ⟨xw,(((t : Int) - 15)).toNat,none⟩ = some (.int .u32 (rg (row bl t) (t - 15) : Int))),((-9223372036854775808 : Int) ≤ ((t : Int) - 2) ∧ ((t : Int) - 2) ≤ 9223372036854775807),(0 ≤ ((t : Int) - 2) ∧ ((t : Int) - 2) < (64 : Int)),(∀ w1,S w1 → w1.cell? ⟨xw,(((t : Int) - 2)).toNat,none⟩ = some (.int .u32 (rg (row bl t) (t - 2) : Int)))])) kr kr (fun _ => kr) ⟨om,om,(fun w1 h => h.ocell 0 rfl (by rw [show (((t : Int) - 15)).toNat = (t - 15) by omega]; exact wv_get (row_len bl t) om)),om,om,(fun w1 h => h.ocell 0 rfl (by rw [show (((t : Int) - 2)).toNat = (t - 2) by omega]; exact wv_get (row_len bl t) om)),trivial⟩ ?_
     refine Cfg.begL rfl ?_
     refine Lp 1 [] none n0 trivial ?_
     refine Le (Eff.callA (vs := [.int .u32 (rg (row bl t) (t - 15) : Int),.int .i64 (-7)]) (.int .u32 (rotl (rg (row bl t) (t - 15)) 33554432 128 : Int)) rfl Tryz.func113 rfl rfl kr (fun w1 _ => rot25 _ w1 (row_lt bl t _))) ?_
     rintro ⟨⟩ -
     refine Lp 1 [] (some [2,3,5,6,7,70,71]) n0 trivial ?_
     refine Le (Eff.callA (vs := [.int .u32 (rg (row bl t) (t - 15) : Int),.int .i64 (-18)]) (.int .u32 (rotl (rg (row bl t) (t - 15)) 16384 262144 : Int)) rfl Tryz.func113 rfl rfl kr (fun w1 _ => rot14 _ w1 (row_lt bl t _))) ?_
     rintro ⟨⟩ -
     refine Lp 5 [] (some [2,3,5,7,8]) (fun _ => [((0 ≤ (rotl (rg (row bl t) (t - 15)) 33554432 128 : Int) ∧ (rotl (rg (row bl t) (t - 15)) 33554432 128 : Int) ≤ 4294967295) ∧ 0 ≤ (rotl (rg (row bl t) (t - 15)) 16384 262144 : Int) ∧ (rotl (rg (row bl t) (t - 15)) 16384 262144 : Int) ≤ 4294967295),(0 ≤ (3 : Int) ∧ 3 ≤ 32),((0 ≤ ((((rotl (rg (row bl t) (t - 15)) 33554432 128 : Int)).toNat ^^^ ((rotl (rg (row bl t) (t - 15)) 16384 262144 : Int)).toNat : Nat) : Int) ∧ ((((rotl (rg (row bl t) (t - 15)) 33554432 128 : Int)).toNat ^^^ ((rotl (rg (row bl t) (t - 15)) 16384 262144 : Int)).toNat : Nat) : Int) ≤ 4294967295) ∧ 0 ≤ ((rg (row bl t) (t - 15) : Int) / 8) ∧ ((rg (row bl t) (t - 15) : Int) / 8) ≤ 4294967295)]) ⟨⟨⟨Int.natCast_nonneg _,le_pow (b := 32) (rotl_lt (row_lt bl t _))⟩,⟨Int.natCast_nonneg _,le_pow (b := 32) (rotl_lt (row_lt bl t _))⟩⟩,om,⟨⟨Int.natCast_nonneg _,le_pow (b := 32) (Nat.xor_lt_two_pow (tn_lt (rotl_lt (row_lt bl t _))) (tn_lt (rotl_lt (row_lt bl t _))))⟩,⟨Int.natCast_nonneg _,le_pow (b := 32) (Nat.lt_of_le_of_lt (Nat.div_le_self _ _) (row_lt bl t _))⟩⟩,trivial⟩ ?_
     refine CfgL.done rfl ?_
     refine Cfg.begL rfl ?_
     refine Lp 1 [] none n0 trivial ?_
     refine Le (Eff.callA (vs := [.int .u32 (rg (row bl t) (t - 2) : Int),.int .i64 (-17)]) (.int .u32 (rotl (rg (row bl t) (t - 2)) 32768 131072 : Int)) rfl Tryz.func113 rfl rfl kr (fun w1 _ => rot15 _ w1 (row_lt bl t _))) ?_
     rintro ⟨⟩ -
     refine CfgL.pure 1 [] (some [2,3,5,7,8,78,79]) (Γ' := [(79,[],.int .u32 (rg (row bl t) (t - 2) : Int)),(78,[],.int .u32 (rotl (rg (row bl t) (t - 2)) 32768 131072 : Int)),(8,[],.int .u32 (((((((rotl (rg (row bl t) (t - 15)) 33554432 128 : Int)).toNat ^^^ ((rotl (rg (row bl t) (t - 15)) 16384 262144 : Int)).toNat : Nat) : Int)).toNat ^^^ (((rg (row bl t) (t - 15) : Int) / 8)).toNat : Nat) : Int)),(7,[],.int .u32 (rg (row bl t) (t - 2) : Int)),(5,[],.int .i64 (t : Int)),(3,[],.pointer (some ⟨xw,0,none⟩)),(2,[],.pointer (some ⟨r,0,none⟩))]) (nd := (fun _ => [])) kr (fun _ => kr) trivial ?_
     refine Le (Eff.callA (vs := [.int .u32 (rg (row bl t) (t - 2) : Int),.int .i64 (-19)]) (.int .u32 (rotl (rg (row bl t) (t - 2)) 8192 524288 : Int)) rfl Tryz.func113 rfl rfl kr (fun w1 _ => rot13 _ w1 (row_lt bl t _))) ?_
     rintro ⟨⟩ -
     refine Lp 5 [] (some [2,3,5,8,9]) (fun _ => [((0 ≤ (rotl (rg (row bl t) (t - 2)) 32768 131072 : Int) ∧ (rotl (rg (row bl t) (t - 2)) 32768 131072 : Int) ≤ 4294967295) ∧ 0 ≤ (rotl (rg (row bl t) (t - 2)) 8192 524288 : Int) ∧ (rotl (rg (row bl t) (t - 2)) 8192 524288 : Int) ≤ 4294967295),(0 ≤ (10 : Int) ∧ 10 ≤ 32),((0 ≤ ((((rotl (rg (row bl t) (t - 2)) 32768 131072 : Int)).toNat ^^^ ((rotl (rg (row bl t) (t - 2)) 8192 524288 : Int)).toNat : Nat) : Int) ∧ ((((rotl (rg (row bl t) (t - 2)) 32768 131072 : Int)).toNat ^^^ ((rotl (rg (row bl t) (t - 2)) 8192 524288 : Int)).toNat : Nat) : Int) ≤ 4294967295) ∧ 0 ≤ ((rg (row bl t) (t - 2) : Int) / 1024) ∧ ((rg (row bl t) (t - 2) : Int) / 1024) ≤ 4294967295)]) ⟨⟨⟨Int.natCast_nonneg _,le_pow (b := 32) (rotl_lt (row_lt bl t _))⟩,⟨Int.natCast_nonneg _,le_pow (b := 32) (rotl_lt (row_lt bl t _))⟩⟩,om,⟨⟨Int.natCast_nonneg _,le_pow (b := 32) (Nat.xor_lt_two_pow (tn_lt (rotl_lt (row_lt bl t _))) (tn_lt (rotl_lt (row_lt bl t _))))⟩,⟨Int.natCast_nonneg _,le_pow (b := 32) (Nat.lt_of_le_of_lt (Nat.div_le_self _ _) (row_lt bl t _))⟩⟩,trivial⟩ ?_
     refine CfgL.done rfl ?_
     refine Cfg.begA rfl kr [(r,.cells (wv (List.replicate 64 0)) 187 (0,0))] ?_
     refine Ap [0,1,2,3,4,7,9,10,11] [] (some [2,3,5,85,86,89,92,96]) #[true,true,true,true,true,false,false,true,false,true,true,true,false,false,false,false] (.cons _ (.cons_cons _ .slnil)) 7 (fun _ => [((-9223372036854775808 : Int) ≤ ((t : Int) - 7) ∧ ((t : Int) - 7) ≤ 9223372036854775807),(0 ≤ ((t : Int) - 7) ∧ ((t : Int) - 7) < (64 : Int)),((-9223372036854775808 : Int) ≤ ((t : Int) - 16) ∧ ((t : Int) - 16) ≤ 9223372036854775807),(0 ≤ ((t : Int) - 16) ∧ ((t : Int) - 16) < (64 : Int))]) ⟨om,om,om,om,trivial⟩ ?_
     refine CfgA.two 5 12 kr (fuel' := 6) rfl ?_ ?_
     ·
      refine Ie rfl  (Eff.quiet (raw := false) (orc := some (.int .u32 (rg (row bl t) (t - 7) : Int))) (v := .int .u32 (rg (row bl t) (t - 7) : Int)) (nd := (fun S => [(∀ w1,S w1 → w1.cell? ⟨xw,(((t : Int) - 7)).toNat,none⟩ = some (.int .u32 (rg (row bl t) (t - 7) : Int)))])) (fun _ => kr) ⟨(fun w1 h => h.ocell 0 rfl (by rw [show (((t : Int) - 7)).toNat = (t - 7) by omega]; exact wv_get (row_len bl t) om)),trivial⟩ kr) (fun _ _ => (.cons _ (.cons_cons _ .slnil))) ?_
      rintro ⟨⟩ -
      refine Ap [6,8] [] (some [2,3,5,85,93,96]) #[true,true,true,true,true,true,true,true,true,true,true,true,false,false,false,false] (.cons _ (.cons_cons _ .slnil)) 4 n0 trivial ?_
      refine Ae 12 rfl 3  (Eff.quiet (raw := false) (orc := some (.int .u32 (rg (row bl t) (t - 16) : Int))) (v := .int .u32 (rg (row bl t) (t - 16) : Int)) (nd := (fun S => [(∀ w1,S w1 → w1.cell? ⟨xw,(((t : Int) - 16)).toNat,none⟩ = some (.int .u32 (rg (row bl t) (t - 16) : Int)))])) (fun _ => kr) ⟨(fun w1 h => h.ocell 0 rfl (by rw [show (((t : Int) - 16)).toNat = (t - 16) by omega]; exact wv_get (row_len bl t) om)),trivial⟩ kr) (fun _ _ => (.cons _ (.cons_cons _ .slnil))) ?_
      rintro ⟨⟩ -
      refine Ap [13,14] [] (some [2,3,5,98,99]) #[true,true,true,true,true,true,true,true,true,true,true,true,true,true,true,false] (.cons _ (.cons_cons _ .slnil)) 1 (fun _ => [(0 ≤ (t : Int) ∧ (t : Int) < (64 : Int))]) ⟨om,trivial⟩ ?_
      refine Ae 15 rfl 0  (Eff.store1 (b := xw) (off := t) (v := .int .u32 (((((((((((((rotl (rg (row bl t) (t - 2)) 32768 131072 : Int)).toNat ^^^ ((rotl (rg (row bl t) (t - 2)) 8192 524288 : Int)).toNat : Nat) : Int)).toNat ^^^ (((rg (row bl t) (t - 2) : Int) / 1024)).toNat : Nat) : Int) + (rg (row bl t) (t - 7) : Int)) % 4294967296) + (((((((rotl (rg (row bl t) (t - 15)) 33554432 128 : Int)).toNat ^^^ ((rotl (rg (row bl t) (t - 15)) 16384 262144 : Int)).toNat : Nat) : Int)).toNat ^^^ (((rg (row bl t) (t - 15) : Int) / 8)).toNat : Nat) : Int)) % 4294967296) + (rg (row bl t) (t - 16) : Int)) % 4294967296)) rfl kr kr rfl kr 0 (cs := (wv (row bl t))) (e := 187) kr (by rw [wsize]; omega)) (fun _ _ => (.cons _ (.cons_cons _ .slnil))) ?_
      rintro ⟨⟩ -
      refine CfgA.done kr ?_
      refine Cg (Γ' := [(5,[],.int .i64 (t : Int)),(3,[],.pointer (some ⟨xw,0,none⟩)),(2,[],.pointer (some ⟨r,0,none⟩))]) ?_
      refine Rg [2,3,5] [] (fun _ => [((-9223372036854775808 : Int) ≤ ((t : Int) + 1) ∧ ((t : Int) + 1) ≤ 9223372036854775807)]) ⟨om,trivial⟩ ?_
      refine Cfg.setO (congrArg (fun (xq : Array Value) => ([(xw,.cells xq 187 (0,0)),(r,.cells (wv (List.replicate 64 0)) 187 (0,0))] : List (Nat × Obj))) (show _ = (wv (row bl (t + 1))) from row_step bl t (wnext_hi om (wn_eq _ _ _ _)))) ?_
      refine Cfg.again rfl (t + 1) ⟨by omega,by omega⟩ (by show 64 - (t + 1) < 64 - t; omega) (Conv.mk kr) (.cons_cons _ (.cons_cons _ .slnil))
     ·
      refine Ie rfl  (Eff.quiet (raw := false) (orc := some (.int .u32 (rg (row bl t) (t - 16) : Int))) (v := .int .u32 (rg (row bl t) (t - 16) : Int)) (nd := (fun S => [(∀ w1,S w1 → w1.cell? ⟨xw,(((t : Int) - 16)).toNat,none⟩ = some (.int .u32 (rg (row bl t) (t - 16) : Int)))])) (fun _ => kr) ⟨(fun w1 h => h.ocell 0 rfl (by rw [show (((t : Int) - 16)).toNat = (t - 16) by omega]; exact wv_get (row_len bl t) om)),trivial⟩ kr) (fun _ _ => (.cons _ (.cons_cons _ .slnil))) ?_
      rintro ⟨⟩ -
      refine Ae 5 rfl 5  (Eff.quiet (raw := false) (orc := some (.int .u32 (rg (row bl t) (t - 7) : Int))) (v := .int .u32 (rg (row bl t) (t - 7) : Int)) (nd := (fun S => [(∀ w1,S w1 → w1.cell? ⟨xw,(((t : Int) - 7)).toNat,none⟩ = some (.int .u32 (rg (row bl t) (t - 7) : Int)))])) (fun _ => kr) ⟨(fun w1 h => h.ocell 0 rfl (by rw [show (((t : Int) - 7)).toNat = (t - 7) by omega]; exact wv_get (row_len bl t) om)),trivial⟩ kr) (fun _ _ => (.cons _ (.cons_cons _ .slnil))) ?_
      rintro ⟨⟩ -
      refine Ap [6,8,13,14] [] (some [2,3,5,98,99]) #[true,true,true,true,true,true,true,true,true,true,true,true,true,true,true,false] (.cons _ (.cons_cons _ .slnil)) 1 (fun _ => [(0 ≤ (t : Int) ∧ (t : Int) < (64 : Int))]) ⟨om,trivial⟩ ?_
      refine Ae 15 rfl 0  (Eff.store1 (b := xw) (off := t) (v := .int .u32 (((((((((((((rotl (rg (row bl t) (t - 2)) 32768 131072 : Int)).toNat ^^^ ((rotl (rg (row bl t) (t - 2)) 8192 524288 : Int)).toNat : Nat) : Int)).toNat ^^^ (((rg (row bl t) (t - 2) : Int) / 1024)).toNat : Nat) : Int) + (rg (row bl t) (t - 7) : Int)) % 4294967296) + (((((((rotl (rg (row bl t) (t - 15)) 33554432 128 : Int)).toNat ^^^ ((rotl (rg (row bl t) (t - 15)) 16384 262144 : Int)).toNat : Nat) : Int)).toNat ^^^ (((rg (row bl t) (t - 15) : Int) / 8)).toNat : Nat) : Int)) % 4294967296) + (rg (row bl t) (t - 16) : Int)) % 4294967296)) rfl kr kr rfl kr 0 (cs := (wv (row bl t))) (e := 187) kr (by rw [wsize]; omega)) (fun _ _ => (.cons _ (.cons_cons _ .slnil))) ?_
      rintro ⟨⟩ -
      refine CfgA.done kr ?_
      refine Cg (Γ' := [(5,[],.int .i64 (t : Int)),(3,[],.pointer (some ⟨xw,0,none⟩)),(2,[],.pointer (some ⟨r,0,none⟩))]) ?_
      refine Rg [2,3,5] [] (fun _ => [((-9223372036854775808 : Int) ≤ ((t : Int) + 1) ∧ ((t : Int) + 1) ≤ 9223372036854775807)]) ⟨om,trivial⟩ ?_
      refine Cfg.setO (congrArg (fun (xq : Array Value) => ([(xw,.cells xq 187 (0,0)),(r,.cells (wv (List.replicate 64 0)) 187 (0,0))] : List (Nat × Obj))) (show _ = (wv (row bl (t + 1))) from row_step bl t (wnext_hi om (wn_eq _ _ _ _)))) ?_
      refine Cfg.again rfl (t + 1) ⟨by omega,by omega⟩ (by show 64 - (t + 1) < 64 - t; omega) (Conv.mk kr) (.cons_cons _ (.cons_cons _ .slnil))
    ·have c2 := (of_decide_eq_false c2r)
     refine Cfg.begL rfl ?_
     refine Lp 1 [(0,false,some (.agg (wv (row bl t))))] (some [2,100]) (fun S => [(∀ w1,S w1 → (loadVar 187 ⟨xw,0,none⟩).run Tryz.prog w1 = .ok (.agg (wv (row bl t))) w1)]) ⟨(fun w1 h => h.oload 0 rfl Tryz.underlying187 rfl (n := 64) kr (wsize bl t)),trivial⟩ ?_
     refine Le (Eff.storeN (b := r) (off := 0) (vs := (wv (row bl t))) (n := 64) rfl kr kr kr (wsize bl t) (all_wv _) 1 (cs := (wv (List.replicate 64 0))) (e := 187) kr (by rw [show wv (List.replicate 64 0) = wv (row bl 0) from rfl,wsize]; omega)) ?_
     rintro ⟨⟩ -
     refine CfgL.setO (congrArg (fun (xq : Array Value) => ([(xw,.cells (wv (row bl t)) 187 (0,0)),(r,.cells xq 187 (0,0))] : List (Nat × Obj))) (show _ = (wv (row bl t)) from spl_all ((wsize bl t).trans (wsize bl 0).symm))) ?_
     refine CfgL.done rfl ?_
     refine Cg (Γ' := [(2,[],.pointer (some ⟨r,0,none⟩))]) ?_
     refine Cfg.ret rfl (rs := [.cell 2 187]) rfl [.agg (wv (row bl t))] ⟨⟨_,by kernel_rfl,(fun w1 h => h.oload 1 rfl Tryz.underlying187 rfl (n := 64) kr (wsize bl t))⟩,trivial⟩ (fun w1 hp => ?_)
     obtain rfl : t = 64 := by omega
     exact ⟨rfl,hp.ext⟩
end Go.Proofs.YtohjpggjgomgoaaGreatDoor
namespace Go.Proofs.YtohjpggjgomgoaaGreatDoor
open K
set_option linter.unusedVariables false
set_option maxRecDepth 100000 in
theorem shaMix (b : Nat) (hs : List Nat) (bl : List UInt8) (held total : Nat) {kt : Array Value} {t0 : TypeId} {fr0 : Nat × Nat} (w : World) (hh : hs.length = 8) (hb : bl.length = 64) (hlt : ∀ i,rg hs i < 2 ^ 32) (hR : Has w [(0,.cells kt t0 fr0)]) (hS : w.heap[b]? = some (.cells (stC hs bl held total) 176 (0,0))) (hne : b ≠ 0) (hK : KT kt := by assumption) :
  Calls Tryz.prog 102 #[.pointer (some ⟨b,0,none⟩)] w fun e w' => e = .returned (.tuple #[]) ∧ Ext [b] w w' ∧ w'.heap[b]? = some (.cells (stC (mixF hs bl) bl held total) 176 (0,0)) := by
 refine enter (vs := [.pointer (some ⟨b,0,none⟩)]) [b] [(0,.cells kt t0 fr0)] [(b,.cells (stC hs bl held total) 176 (0,0))] Tryz.func102 rfl kr (HP.startM hR hS (by simpa using hne)) ?_
 refine Cfg.begL rfl ?_
 refine Lp 1 [] none n0 trivial ?_
 refine Le (Eff.callA (vs := [.pointer (some ⟨b,0,none⟩)]) (.agg (wv (row bl 64))) rfl Tryz.func112 rfl rfl kr (fun w1 h => words b hs bl held total w1 hh hb (h.has (fun e he => he)))) ?_
 rintro ⟨⟩ -
 refine Le (Eff.alloc (z := (.agg (wv (List.replicate 64 0)))) rfl kr) ?_
 rintro xw ⟨hxw,nxw⟩
 refine Le (Eff.storeN (b := xw) (off := 0) (vs := (wv (row bl 64))) (n := 64) rfl kr kr kr (wsize bl 64) (all_wv _) 0 (cs := (wv (List.replicate 64 0))) (e := 187) kr (by rw [show wv (List.replicate 64 0) = wv (row bl 0) from rfl,wsize]; omega)) ?_
 rintro ⟨⟩ -
 refine CfgL.setO (congrArg (fun (xq : Array Value) => ([(xw,.cells xq 187 (0,0)),(b,.cells (stC hs bl held total) 176 (0,0))] : List (Nat × Obj))) (show _ = (wv (row bl 64)) from spl_all ((wsize bl 64).trans (wsize bl 0).symm))) ?_
 refine CfgL.done rfl ?_
 refine Cg (Γ' := [(2,[],.pointer (some ⟨xw,0,none⟩)),(0,[],.pointer (some ⟨b,0,none⟩))]) ?_
 refine Cfg.regD rfl kr [0,2,3,4,5,6] [dZ,dZ,dZ,dZ,(0,false,some (.int .u32 (rg hs 0 : Int))),dZ,dZ,dZ,dZ,(0,false,some (.int .u32 (rg hs 1 : Int))),dZ,dZ,dZ,dZ,(0,false,some (.int .u32 (rg hs 2 : Int))),dZ,dZ,dZ,dZ,(0,false,some (.int .u32 (rg hs 3 : Int)))] (Γ' := [(6,[],.int .u32 (rg hs 3 : Int)),(5,[],.int .u32 (rg hs 2 : Int)),(4,[],.int .u32 (rg hs 1 : Int)),(3,[],.int .u32 (rg hs 0 : Int)),(2,[],.pointer (some ⟨xw,0,none⟩)),(0,[],.pointer (some ⟨b,0,none⟩))]) (nd := (fun S => [(0 ≤ (0 : Int) ∧ (0 : Int) < (8 : Int)),(∀ w1,S w1 → w1.cell? ⟨b,0,none⟩ = some (.int .u32 (rg hs 0 : Int))),(0 ≤ (1 : Int) ∧ (1 : Int) < (8 : Int)),(∀ w1,S w1 → w1.cell? ⟨b,1,none⟩ = some (.int .u32 (rg hs 1 : Int))),(0 ≤ (2 : Int) ∧ (2 : Int) < (8 : Int)),(∀ w1,S w1 → w1.cell? ⟨b,2,none⟩ = some (.int .u32 (rg hs 2 : Int))),(0 ≤ (3 : Int) ∧ (3 : Int) < (8 : Int)),(∀ w1,S w1 → w1.cell? ⟨b,3,none⟩ = some (.int .u32 (rg hs 3 : Int)))])) kr kr (fun _ => kr) ⟨om,(fun w1 h => h.ocell 1 rfl (st_sum hh om)),om,(fun w1 h => h.ocell 1 rfl (st_sum hh om)),om,(fun w1 h => h.ocell 1 rfl (st_sum hh om)),om,(fun w1 h => h.ocell 1 rfl (st_sum hh om)),trivial⟩ ?_
 refine Cfg.regD rfl kr [0,2,3,4,5,6,7,8,9,10] [dZ,dZ,dZ,dZ,(0,false,some (.int .u32 (rg hs 4 : Int))),dZ,dZ,dZ,dZ,(0,false,some (.int .u32 (rg hs 5 : Int))),dZ,dZ,dZ,dZ,(0,false,some (.int .u32 (rg hs 6 : Int))),dZ,dZ,dZ,dZ,(0,false,some (.int .u32 (rg hs 7 : Int)))] (Γ' := [(10,[],.int .u32 (rg hs 7 : Int)),(9,[],.int .u32 (rg hs 6 : Int)),(8,[],.int .u32 (rg hs 5 : Int)),(7,[],.int .u32 (rg hs 4 : Int)),(6,[],.int .u32 (rg hs 3 : Int)),(5,[],.int .u32 (rg hs 2 : Int)),(4,[],.int .u32 (rg hs 1 : Int)),(3,[],.int .u32 (rg hs 0 : Int)),(2,[],.pointer (some ⟨xw,0,none⟩)),(0,[],.pointer (some ⟨b,0,none⟩))]) (nd := (fun S => [(0 ≤ (4 : Int) ∧ (4 : Int) < (8 : Int)),(∀ w1,S w1 → w1.cell? ⟨b,4,none⟩ = some (.int .u32 (rg hs 4 : Int))),(0 ≤ (5 : Int) ∧ (5 : Int) < (8 : Int)),(∀ w1,S w1 → w1.cell? ⟨b,5,none⟩ = some (.int .u32 (rg hs 5 : Int))),(0 ≤ (6 : Int) ∧ (6 : Int) < (8 : Int)),(∀ w1,S w1 → w1.cell? ⟨b,6,none⟩ = some (.int .u32 (rg hs 6 : Int))),(0 ≤ (7 : Int) ∧ (7 : Int) < (8 : Int)),(∀ w1,S w1 → w1.cell? ⟨b,7,none⟩ = some (.int .u32 (rg hs 7 : Int)))])) kr kr (fun _ => kr) ⟨om,(fun w1 h => h.ocell 1 rfl (st_sum hh om)),om,(fun w1 h => h.ocell 1 rfl (st_sum hh om)),om,(fun w1 h => h.ocell 1 rfl (st_sum hh om)),om,(fun w1 h => h.ocell 1 rfl (st_sum hh om)),trivial⟩ ?_
 refine Rg [0,2,3,4,5,6,7,8,9,10,62] [] n0 trivial ?_
 refine Cfg.loop rfl (ι := Nat) (fun (t : Nat) => [(62,[],.int .i64 (t : Int)),(10,[],.int .u32 ((rv hs bl t).h : Int)),(9,[],.int .u32 ((rv hs bl t).g : Int)),(8,[],.int .u32 ((rv hs bl t).f : Int)),(7,[],.int .u32 ((rv hs bl t).e : Int)),(6,[],.int .u32 ((rv hs bl t).d : Int)),(5,[],.int .u32 ((rv hs bl t).c : Int)),(4,[],.int .u32 ((rv hs bl t).b : Int)),(3,[],.int .u32 ((rv hs bl t).a : Int)),(2,[],.pointer (some ⟨xw,0,none⟩)),(0,[],.pointer (some ⟨b,0,none⟩))]) (fun (t : Nat) => [(xw,.cells (wv (row bl 64)) 187 (0,0)),(b,.cells (stC hs bl held total) 176 (0,0))]) (fun (t : Nat) => (t ≤ 64)) (fun (t : Nat) => 64 - t) 0 ?_ (Conv.mk kr) (.cons_cons _ (.cons_cons _ .slnil)) ?_
 ·exact Nat.zero_le _
 ·rintro t ht
  have ok := rv_ok hlt bl t
  refine Rg [0,2,3,4,5,6,7,8,9,10,62,63] [] n0 trivial ?_
  refine Cfg.cond rfl (b := (decide ((t : Int) < (64 : Int)))) kr (fun c1r => ?_) (fun c1r => ?_)
  ·have c1 := (of_decide_eq_true c1r)
   refine Rg [0,2,3,4,5,6,7,8,9,10,11,62] [] n0 trivial ?_
   refine Cfg.begL rfl ?_
   refine Lp 1 [] none n0 trivial ?_
   refine Le (Eff.callA (vs := [.int .u32 ((rv hs bl t).e : Int),.int .i64 (-6)]) (.int .u32 (rotl ((rv hs bl t).e) 67108864 64 : Int)) rfl Tryz.func113 rfl rfl kr (fun w1 _ => rot26 _ w1 ok.e)) ?_
   rintro ⟨⟩ -
   refine Lp 1 [] (some [0,2,3,4,5,6,7,8,9,10,11,62,66,67]) n0 trivial ?_
   refine Le (Eff.callA (vs := [.int .u32 ((rv hs bl t).e : Int),.int .i64 (-11)]) (.int .u32 (rotl ((rv hs bl t).e) 2097152 2048 : Int)) rfl Tryz.func113 rfl rfl kr (fun w1 _ => rot21 _ w1 ok.e)) ?_
   rintro ⟨⟩ -
   refine Lp 2 [] (some [0,2,3,4,5,6,7,8,9,10,11,62,69,70]) (fun _ => [((0 ≤ (rotl ((rv hs bl t).e) 67108864 64 : Int) ∧ (rotl ((rv hs bl t).e) 67108864 64 : Int) ≤ 4294967295) ∧ 0 ≤ (rotl ((rv hs bl t).e) 2097152 2048 : Int) ∧ (rotl ((rv hs bl t).e) 2097152 2048 : Int) ≤ 4294967295)]) ⟨⟨⟨Int.natCast_nonneg _,le_pow (b := 32) (rotl_lt ok.e)⟩,⟨Int.natCast_nonneg _,le_pow (b := 32) (rotl_lt ok.e)⟩⟩,trivial⟩ ?_
   refine Le (Eff.callA (vs := [.int .u32 ((rv hs bl t).e : Int),.int .i64 (-25)]) (.int .u32 (rotl ((rv hs bl t).e) 128 33554432 : Int)) rfl Tryz.func113 rfl rfl kr (fun w1 _ => rot7 _ w1 ok.e)) ?_
   rintro ⟨⟩ -
   refine Lp 2 [] (some [0,2,3,4,5,6,7,8,9,10,11,12,62]) (fun _ => [((0 ≤ ((((rotl ((rv hs bl t).e) 67108864 64 : Int)).toNat ^^^ ((rotl ((rv hs bl t).e) 2097152 2048 : Int)).toNat : Nat) : Int) ∧ ((((rotl ((rv hs bl t).e) 67108864 64 : Int)).toNat ^^^ ((rotl ((rv hs bl t).e) 2097152 2048 : Int)).toNat : Nat) : Int) ≤ 4294967295) ∧ 0 ≤ (rotl ((rv hs bl t).e) 128 33554432 : Int) ∧ (rotl ((rv hs bl t).e) 128 33554432 : Int) ≤ 4294967295)]) ⟨⟨⟨Int.natCast_nonneg _,le_pow (b := 32) (Nat.xor_lt_two_pow (tn_lt (rotl_lt ok.e)) (tn_lt (rotl_lt ok.e)))⟩,⟨Int.natCast_nonneg _,le_pow (b := 32) (rotl_lt ok.e)⟩⟩,trivial⟩ ?_
   refine CfgL.done rfl ?_
   refine Cg (Γ' := [(12,[],.int .u32 (((((((rotl ((rv hs bl t).e) 67108864 64 : Int)).toNat ^^^ ((rotl ((rv hs bl t).e) 2097152 2048 : Int)).toNat : Nat) : Int)).toNat ^^^ ((rotl ((rv hs bl t).e) 128 33554432 : Int)).toNat : Nat) : Int)),(11,[],.int .i64 (t : Int)),(62,[],.int .i64 (t : Int)),(10,[],.int .u32 ((rv hs bl t).h : Int)),(9,[],.int .u32 ((rv hs bl t).g : Int)),(8,[],.int .u32 ((rv hs bl t).f : Int)),(7,[],.int .u32 ((rv hs bl t).e : Int)),(6,[],.int .u32 ((rv hs bl t).d : Int)),(5,[],.int .u32 ((rv hs bl t).c : Int)),(4,[],.int .u32 ((rv hs bl t).b : Int)),(3,[],.int .u32 ((rv hs bl t).a : Int)),(2,[],.pointer (some ⟨xw,0,none⟩)),(0,[],.pointer (some ⟨b,0,none⟩))]) ?_
   refine Cfg.setG (congrArg (fun (xq : Int) => ([(12,[],.int .u32 xq),(11,[],.int .i64 (t : Int)),(62,[],.int .i64 (t : Int)),(10,[],.int .u32 ((rv hs bl t).h : Int)),(9,[],.int .u32 ((rv hs bl t).g : Int)),(8,[],.int .u32 ((rv hs bl t).f : Int)),(7,[],.int .u32 ((rv hs bl t).e : Int)),(6,[],.int .u32 ((rv hs bl t).d : Int)),(5,[],.int .u32 ((rv hs bl t).c : Int)),(4,[],.int .u32 ((rv hs bl t).b : Int)),(3,[],.int .u32 ((rv hs bl t).a : Int)),(2,[],.pointer (some ⟨xw,0,none⟩)),(0,[],.pointer (some ⟨b,0,none⟩))] : Env)) (show _ = (bigE (rv hs bl t).e : Int) from bigE_eq _)) ?_
   refine Rg [0,2,3,4,5,6,7,8,9,10,11,12,13,62] [] (fun _ => [((0 ≤ ((rv hs bl t).e : Int) ∧ ((rv hs bl t).e : Int) ≤ 4294967295) ∧ 0 ≤ ((rv hs bl t).f : Int) ∧ ((rv hs bl t).f : Int) ≤ 4294967295),((0 ≤ (4294967295 : Int) ∧ (4294967295 : Int) ≤ 4294967295) ∧ 0 ≤ ((rv hs bl t).e : Int) ∧ ((rv hs bl t).e : Int) ≤ 4294967295),((0 ≤ ((4294967295 ^^^ (((rv hs bl t).e : Int)).toNat : Nat) : Int) ∧ ((4294967295 ^^^ (((rv hs bl t).e : Int)).toNat : Nat) : Int) ≤ 4294967295) ∧ 0 ≤ ((rv hs bl t).g : Int) ∧ ((rv hs bl t).g : Int) ≤ 4294967295),((0 ≤ (((((rv hs bl t).e : Int)).toNat &&& (((rv hs bl t).f : Int)).toNat : Nat) : Int) ∧ (((((rv hs bl t).e : Int)).toNat &&& (((rv hs bl t).f : Int)).toNat : Nat) : Int) ≤ 4294967295) ∧ 0 ≤ (((((4294967295 ^^^ (((rv hs bl t).e : Int)).toNat : Nat) : Int)).toNat &&& (((rv hs bl t).g : Int)).toNat : Nat) : Int) ∧ (((((4294967295 ^^^ (((rv hs bl t).e : Int)).toNat : Nat) : Int)).toNat &&& (((rv hs bl t).g : Int)).toNat : Nat) : Int) ≤ 4294967295)]) ⟨⟨⟨Int.natCast_nonneg _,le_pow (b := 32) ok.e⟩,⟨Int.natCast_nonneg _,le_pow (b := 32) ok.f⟩⟩,⟨⟨by omega,by omega⟩,⟨Int.natCast_nonneg _,le_pow (b := 32) ok.e⟩⟩,⟨⟨Int.natCast_nonneg _,le_pow (b := 32) (Nat.xor_lt_two_pow om (tn_lt ok.e))⟩,⟨Int.natCast_nonneg _,le_pow (b := 32) ok.g⟩⟩,⟨⟨Int.natCast_nonneg _,le_pow (b := 32) (Nat.and_lt_two_pow _ (tn_lt ok.f))⟩,⟨Int.natCast_nonneg _,le_pow (b := 32) (Nat.and_lt_two_pow _ (tn_lt ok.g))⟩⟩,trivial⟩ ?_
   refine Cg (Γ' := [(13,[],.int .u32 ((((((((rv hs bl t).e : Int)).toNat &&& (((rv hs bl t).f : Int)).toNat : Nat) : Int)).toNat ^^^ ((((((4294967295 ^^^ (((rv hs bl t).e : Int)).toNat : Nat) : Int)).toNat &&& (((rv hs bl t).g : Int)).toNat : Nat) : Int)).toNat : Nat) : Int)),(12,[],.int .u32 (bigE (rv hs bl t).e : Int)),(11,[],.int .i64 (t : Int)),(62,[],.int .i64 (t : Int)),(10,[],.int .u32 ((rv hs bl t).h : Int)),(9,[],.int .u32 ((rv hs bl t).g : Int)),(8,[],.int .u32 ((rv hs bl t).f : Int)),(7,[],.int .u32 ((rv hs bl t).e : Int)),(6,[],.int .u32 ((rv hs bl t).d : Int)),(5,[],.int .u32 ((rv hs bl t).c : Int)),(4,[],.int .u32 ((rv hs bl t).b : Int)),(3,[],.int .u32 ((rv hs bl t).a : Int)),(2,[],.pointer (some ⟨xw,0,none⟩)),(0,[],.pointer (some ⟨b,0,none⟩))]) ?_
   refine Cfg.setG (congrArg (fun (xq : Int) => ([(13,[],.int .u32 xq),(12,[],.int .u32 (bigE (rv hs bl t).e : Int)),(11,[],.int .i64 (t : Int)),(62,[],.int .i64 (t : Int)),(10,[],.int .u32 ((rv hs bl t).h : Int)),(9,[],.int .u32 ((rv hs bl t).g : Int)),(8,[],.int .u32 ((rv hs bl t).f : Int)),(7,[],.int .u32 ((rv hs bl t).e : Int)),(6,[],.int .u32 ((rv hs bl t).d : Int)),(5,[],.int .u32 ((rv hs bl t).c : Int)),(4,[],.int .u32 ((rv hs bl t).b : Int)),(3,[],.int .u32 ((rv hs bl t).a : Int)),(2,[],.pointer (some ⟨xw,0,none⟩)),(0,[],.pointer (some ⟨b,0,none⟩))] : Env)) (show _ = (choi (rv hs bl t).e (rv hs bl t).f (rv hs bl t).g : Int) from choi_eq _ _ _)) ?_
   refine Cfg.regD rfl kr [0,2,3,4,5,6,7,8,9,14,62] [dZ,dZ,dZ,dZ,dZ,dZ,dZ,(0,false,some (.int .u32 (rg Kc t : Int))),dZ,dZ,dZ,(0,false,some (.int .u32 (rg (row bl 64) t : Int)))] (Γ' := [(14,[],.int .u32 ((((((((((rv hs bl t).h : Int) + (bigE (rv hs bl t).e : Int)) % 4294967296) + (choi (rv hs bl t).e (rv hs bl t).f (rv hs bl t).g : Int)) % 4294967296) + (rg Kc t : Int)) % 4294967296) + (rg (row bl 64) t : Int)) % 4294967296)),(62,[],.int .i64 (t : Int)),(9,[],.int .u32 ((rv hs bl t).g : Int)),(8,[],.int .u32 ((rv hs bl t).f : Int)),(7,[],.int .u32 ((rv hs bl t).e : Int)),(6,[],.int .u32 ((rv hs bl t).d : Int)),(5,[],.int .u32 ((rv hs bl t).c : Int)),(4,[],.int .u32 ((rv hs bl t).b : Int)),(3,[],.int .u32 ((rv hs bl t).a : Int)),(2,[],.pointer (some ⟨xw,0,none⟩)),(0,[],.pointer (some ⟨b,0,none⟩))]) (nd := (fun S => [(0 ≤ (t : Int) ∧ (t : Int) < (64 : Int)),(∀ w1,S w1 → w1.cell? ⟨0,t,none⟩ = some (.int .u32 (rg Kc t : Int))),(0 ≤ (t : Int) ∧ (t : Int) < (64 : Int)),(∀ w1,S w1 → w1.cell? ⟨xw,t,none⟩ = some (.int .u32 (rg (row bl 64) t : Int)))])) kr kr (fun _ => kr) ⟨om,(fun w1 h => h.rcell 0 rfl (hK _ om)),om,(fun w1 h => h.ocell 0 rfl (wv_get (row_len bl 64) om)),trivial⟩ ?_
   refine Cg (Γ' := [(14,[],.int .u32 ((((((((((rv hs bl t).h : Int) + (bigE (rv hs bl t).e : Int)) % 4294967296) + (choi (rv hs bl t).e (rv hs bl t).f (rv hs bl t).g : Int)) % 4294967296) + (rg Kc t : Int)) % 4294967296) + (rg (row bl 64) t : Int)) % 4294967296)),(62,[],.int .i64 (t : Int)),(9,[],.int .u32 ((rv hs bl t).g : Int)),(8,[],.int .u32 ((rv hs bl t).f : Int)),(7,[],.int .u32 ((rv hs bl t).e : Int)),(6,[],.int .u32 ((rv hs bl t).d : Int)),(5,[],.int .u32 ((rv hs bl t).c : Int)),(4,[],.int .u32 ((rv hs bl t).b : Int)),(3,[],.int .u32 ((rv hs bl t).a : Int)),(2,[],.pointer (some ⟨xw,0,none⟩)),(0,[],.pointer (some ⟨b,0,none⟩))]) ?_
   refine Cfg.setG (congrArg (fun (xq : Int) => ([(14,[],.int .u32 xq),(62,[],.int .i64 (t : Int)),(9,[],.int .u32 ((rv hs bl t).g : Int)),(8,[],.int .u32 ((rv hs bl t).f : Int)),(7,[],.int .u32 ((rv hs bl t).e : Int)),(6,[],.int .u32 ((rv hs bl t).d : Int)),(5,[],.int .u32 ((rv hs bl t).c : Int)),(4,[],.int .u32 ((rv hs bl t).b : Int)),(3,[],.int .u32 ((rv hs bl t).a : Int)),(2,[],.pointer (some ⟨xw,0,none⟩)),(0,[],.pointer (some ⟨b,0,none⟩))] : Env)) (show _ = (frst (rg Kc t) (rg (row bl 64) t) (rv hs bl t) : Int) from frst_eq _ _ _)) ?_
   refine Cfg.begL rfl ?_
   refine Lp 1 [] none n0 trivial ?_
   refine Le (Eff.callA (vs := [.int .u32 ((rv hs bl t).a : Int),.int .i64 (-2)]) (.int .u32 (rotl ((rv hs bl t).a) 1073741824 4 : Int)) rfl Tryz.func113 rfl rfl kr (fun w1 _ => rot30 _ w1 ok.a)) ?_
   rintro ⟨⟩ -
   refine Lp 1 [] (some [0,2,3,4,5,6,7,8,9,14,62,95,96]) n0 trivial ?_
   refine Le (Eff.callA (vs := [.int .u32 ((rv hs bl t).a : Int),.int .i64 (-13)]) (.int .u32 (rotl ((rv hs bl t).a) 524288 8192 : Int)) rfl Tryz.func113 rfl rfl kr (fun w1 _ => rot19 _ w1 ok.a)) ?_
   rintro ⟨⟩ -
   refine Lp 2 [] (some [0,2,3,4,5,6,7,8,9,14,62,98,99]) (fun _ => [((0 ≤ (rotl ((rv hs bl t).a) 1073741824 4 : Int) ∧ (rotl ((rv hs bl t).a) 1073741824 4 : Int) ≤ 4294967295) ∧ 0 ≤ (rotl ((rv hs bl t).a) 524288 8192 : Int) ∧ (rotl ((rv hs bl t).a) 524288 8192 : Int) ≤ 4294967295)]) ⟨⟨⟨Int.natCast_nonneg _,le_pow (b := 32) (rotl_lt ok.a)⟩,⟨Int.natCast_nonneg _,le_pow (b := 32) (rotl_lt ok.a)⟩⟩,trivial⟩ ?_
   refine Le (Eff.callA (vs := [.int .u32 ((rv hs bl t).a : Int),.int .i64 (-22)]) (.int .u32 (rotl ((rv hs bl t).a) 1024 4194304 : Int)) rfl Tryz.func113 rfl rfl kr (fun w1 _ => rot10 _ w1 ok.a)) ?_
   rintro ⟨⟩ -
   refine Lp 2 [] (some [0,2,3,4,5,6,7,8,9,14,15,62]) (fun _ => [((0 ≤ ((((rotl ((rv hs bl t).a) 1073741824 4 : Int)).toNat ^^^ ((rotl ((rv hs bl t).a) 524288 8192 : Int)).toNat : Nat) : Int) ∧ ((((rotl ((rv hs bl t).a) 1073741824 4 : Int)).toNat ^^^ ((rotl ((rv hs bl t).a) 524288 8192 : Int)).toNat : Nat) : Int) ≤ 4294967295) ∧ 0 ≤ (rotl ((rv hs bl t).a) 1024 4194304 : Int) ∧ (rotl ((rv hs bl t).a) 1024 4194304 : Int) ≤ 4294967295)]) ⟨⟨⟨Int.natCast_nonneg _,le_pow (b := 32) (Nat.xor_lt_two_pow (tn_lt (rotl_lt ok.a)) (tn_lt (rotl_lt ok.a)))⟩,⟨Int.natCast_nonneg _,le_pow (b := 32) (rotl_lt ok.a)⟩⟩,trivial⟩ ?_
   refine CfgL.done rfl ?_
   refine Cg (Γ' := [(15,[],.int .u32 (((((((rotl ((rv hs bl t).a) 1073741824 4 : Int)).toNat ^^^ ((rotl ((rv hs bl t).a) 524288 8192 : Int)).toNat : Nat) : Int)).toNat ^^^ ((rotl ((rv hs bl t).a) 1024 4194304 : Int)).toNat : Nat) : Int)),(14,[],.int .u32 (frst (rg Kc t) (rg (row bl 64) t) (rv hs bl t) : Int)),(62,[],.int .i64 (t : Int)),(9,[],.int .u32 ((rv hs bl t).g : Int)),(8,[],.int .u32 ((rv hs bl t).f : Int)),(7,[],.int .u32 ((rv hs bl t).e : Int)),(6,[],.int .u32 ((rv hs bl t).d : Int)),(5,[],.int .u32 ((rv hs bl t).c : Int)),(4,[],.int .u32 ((rv hs bl t).b : Int)),(3,[],.int .u32 ((rv hs bl t).a : Int)),(2,[],.pointer (some ⟨xw,0,none⟩)),(0,[],.pointer (some ⟨b,0,none⟩))]) ?_
   refine Cfg.setG (congrArg (fun (xq : Int) => ([(15,[],.int .u32 xq),(14,[],.int .u32 (frst (rg Kc t) (rg (row bl 64) t) (rv hs bl t) : Int)),(62,[],.int .i64 (t : Int)),(9,[],.int .u32 ((rv hs bl t).g : Int)),(8,[],.int .u32 ((rv hs bl t).f : Int)),(7,[],.int .u32 ((rv hs bl t).e : Int)),(6,[],.int .u32 ((rv hs bl t).d : Int)),(5,[],.int .u32 ((rv hs bl t).c : Int)),(4,[],.int .u32 ((rv hs bl t).b : Int)),(3,[],.int .u32 ((rv hs bl t).a : Int)),(2,[],.pointer (some ⟨xw,0,none⟩)),(0,[],.pointer (some ⟨b,0,none⟩))] : Env)) (show _ = (bigA (rv hs bl t).a : Int) from bigA_eq _)) ?_
   refine Rg [0,2,3,4,5,6,7,8,9,14,15,16,62] [] (fun _ => [((0 ≤ ((rv hs bl t).a : Int) ∧ ((rv hs bl t).a : Int) ≤ 4294967295) ∧ 0 ≤ ((rv hs bl t).b : Int) ∧ ((rv hs bl t).b : Int) ≤ 4294967295),((0 ≤ ((rv hs bl t).a : Int) ∧ ((rv hs bl t).a : Int) ≤ 4294967295) ∧ 0 ≤ ((rv hs bl t).c : Int) ∧ ((rv hs bl t).c : Int) ≤ 4294967295),((0 ≤ (((((rv hs bl t).a : Int)).toNat &&& (((rv hs bl t).b : Int)).toNat : Nat) : Int) ∧ (((((rv hs bl t).a : Int)).toNat &&& (((rv hs bl t).b : Int)).toNat : Nat) : Int) ≤ 4294967295) ∧ 0 ≤ (((((rv hs bl t).a : Int)).toNat &&& (((rv hs bl t).c : Int)).toNat : Nat) : Int) ∧ (((((rv hs bl t).a : Int)).toNat &&& (((rv hs bl t).c : Int)).toNat : Nat) : Int) ≤ 4294967295),((0 ≤ ((rv hs bl t).b : Int) ∧ ((rv hs bl t).b : Int) ≤ 4294967295) ∧ 0 ≤ ((rv hs bl t).c : Int) ∧ ((rv hs bl t).c : Int) ≤ 4294967295),((0 ≤ ((((((((rv hs bl t).a : Int)).toNat &&& (((rv hs bl t).b : Int)).toNat : Nat) : Int)).toNat ^^^ ((((((rv hs bl t).a : Int)).toNat &&& (((rv hs bl t).c : Int)).toNat : Nat) : Int)).toNat : Nat) : Int) ∧ ((((((((rv hs bl t).a : Int)).toNat &&& (((rv hs bl t).b : Int)).toNat : Nat) : Int)).toNat ^^^ ((((((rv hs bl t).a : Int)).toNat &&& (((rv hs bl t).c : Int)).toNat : Nat) : Int)).toNat : Nat) : Int) ≤ 4294967295) ∧ 0 ≤ (((((rv hs bl t).b : Int)).toNat &&& (((rv hs bl t).c : Int)).toNat : Nat) : Int) ∧ (((((rv hs bl t).b : Int)).toNat &&& (((rv hs bl t).c : Int)).toNat : Nat) : Int) ≤ 4294967295)]) ⟨⟨⟨Int.natCast_nonneg _,le_pow (b := 32) ok.a⟩,⟨Int.natCast_nonneg _,le_pow (b := 32) ok.b⟩⟩,⟨⟨Int.natCast_nonneg _,le_pow (b := 32) ok.a⟩,⟨Int.natCast_nonneg _,le_pow (b := 32) ok.c⟩⟩,⟨⟨Int.natCast_nonneg _,le_pow (b := 32) (Nat.and_lt_two_pow _ (tn_lt ok.b))⟩,⟨Int.natCast_nonneg _,le_pow (b := 32) (Nat.and_lt_two_pow _ (tn_lt ok.c))⟩⟩,⟨⟨Int.natCast_nonneg _,le_pow (b := 32) ok.b⟩,⟨Int.natCast_nonneg _,le_pow (b := 32) ok.c⟩⟩,⟨⟨Int.natCast_nonneg _,le_pow (b := 32) (Nat.xor_lt_two_pow (tn_lt (Nat.and_lt_two_pow _ (tn_lt ok.b))) (tn_lt (Nat.and_lt_two_pow _ (tn_lt ok.c))))⟩,⟨Int.natCast_nonneg _,le_pow (b := 32) (Nat.and_lt_two_pow _ (tn_lt ok.c))⟩⟩,trivial⟩ ?_
   refine Cg (Γ' := [(16,[],.int .u32 (((((((((((rv hs bl t).a : Int)).toNat &&& (((rv hs bl t).b : Int)).toNat : Nat) : Int)).toNat ^^^ ((((((rv hs bl t).a : Int)).toNat &&& (((rv hs bl t).c : Int)).toNat : Nat) : Int)).toNat : Nat) : Int)).toNat ^^^ ((((((rv hs bl t).b : Int)).toNat &&& (((rv hs bl t).c : Int)).toNat : Nat) : Int)).toNat : Nat) : Int)),(15,[],.int .u32 (bigA (rv hs bl t).a : Int)),(14,[],.int .u32 (frst (rg Kc t) (rg (row bl 64) t) (rv hs bl t) : Int)),(62,[],.int .i64 (t : Int)),(9,[],.int .u32 ((rv hs bl t).g : Int)),(8,[],.int .u32 ((rv hs bl t).f : Int)),(7,[],.int .u32 ((rv hs bl t).e : Int)),(6,[],.int .u32 ((rv hs bl t).d : Int)),(5,[],.int .u32 ((rv hs bl t).c : Int)),(4,[],.int .u32 ((rv hs bl t).b : Int)),(3,[],.int .u32 ((rv hs bl t).a : Int)),(2,[],.pointer (some ⟨xw,0,none⟩)),(0,[],.pointer (some ⟨b,0,none⟩))]) ?_
   refine Cfg.setG (congrArg (fun (xq : Int) => ([(16,[],.int .u32 xq),(15,[],.int .u32 (bigA (rv hs bl t).a : Int)),(14,[],.int .u32 (frst (rg Kc t) (rg (row bl 64) t) (rv hs bl t) : Int)),(62,[],.int .i64 (t : Int)),(9,[],.int .u32 ((rv hs bl t).g : Int)),(8,[],.int .u32 ((rv hs bl t).f : Int)),(7,[],.int .u32 ((rv hs bl t).e : Int)),(6,[],.int .u32 ((rv hs bl t).d : Int)),(5,[],.int .u32 ((rv hs bl t).c : Int)),(4,[],.int .u32 ((rv hs bl t).b : Int)),(3,[],.int .u32 ((rv hs bl t).a : Int)),(2,[],.pointer (some ⟨xw,0,none⟩)),(0,[],.pointer (some ⟨b,0,none⟩))] : Env)) (show _ = (most (rv hs bl t).a (rv hs bl t).b (rv hs bl t).c : Int) from most_eq _ _ _)) ?_
   refine Rg [0,2,3,4,5,6,7,8,9,14,17,62] [] n0 trivial ?_
   refine Cg (Γ' := [(17,[],.int .u32 (((bigA (rv hs bl t).a : Int) + (most (rv hs bl t).a (rv hs bl t).b (rv hs bl t).c : Int)) % 4294967296)),(14,[],.int .u32 (frst (rg Kc t) (rg (row bl 64) t) (rv hs bl t) : Int)),(62,[],.int .i64 (t : Int)),(9,[],.int .u32 ((rv hs bl t).g : Int)),(8,[],.int .u32 ((rv hs bl t).f : Int)),(7,[],.int .u32 ((rv hs bl t).e : Int)),(6,[],.int .u32 ((rv hs bl t).d : Int)),(5,[],.int .u32 ((rv hs bl t).c : Int)),(4,[],.int .u32 ((rv hs bl t).b : Int)),(3,[],.int .u32 ((rv hs bl t).a : Int)),(2,[],.pointer (some ⟨xw,0,none⟩)),(0,[],.pointer (some ⟨b,0,none⟩))]) ?_
   refine Cfg.setG (congrArg (fun (xq : Int) => ([(17,[],.int .u32 xq),(14,[],.int .u32 (frst (rg Kc t) (rg (row bl 64) t) (rv hs bl t) : Int)),(62,[],.int .i64 (t : Int)),(9,[],.int .u32 ((rv hs bl t).g : Int)),(8,[],.int .u32 ((rv hs bl t).f : Int)),(7,[],.int .u32 ((rv hs bl t).e : Int)),(6,[],.int .u32 ((rv hs bl t).d : Int)),(5,[],.int .u32 ((rv hs bl t).c : Int)),(4,[],.int .u32 ((rv hs bl t).b : Int)),(3,[],.int .u32 ((rv hs bl t).a : Int)),(2,[],.pointer (some ⟨xw,0,none⟩)),(0,[],.pointer (some ⟨b,0,none⟩))] : Env)) (show _ = (scnd (rv hs bl t) : Int) from scnd_eq _)) ?_
   refine Rg [0,2,3,4,5,7,8,9,10,14,17,62] [] n0 trivial ?_
   refine Rg [0,2,3,4,5,6,7,8,9,10,62] [] n0 trivial ?_
   refine Rg [0,2,3,4,5,6,7,8,9,10,62] [] (fun _ => [((-9223372036854775808 : Int) ≤ ((t : Int) + 1) ∧ ((t : Int) + 1) ≤ 9223372036854775807)]) ⟨om,trivial⟩ ?_
   refine Cg (Γ' := [(62,[],.int .i64 ((t : Int) + 1)),(3,[],.int .u32 (((frst (rg Kc t) (rg (row bl 64) t) (rv hs bl t) : Int) + (scnd (rv hs bl t) : Int)) % 4294967296)),(4,[],.int .u32 ((rv hs bl t).a : Int)),(5,[],.int .u32 ((rv hs bl t).b : Int)),(6,[],.int .u32 ((rv hs bl t).c : Int)),(7,[],.int .u32 ((((rv hs bl t).d : Int) + (frst (rg Kc t) (rg (row bl 64) t) (rv hs bl t) : Int)) % 4294967296)),(8,[],.int .u32 ((rv hs bl t).e : Int)),(9,[],.int .u32 ((rv hs bl t).f : Int)),(10,[],.int .u32 ((rv hs bl t).g : Int)),(2,[],.pointer (some ⟨xw,0,none⟩)),(0,[],.pointer (some ⟨b,0,none⟩))]) ?_
   refine Cfg.setG (congrArg (fun (xq : Int) => ([(62,[],.int .i64 ((t : Int) + 1)),(3,[],.int .u32 xq),(4,[],.int .u32 ((rv hs bl t).a : Int)),(5,[],.int .u32 ((rv hs bl t).b : Int)),(6,[],.int .u32 ((rv hs bl t).c : Int)),(7,[],.int .u32 ((((rv hs bl t).d : Int) + (frst (rg Kc t) (rg (row bl 64) t) (rv hs bl t) : Int)) % 4294967296)),(8,[],.int .u32 ((rv hs bl t).e : Int)),(9,[],.int .u32 ((rv hs bl t).f : Int)),(10,[],.int .u32 ((rv hs bl t).g : Int)),(2,[],.pointer (some ⟨xw,0,none⟩)),(0,[],.pointer (some ⟨b,0,none⟩))] : Env)) (show _ = ((rv hs bl (t + 1)).a : Int) from rv_a hs bl t)) ?_
   refine Cg (Γ' := [(62,[],.int .i64 ((t : Int) + 1)),(3,[],.int .u32 ((rv hs bl (t + 1)).a : Int)),(4,[],.int .u32 ((rv hs bl t).a : Int)),(5,[],.int .u32 ((rv hs bl t).b : Int)),(6,[],.int .u32 ((rv hs bl t).c : Int)),(7,[],.int .u32 ((((rv hs bl t).d : Int) + (frst (rg Kc t) (rg (row bl 64) t) (rv hs bl t) : Int)) % 4294967296)),(8,[],.int .u32 ((rv hs bl t).e : Int)),(9,[],.int .u32 ((rv hs bl t).f : Int)),(10,[],.int .u32 ((rv hs bl t).g : Int)),(2,[],.pointer (some ⟨xw,0,none⟩)),(0,[],.pointer (some ⟨b,0,none⟩))]) ?_
   refine Cfg.setG (congrArg (fun (xq : Int) => ([(62,[],.int .i64 ((t : Int) + 1)),(3,[],.int .u32 ((rv hs bl (t + 1)).a : Int)),(4,[],.int .u32 xq),(5,[],.int .u32 ((rv hs bl t).b : Int)),(6,[],.int .u32 ((rv hs bl t).c : Int)),(7,[],.int .u32 ((((rv hs bl t).d : Int) + (frst (rg Kc t) (rg (row bl 64) t) (rv hs bl t) : Int)) % 4294967296)),(8,[],.int .u32 ((rv hs bl t).e : Int)),(9,[],.int .u32 ((rv hs bl t).f : Int)),(10,[],.int .u32 ((rv hs bl t).g : Int)),(2,[],.pointer (some ⟨xw,0,none⟩)),(0,[],.pointer (some ⟨b,0,none⟩))] : Env)) (show _ = ((rv hs bl (t + 1)).b : Int) from rv_b hs bl t)) ?_
   refine Cg (Γ' := [(62,[],.int .i64 ((t : Int) + 1)),(3,[],.int .u32 ((rv hs bl (t + 1)).a : Int)),(4,[],.int .u32 ((rv hs bl (t + 1)).b : Int)),(5,[],.int .u32 ((rv hs bl t).b : Int)),(6,[],.int .u32 ((rv hs bl t).c : Int)),(7,[],.int .u32 ((((rv hs bl t).d : Int) + (frst (rg Kc t) (rg (row bl 64) t) (rv hs bl t) : Int)) % 4294967296)),(8,[],.int .u32 ((rv hs bl t).e : Int)),(9,[],.int .u32 ((rv hs bl t).f : Int)),(10,[],.int .u32 ((rv hs bl t).g : Int)),(2,[],.pointer (some ⟨xw,0,none⟩)),(0,[],.pointer (some ⟨b,0,none⟩))]) ?_
   refine Cfg.setG (congrArg (fun (xq : Int) => ([(62,[],.int .i64 ((t : Int) + 1)),(3,[],.int .u32 ((rv hs bl (t + 1)).a : Int)),(4,[],.int .u32 ((rv hs bl (t + 1)).b : Int)),(5,[],.int .u32 xq),(6,[],.int .u32 ((rv hs bl t).c : Int)),(7,[],.int .u32 ((((rv hs bl t).d : Int) + (frst (rg Kc t) (rg (row bl 64) t) (rv hs bl t) : Int)) % 4294967296)),(8,[],.int .u32 ((rv hs bl t).e : Int)),(9,[],.int .u32 ((rv hs bl t).f : Int)),(10,[],.int .u32 ((rv hs bl t).g : Int)),(2,[],.pointer (some ⟨xw,0,none⟩)),(0,[],.pointer (some ⟨b,0,none⟩))] : Env)) (show _ = ((rv hs bl (t + 1)).c : Int) from rv_c hs bl t)) ?_
   refine Cg (Γ' := [(62,[],.int .i64 ((t : Int) + 1)),(3,[],.int .u32 ((rv hs bl (t + 1)).a : Int)),(4,[],.int .u32 ((rv hs bl (t + 1)).b : Int)),(5,[],.int .u32 ((rv hs bl (t + 1)).c : Int)),(6,[],.int .u32 ((rv hs bl t).c : Int)),(7,[],.int .u32 ((((rv hs bl t).d : Int) + (frst (rg Kc t) (rg (row bl 64) t) (rv hs bl t) : Int)) % 4294967296)),(8,[],.int .u32 ((rv hs bl t).e : Int)),(9,[],.int .u32 ((rv hs bl t).f : Int)),(10,[],.int .u32 ((rv hs bl t).g : Int)),(2,[],.pointer (some ⟨xw,0,none⟩)),(0,[],.pointer (some ⟨b,0,none⟩))]) ?_
   refine Cfg.setG (congrArg (fun (xq : Int) => ([(62,[],.int .i64 ((t : Int) + 1)),(3,[],.int .u32 ((rv hs bl (t + 1)).a : Int)),(4,[],.int .u32 ((rv hs bl (t + 1)).b : Int)),(5,[],.int .u32 ((rv hs bl (t + 1)).c : Int)),(6,[],.int .u32 xq),(7,[],.int .u32 ((((rv hs bl t).d : Int) + (frst (rg Kc t) (rg (row bl 64) t) (rv hs bl t) : Int)) % 4294967296)),(8,[],.int .u32 ((rv hs bl t).e : Int)),(9,[],.int .u32 ((rv hs bl t).f : Int)),(10,[],.int .u32 ((rv hs bl t).g : Int)),(2,[],.pointer (some ⟨xw,0,none⟩)),(0,[],.pointer (some ⟨b,0,none⟩))] : Env)) (show _ = ((rv hs bl (t + 1)).d : Int) from rv_d hs bl t)) ?_
   refine Cg (Γ' := [(62,[],.int .i64 ((t : Int) + 1)),(3,[],.int .u32 ((rv hs bl (t + 1)).a : Int)),(4,[],.int .u32 ((rv hs bl (t + 1)).b : Int)),(5,[],.int .u32 ((rv hs bl (t + 1)).c : Int)),(6,[],.int .u32 ((rv hs bl (t + 1)).d : Int)),(7,[],.int .u32 ((((rv hs bl t).d : Int) + (frst (rg Kc t) (rg (row bl 64) t) (rv hs bl t) : Int)) % 4294967296)),(8,[],.int .u32 ((rv hs bl t).e : Int)),(9,[],.int .u32 ((rv hs bl t).f : Int)),(10,[],.int .u32 ((rv hs bl t).g : Int)),(2,[],.pointer (some ⟨xw,0,none⟩)),(0,[],.pointer (some ⟨b,0,none⟩))]) ?_
   refine Cfg.setG (congrArg (fun (xq : Int) => ([(62,[],.int .i64 ((t : Int) + 1)),(3,[],.int .u32 ((rv hs bl (t + 1)).a : Int)),(4,[],.int .u32 ((rv hs bl (t + 1)).b : Int)),(5,[],.int .u32 ((rv hs bl (t + 1)).c : Int)),(6,[],.int .u32 ((rv hs bl (t + 1)).d : Int)),(7,[],.int .u32 xq),(8,[],.int .u32 ((rv hs bl t).e : Int)),(9,[],.int .u32 ((rv hs bl t).f : Int)),(10,[],.int .u32 ((rv hs bl t).g : Int)),(2,[],.pointer (some ⟨xw,0,none⟩)),(0,[],.pointer (some ⟨b,0,none⟩))] : Env)) (show _ = ((rv hs bl (t + 1)).e : Int) from rv_e hs bl t)) ?_
   refine Cg (Γ' := [(62,[],.int .i64 ((t : Int) + 1)),(3,[],.int .u32 ((rv hs bl (t + 1)).a : Int)),(4,[],.int .u32 ((rv hs bl (t + 1)).b : Int)),(5,[],.int .u32 ((rv hs bl (t + 1)).c : Int)),(6,[],.int .u32 ((rv hs bl (t + 1)).d : Int)),(7,[],.int .u32 ((rv hs bl (t + 1)).e : Int)),(8,[],.int .u32 ((rv hs bl t).e : Int)),(9,[],.int .u32 ((rv hs bl t).f : Int)),(10,[],.int .u32 ((rv hs bl t).g : Int)),(2,[],.pointer (some ⟨xw,0,none⟩)),(0,[],.pointer (some ⟨b,0,none⟩))]) ?_
   refine Cfg.setG (congrArg (fun (xq : Int) => ([(62,[],.int .i64 ((t : Int) + 1)),(3,[],.int .u32 ((rv hs bl (t + 1)).a : Int)),(4,[],.int .u32 ((rv hs bl (t + 1)).b : Int)),(5,[],.int .u32 ((rv hs bl (t + 1)).c : Int)),(6,[],.int .u32 ((rv hs bl (t + 1)).d : Int)),(7,[],.int .u32 ((rv hs bl (t + 1)).e : Int)),(8,[],.int .u32 xq),(9,[],.int .u32 ((rv hs bl t).f : Int)),(10,[],.int .u32 ((rv hs bl t).g : Int)),(2,[],.pointer (some ⟨xw,0,none⟩)),(0,[],.pointer (some ⟨b,0,none⟩))] : Env)) (show _ = ((rv hs bl (t + 1)).f : Int) from rv_f hs bl t)) ?_
   refine Cg (Γ' := [(62,[],.int .i64 ((t : Int) + 1)),(3,[],.int .u32 ((rv hs bl (t + 1)).a : Int)),(4,[],.int .u32 ((rv hs bl (t + 1)).b : Int)),(5,[],.int .u32 ((rv hs bl (t + 1)).c : Int)),(6,[],.int .u32 ((rv hs bl (t + 1)).d : Int)),(7,[],.int .u32 ((rv hs bl (t + 1)).e : Int)),(8,[],.int .u32 ((rv hs bl (t + 1)).f : Int)),(9,[],.int .u32 ((rv hs bl t).f : Int)),(10,[],.int .u32 ((rv hs bl t).g : Int)),(2,[],.pointer (some ⟨xw,0,none⟩)),(0,[],.pointer (some ⟨b,0,none⟩))]) ?_
   refine Cfg.setG (congrArg (fun (xq : Int) => ([(62,[],.int .i64 ((t : Int) + 1)),(3,[],.int .u32 ((rv hs bl (t + 1)).a : Int)),(4,[],.int .u32 ((rv hs bl (t + 1)).b : Int)),(5,[],.int .u32 ((rv hs bl (t + 1)).c : Int)),(6,[],.int .u32 ((rv hs bl (t + 1)).d : Int)),(7,[],.int .u32 ((rv hs bl (t + 1)).e : Int)),(8,[],.int .u32 ((rv hs bl (t + 1)).f : Int)),(9,[],.int .u32 xq),(10,[],.int .u32 ((rv hs bl t).g : Int)),(2,[],.pointer (some ⟨xw,0,none⟩)),(0,[],.pointer (some ⟨b,0,none⟩))] : Env)) (show _ = ((rv hs bl (t + 1)).g : Int) from rv_g hs bl t)) ?_
   refine Cg (Γ' := [(62,[],.int .i64 ((t : Int) + 1)),(3,[],.int .u32 ((rv hs bl (t + 1)).a : Int)),(4,[],.int .u32 ((rv hs bl (t + 1)).b : Int)),(5,[],.int .u32 ((rv hs bl (t + 1)).c : Int)),(6,[],.int .u32 ((rv hs bl (t + 1)).d : Int)),(7,[],.int .u32 ((rv hs bl (t + 1)).e : Int)),(8,[],.int .u32 ((rv hs bl (t + 1)).f : Int)),(9,[],.int .u32 ((rv hs bl (t + 1)).g : Int)),(10,[],.int .u32 ((rv hs bl t).g : Int)),(2,[],.pointer (some ⟨xw,0,none⟩)),(0,[],.pointer (some ⟨b,0,none⟩))]) ?_
   refine Cfg.setG (congrArg (fun (xq : Int) => ([(62,[],.int .i64 ((t : Int) + 1)),(3,[],.int .u32 ((rv hs bl (t + 1)).a : Int)),(4,[],.int .u32 ((rv hs bl (t + 1)).b : Int)),(5,[],.int .u32 ((rv hs bl (t + 1)).c : Int)),(6,[],.int .u32 ((rv hs bl (t + 1)).d : Int)),(7,[],.int .u32 ((rv hs bl (t + 1)).e : Int)),(8,[],.int .u32 ((rv hs bl (t + 1)).f : Int)),(9,[],.int .u32 ((rv hs bl (t + 1)).g : Int)),(10,[],.int .u32 xq),(2,[],.pointer (some ⟨xw,0,none⟩)),(0,[],.pointer (some ⟨b,0,none⟩))] : Env)) (show _ = ((rv hs bl (t + 1)).h : Int) from rv_h hs bl t)) ?_
   refine Cfg.again rfl (t + 1) (by show t + 1 ≤ 64; omega) (by show 64 - (t + 1) < 64 - t; omega) (Conv.mk kr) (.cons_cons _ (.cons_cons _ .slnil))
  ·have c1 := (of_decide_eq_false c1r)
   refine Rg [0,137,138] [dZ,dZ,dZ,dZ,dZ,dZ,dZ,dZ,(0,false,some (.agg (wv (w8l (rv hs bl t)))))] (fun S => [(∀ w1,S w1 → (Instr.build 173 #[(0,.int .u32 ((rv hs bl t).a : Int)),(1,.int .u32 ((rv hs bl t).b : Int)),(2,.int .u32 ((rv hs bl t).c : Int)),(3,.int .u32 ((rv hs bl t).d : Int)),(4,.int .u32 ((rv hs bl t).e : Int)),(5,.int .u32 ((rv hs bl t).f : Int)),(6,.int .u32 ((rv hs bl t).g : Int)),(7,.int .u32 ((rv hs bl t).h : Int))]).run Tryz.prog w1 = .ok (.agg (wv (w8l (rv hs bl t)))) w1)]) ⟨(fun _ _ => kr),trivial⟩ ?_
   refine Cfg.loop rfl (ι := Nat) (fun (k : Nat) => [(138,[],.int .i64 (k : Int)),(137,[],.agg (wv (w8l (rv hs bl t)))),(0,[],.pointer (some ⟨b,0,none⟩))]) (fun (k : Nat) => [(xw,.cells (wv (row bl 64)) 187 (0,0)),(b,.cells (stC (sm hs (w8l (rv hs bl t)) k) bl held total) 176 (0,0))]) (fun (k : Nat) => (k ≤ 8)) (fun (k : Nat) => 8 - k) 0 ?_ (Conv.mk kr) (.cons_cons _ (.cons_cons _ .slnil)) ?_
   ·exact Nat.zero_le _
   ·rintro k hk
    refine Rg [0,137,138,139] [] n0 trivial ?_
    refine Cfg.cond rfl (b := (decide ((k : Int) < (8 : Int)))) kr (fun c2r => ?_) (fun c2r => ?_)
    ·have c2 := (of_decide_eq_true c2r)
     refine Rg [0,18,19,137,138] [dZ,(0,false,some (.int .u32 (rg (w8l (rv hs bl t)) k : Int)))] (fun _ => [(0 ≤ (k : Int) ∧ (k : Int) < (8 : Int)),(((wv (w8l (rv hs bl t))))[k]? = some (.int .u32 (rg (w8l (rv hs bl t)) k : Int)))]) ⟨om,(wv_get (w8l_len _) om),trivial⟩ ?_
     refine Cfg.begA rfl kr [(xw,.cells (wv (row bl 64)) 187 (0,0))] ?_
     refine Ap [0,1,2,3,4,6,8,9] [] (some [0,137,138,143,146,148,151]) #[true,true,true,true,true,false,true,false,true,true,false,false] (.cons_cons _ (.cons _ .slnil)) 4 (fun _ => [(0 ≤ (k : Int) ∧ (k : Int) < (8 : Int))]) ⟨om,trivial⟩ ?_
     refine Ae 5 rfl 3  (Eff.quiet (raw := false) (orc := some (.int .u32 (rg (sm hs (w8l (rv hs bl t)) k) k : Int))) (v := .int .u32 (rg (sm hs (w8l (rv hs bl t)) k) k : Int)) (nd := (fun S => [(∀ w1,S w1 → w1.cell? ⟨b,k,none⟩ = some (.int .u32 (rg (sm hs (w8l (rv hs bl t)) k) k : Int)))])) (fun _ => kr) ⟨(fun w1 h => h.ocell 1 rfl (st_sum (sm_len _ hh k) om)),trivial⟩ kr) (fun _ _ => (.cons_cons _ (.cons _ .slnil))) ?_
     rintro ⟨⟩ -
     refine Ap [7,10] [] (some [0,137,138,149,152]) #[true,true,true,true,true,true,true,true,true,true,true,false] (.cons_cons _ (.cons _ .slnil)) 1 (fun _ => [(0 ≤ (k : Int) ∧ (k : Int) < (8 : Int))]) ⟨om,trivial⟩ ?_
     refine Ae 11 rfl 0  (Eff.store1 (b := b) (off := k) (v := .int .u32 (((rg (sm hs (w8l (rv hs bl t)) k) k : Int) + (rg (w8l (rv hs bl t)) k : Int)) % 4294967296)) rfl kr kr rfl kr 1 (cs := (stC (sm hs (w8l (rv hs bl t)) k) bl held total)) (e := 176) kr (by rw [st_size (sm_len _ hh k) hb]; omega)) (fun _ _ => (.cons_cons _ (.cons _ .slnil))) ?_
     rintro ⟨⟩ -
     refine CfgA.done kr ?_
     refine Cg (Γ' := [(138,[],.int .i64 (k : Int)),(137,[],.agg (wv (w8l (rv hs bl t)))),(0,[],.pointer (some ⟨b,0,none⟩))]) ?_
     refine Rg [0,137,138] [] (fun _ => [((-9223372036854775808 : Int) ≤ ((k : Int) + 1) ∧ ((k : Int) + 1) ≤ 9223372036854775807)]) ⟨om,trivial⟩ ?_
     refine Cfg.setO (congrArg (fun (xq : Array Value) => ([(xw,.cells (wv (row bl 64)) 187 (0,0)),(b,.cells xq 176 (0,0))] : List (Nat × Obj))) (show _ = (stC (sm hs (w8l (rv hs bl t)) (k + 1)) bl held total) from sm_step hh om)) ?_
     refine Cfg.again rfl (k + 1) (by show k + 1 ≤ 8; omega) (by show 8 - (k + 1) < 8 - k; omega) (Conv.mk kr) (.cons_cons _ (.cons_cons _ .slnil))
    ·have c2 := (of_decide_eq_false c2r)
     refine Cfg.fin rfl (rs := []) rfl [] trivial (fun w1 hp => ?_)
     obtain rfl : t = 64 := by omega
     obtain rfl : k = 8 := by omega
     exact ⟨rfl,hp.ext,hp.own (b,_) (List.mem_cons_of_mem _ (List.mem_cons_self ..))⟩
end Go.Proofs.YtohjpggjgomgoaaGreatDoor
namespace Go.Proofs.YtohjpggjgomgoaaGreatDoor
open K
set_option linter.unusedVariables false
set_option maxRecDepth 100000 in
theorem shaWrite (b : Nat) (z : Sh) (total : Nat) (s : ByteArray) {kt : Array Value} {t0 : TypeId} {fr0 : Nat × Nat} (w : World) (hx : z.Ok) (hR : Has w [(0,.cells kt t0 fr0)]) (hS : w.heap[b]? = some (.cells (stC z.hs z.bl z.held total) 176 (0,0))) (hne : b ≠ 0) (hK : KT kt := by assumption) :
  Calls Tryz.prog 81 #[.pointer (some ⟨b,0,none⟩),.string s] w fun e w' => e = .returned (.tuple #[]) ∧ Ext [b] w w' ∧ w'.heap[b]? = some (.cells (stC (feed z s.data.toList).hs (feed z s.data.toList).bl (feed z s.data.toList).held ((total + s.size) % 18446744073709551616)) 176 (0,0)) := by
 refine enter (vs := [.pointer (some ⟨b,0,none⟩),.string s]) [b] [(0,.cells kt t0 fr0)] [(b,.cells (stC z.hs z.bl z.held total) 176 (0,0))] Tryz.func81 rfl kr (HP.startM hR hS (by simpa using hne)) ?_
 refine Cfg.begL rfl ?_
 refine Lp 10 [dZ,dZ,dZ,(0,false,some (.int .u64 (total : Int)))] (some [0,1,12,14]) (fun S => [(∀ w1,S w1 → w1.cell? ⟨b,73,none⟩ = some (.int .u64 (total : Int)))]) ⟨(fun w1 h => h.ocell 0 rfl (st_total hx.hh hx.hb)),trivial⟩ ?_
 refine Le (Eff.store1 (b := b) (off := 73) (v := .int .u64 (((total : Int) + ((s.size : Int) % 18446744073709551616)) % 18446744073709551616)) rfl kr kr rfl kr 0 (cs := (stC z.hs z.bl z.held total)) (e := 176) kr (by rw [st_size hx.hh hx.hb]; omega)) ?_
 rintro ⟨⟩ -
 refine CfgL.done rfl ?_
 refine Cg (Γ' := [(0,[],.pointer (some ⟨b,0,none⟩)),(1,[],.string s)]) ?_
 refine Cfg.setO (congrArg (fun (xq : Array Value) => ([(b,.cells xq 176 (0,0))] : List (Nat × Obj))) (show _ = (stC z.hs z.bl z.held ((total + s.size) % 18446744073709551616)) from st_setTotal hx.hh hx.hb om)) ?_
 refine Cfg.loop rfl (ι := ByteArray × Sh) (fun (xz : ByteArray × Sh) => match xz with | (p,y) => [(0,[],.pointer (some ⟨b,0,none⟩)),(1,[],.string p)]) (fun (xz : ByteArray × Sh) => match xz with | (p,y) => [(b,.cells (stC y.hs y.bl y.held ((total + s.size) % 18446744073709551616)) 176 (0,0))]) (fun (xz : ByteArray × Sh) => match xz with | (p,y) => (y.Ok) ∧ (feed y p.data.toList = feed z s.data.toList)) (fun (xz : ByteArray × Sh) => match xz with | (p,y) => p.size) (s,z) ?_ (Conv.mk kr) (.cons_cons _ .slnil) ?_
 ·exact ⟨hx,rfl⟩
 ·rintro ⟨p,y⟩ ⟨oky,hf⟩
  obtain ⟨hs,bl,held⟩ := y
  obtain ⟨hh,hb,hlt,hld⟩ := oky
  dsimp only at hh hb hlt hld
  have hcn : cn p held = min p.size (64 - held) := rfl
  refine Rg [0,1,17] [] n0 trivial ?_
  refine Cfg.cond rfl (b := (decide ((p.size : Int) > (0 : Int)))) kr (fun c1r => ?_) (fun c1r => ?_)
  ·have c1 := (of_decide_eq_true c1r)
   refine Cfg.begA rfl kr [] ?_
   refine Ap [0,1,2,3,4,5,8] [] (some [0,1,20,23,26]) #[true,true,true,true,true,true,false,false,true,false,false] (.cons _ .slnil) 4 n0 trivial ?_
   refine Ae 6 rfl 3  (Eff.quiet (raw := false) (orc := some (.int .i64 (held : Int))) (v := .int .i64 (held : Int)) (nd := (fun S => [(∀ w1,S w1 → w1.cell? ⟨b,72,none⟩ = some (.int .i64 (held : Int)))])) (fun _ => kr) ⟨(fun w1 h => h.ocell 0 rfl (st_held hh hb)),trivial⟩ kr) (fun _ _ => List.nil_sublist _) ?_
   rintro ⟨⟩ -
   refine Ap [7] [] (some [0,1,25,26]) #[true,true,true,true,true,true,true,true,true,false,false] (.cons _ .slnil) 2 (fun _ => [(0 ≤ (held : Int)),(held ≤ 64 ∧ 64 ≤ 64)]) ⟨om,om,trivial⟩ ?_
   refine Ae 9 rfl 1  (Eff.copyS rfl Tryz.underlying26 kr (b := b) (off := (if 64 = held then 8 else (addO 8 held))) (dl := ((64 - held))) (c := ((64 - held))) kr (s := p) kr 0 (cs := (stC hs bl held ((total + s.size) % 18446744073709551616))) (te := 176) kr (cn p held) rfl (by rw [off_eq hld,st_size hh hb]; omega)) (fun _ _ => List.nil_sublist _) ?_
   rintro ⟨⟩ -
   refine Ap [10] [] (some [0,1,4]) #[true,true,true,true,true,true,true,true,true,true,true] (.cons _ .slnil) 0 n0 trivial ?_
   refine CfgA.done kr ?_
   refine Cfg.setO (congrArg (fun (xq : Array Value) => ([(b,.cells xq 176 (0,0))] : List (Nat × Obj))) (show _ = (stC hs (lay bl held (p.data.toList.take (cn p held))) held ((total + s.size) % 18446744073709551616)) from by rw [off_eq hld]; exact spl_lay _ hh hb (by rw [part_len om]; omega))) ?_
   refine Rg [0,1,4] [] (fun _ => [(0 ≤ ((cn p held) : Int)),(((cn p held)) ≤ p.size ∧ p.size ≤ p.size)]) ⟨om,om,trivial⟩ ?_
   refine Cfg.begL rfl ?_
   refine Lp 8 [dZ,dZ,dZ,(0,false,some (.int .i64 (held : Int)))] (some [0,1,36,38]) (fun S => [(∀ w1,S w1 → w1.cell? ⟨b,72,none⟩ = some (.int .i64 (held : Int))),((-9223372036854775808 : Int) ≤ ((held : Int) + ((cn p held) : Int)) ∧ ((held : Int) + ((cn p held) : Int)) ≤ 9223372036854775807)]) ⟨(fun w1 h => h.ocell 0 rfl (st_held hh ((lay_len _ _ _).trans hb))),om,trivial⟩ ?_
   refine Le (Eff.store1 (b := b) (off := 72) (v := .int .i64 ((held : Int) + ((cn p held) : Int))) rfl kr kr rfl kr 0 (cs := (stC hs (lay bl held (p.data.toList.take (cn p held))) held ((total + s.size) % 18446744073709551616))) (e := 176) kr (by rw [st_size hh ((lay_len _ _ _).trans hb)]; omega)) ?_
   rintro ⟨⟩ -
   refine CfgL.done rfl ?_
   refine Cg (Γ' := [(1,[],.string (p.extract (((cn p held))) p.size)),(0,[],.pointer (some ⟨b,0,none⟩))]) ?_
   refine Cfg.setO (congrArg (fun (xq : Array Value) => ([(b,.cells xq 176 (0,0))] : List (Nat × Obj))) (show _ = (stC hs (lay bl held (p.data.toList.take (cn p held))) (held + (cn p held)) ((total + s.size) % 18446744073709551616)) from st_setHeld hh ((lay_len _ _ _).trans hb) om)) ?_
   refine Rg [0,1,43] [dZ,dZ,dZ,(0,false,some (.int .i64 ((held + (cn p held)) : Int)))] (fun S => [(∀ w1,S w1 → w1.cell? ⟨b,72,none⟩ = some (.int .i64 ((held + (cn p held)) : Int)))]) ⟨(fun w1 h => h.ocell 0 rfl (st_held hh ((lay_len _ _ _).trans hb))),trivial⟩ ?_
   refine Cfg.cond rfl (b := (((held + (cn p held)) : Int) == (64 : Int))) kr (fun c2r => ?_) (fun c2r => ?_)
   ·have c2 := (beq_iff_eq.1 c2r)
    refine Cfg.begL rfl ?_
    refine Lp 1 [] (some [0,1,44]) n0 trivial ?_
    refine Le (Eff.callM (vs := [.pointer (some ⟨b,0,none⟩)]) (.tuple #[]) 0 (b := b) (ob := .cells (stC hs (lay bl held (p.data.toList.take (cn p held))) (held + (cn p held)) ((total + s.size) % 18446744073709551616)) 176 (0,0)) (.cells (stC (mixF hs (lay bl held (p.data.toList.take (cn p held)))) (lay bl held (p.data.toList.take (cn p held))) (held + (cn p held)) ((total + s.size) % 18446744073709551616)) 176 (0,0)) rfl Tryz.func102 rfl rfl kr kr (fun w1 h => shaMix b hs (lay bl held (p.data.toList.take (cn p held))) (held + (cn p held)) ((total + s.size) % 18446744073709551616) w1 hh ((lay_len _ _ _).trans hb) hlt (h.hasR (fun e he => he)) (h.own _ (List.mem_cons_self ..)) hne)) ?_
    rintro ⟨⟩ -
    refine CfgL.done rfl ?_
    refine Cg (Γ' := [(1,[],.string (p.extract (((cn p held))) p.size)),(0,[],.pointer (some ⟨b,0,none⟩))]) ?_
    refine Cfg.begL rfl ?_
    refine Lp 3 [] (some [0,1,48]) n0 trivial ?_
    refine Le (Eff.store1 (b := b) (off := 72) (v := .int .i64 0) rfl kr kr rfl kr 0 (cs := (stC (mixF hs (lay bl held (p.data.toList.take (cn p held)))) (lay bl held (p.data.toList.take (cn p held))) (held + (cn p held)) ((total + s.size) % 18446744073709551616))) (e := 176) kr (by rw [st_size (mixF_len _ hh) ((lay_len _ _ _).trans hb)]; omega)) ?_
    rintro ⟨⟩ -
    refine CfgL.done rfl ?_
    refine Cg (Γ' := [(1,[],.string (p.extract (((cn p held))) p.size)),(0,[],.pointer (some ⟨b,0,none⟩))]) ?_
    have hfull : held + (cn p held) = 64 := by omega
    have hfd := feed_full (p.data.toList.take (cn p held)) hs bl held hld (by rw [part_len om]; omega)
    refine Cfg.setO (congrArg (fun (xq : Array Value) => ([(b,.cells xq 176 (0,0))] : List (Nat × Obj))) (show _ = (stC (mixF hs (lay bl held (p.data.toList.take (cn p held)))) (lay bl held (p.data.toList.take (cn p held))) 0 ((total + s.size) % 18446744073709551616)) from st_setHeld (mixF_len _ hh) ((lay_len _ _ _).trans hb) rfl)) ?_
    refine Cfg.again rfl (p.extract (cn p held) p.size,⟨mixF hs (lay bl held (p.data.toList.take (cn p held))),(lay bl held (p.data.toList.take (cn p held))),0⟩) ⟨by rw [← hfd]; exact feed_ok _ ⟨hh,hb,hlt,hld⟩,by rw [← hfd,feed_ext]; exact hf⟩ (by show (p.extract (cn p held) p.size).size < p.size; rw [ext_size _ _ om]; omega) (Conv.mk kr) (.cons_cons _ .slnil)
   ·have c2 := (beq_eq_false_iff_ne.1 c2r)
    have hpart : held + (cn p held) < 64 := by omega
    have hfd := feed_part (p.data.toList.take (cn p held)) hs bl held (by rw [part_len om]; omega)
    rw [part_len om] at hfd
    refine Cfg.again rfl (p.extract (cn p held) p.size,⟨hs,(lay bl held (p.data.toList.take (cn p held))),held + (cn p held)⟩) ⟨by rw [← hfd]; exact feed_ok _ ⟨hh,hb,hlt,hld⟩,by rw [← hfd,feed_ext]; exact hf⟩ (by show (p.extract (cn p held) p.size).size < p.size; rw [ext_size _ _ om]; omega) (Conv.mk kr) (.cons_cons _ .slnil)
  ·have c1 := (of_decide_eq_false c1r)
   refine Cfg.fin rfl (rs := []) rfl [] trivial (fun w1 hp => ?_)
   have hp0 : p.size = 0 := by omega
   have hnil : p.data.toList = [] := List.eq_nil_of_length_eq_zero (by simpa using hp0)
   rw [hnil,feed_nil] at hf
   rw [← hf]
   exact ⟨rfl,hp.ext,hp.own (b,_) (List.mem_cons_self ..)⟩
end Go.Proofs.YtohjpggjgomgoaaGreatDoor
namespace Go.Proofs.YtohjpggjgomgoaaGreatDoor
open K
set_option linter.unusedVariables false
theorem shaWrite1 (b : Nat) (z : Sh) (total : Nat) (c : UInt8) {kt : Array Value} {t0 : TypeId} {fr0 : Nat × Nat} (w : World) (hx : z.Ok) (hR : Has w [(0,.cells kt t0 fr0)]) (hS : w.heap[b]? = some (.cells (stC z.hs z.bl z.held total) 176 (0,0))) (hne : b ≠ 0) (hK : KT kt := by assumption) :
  Calls Tryz.prog 81 #[.pointer (some ⟨b,0,none⟩),.string ⟨#[c]⟩] w fun e w' => e = .returned (.tuple #[]) ∧ Ext [b] w w' ∧ w'.heap[b]? = some (.cells (stC (feedB z c).hs (feedB z c).bl (feedB z c).held ((total + 1) % 18446744073709551616)) 176 (0,0)) :=
 shaWrite b z total ⟨#[c]⟩ w hx hR hS hne
set_option maxRecDepth 100000 in
theorem shaEndC (b : Nat) (z : Sh) (total : Nat) {kt : Array Value} {t0 : TypeId} {fr0 : Nat × Nat} (w : World) (hx : z.Ok) (hR : Has w [(0,.cells kt t0 fr0)]) (hS : w.heap[b]? = some (.cells (stC z.hs z.bl z.held total) 176 (0,0))) (hne : b ≠ 0) (hK : KT kt := by assumption) :
  Calls Tryz.prog 82 #[.pointer (some ⟨b,0,none⟩)] w fun e w' => e = .returned (.agg (bv (shaEnd z total))) ∧ Ext [b] w w' := by
 refine enter (vs := [.pointer (some ⟨b,0,none⟩)]) [b] [(0,.cells kt t0 fr0)] [(b,.cells (stC z.hs z.bl z.held total) 176 (0,0))] Tryz.func82 rfl kr (HP.startM hR hS (by simpa using hne)) ?_
 refine Cfg.begL rfl ?_
 refine Le (Eff.alloc (z := (.agg (bv (List.replicate 32 0)))) rfl kr) ?_
 rintro r ⟨hr,nr⟩
 refine CfgL.done rfl ?_
 refine Rg [0,2,3] [dZ,dZ,dZ,(0,false,some (.int .u64 (total : Int)))] (fun S => [(∀ w1,S w1 → w1.cell? ⟨b,73,none⟩ = some (.int .u64 (total : Int)))]) ⟨(fun w1 h => h.ocell 1 rfl (st_total hx.hh hx.hb)),trivial⟩ ?_
 refine Cg (Γ' := [(3,[],.int .u64 (((total : Int) * 8) % 18446744073709551616)),(2,[],.pointer (some ⟨r,0,none⟩)),(0,[],.pointer (some ⟨b,0,none⟩))]) ?_
 refine Cfg.setG (congrArg (fun (xq : Int) => ([(3,[],.int .u64 xq),(2,[],.pointer (some ⟨r,0,none⟩)),(0,[],.pointer (some ⟨b,0,none⟩))] : Env)) (show _ = (lb total : Int) from lb_eq total)) ?_
 refine Cfg.begL rfl ?_
 refine Lp 1 [] none n0 trivial ?_
 refine Le (Eff.callM (vs := [.pointer (some ⟨b,0,none⟩),.string ⟨#[128]⟩]) (.tuple #[]) 1 (b := b) (ob := .cells (stC z.hs z.bl z.held total) 176 (0,0)) (.cells (stC (feedB z 128).hs (feedB z 128).bl (feedB z 128).held ((total + 1) % 18446744073709551616)) 176 (0,0)) rfl Tryz.func81 rfl rfl kr kr (fun w1 h => shaWrite1 b z total 128 w1 hx (h.hasR (fun e he => he)) (h.own _ (List.mem_of_getElem? (i := 1) rfl)) hne)) ?_
 rintro ⟨⟩ -
 refine CfgL.done rfl ?_
 refine Cg (Γ' := [(3,[],.int .u64 (lb total : Int)),(2,[],.pointer (some ⟨r,0,none⟩)),(0,[],.pointer (some ⟨b,0,none⟩))]) ?_
 refine Cfg.setO (congrArg (fun (xq : Array Value) => ([(r,.cells (bv (List.replicate 32 0)) 95 (0,0)),(b,.cells xq 176 (0,0))] : List (Nat × Obj))) (show _ = (stC (pz z 0).hs (pz z 0).bl (pz z 0).held (tj total 0)) from by rw [pz_zero,tj_zero])) ?_
 refine Cfg.loop rfl (ι := Nat) (fun (j : Nat) => [(3,[],.int .u64 (lb total : Int)),(2,[],.pointer (some ⟨r,0,none⟩)),(0,[],.pointer (some ⟨b,0,none⟩))]) (fun (j : Nat) => [(r,.cells (bv (List.replicate 32 0)) 95 (0,0)),(b,.cells (stC (pz z j).hs (pz z j).bl (pz z j).held (tj total j)) 176 (0,0))]) (fun (j : Nat) => (j ≤ padN z)) (fun (j : Nat) => padN z - j) 0 ?_ (Conv.mk kr) (.cons_cons _ (.cons_cons _ .slnil)) ?_
 ·exact Nat.zero_le _
 ·rintro j hj
  refine Rg [0,2,3,20] [dZ,dZ,dZ,(0,false,some (.int .i64 ((pz z j).held : Int)))] (fun S => [(∀ w1,S w1 → w1.cell? ⟨b,72,none⟩ = some (.int .i64 ((pz z j).held : Int)))]) ⟨(fun w1 h => h.ocell 1 rfl (st_held (pz_ok hx j).hh (pz_ok hx j).hb)),trivial⟩ ?_
  refine Cfg.cond rfl (b := (((pz z j).held : Int) != (56 : Int))) kr (fun c1r => ?_) (fun c1r => ?_)
  ·have c1 := (bne_iff_ne.1 c1r)
   refine Cfg.begL rfl ?_
   refine Lp 1 [] (some [0,2,3,21]) n0 trivial ?_
   refine Le (Eff.callM (vs := [.pointer (some ⟨b,0,none⟩),.string ⟨#[0]⟩]) (.tuple #[]) 1 (b := b) (ob := .cells (stC (pz z j).hs (pz z j).bl (pz z j).held (tj total j)) 176 (0,0)) (.cells (stC (feedB (pz z j) 0).hs (feedB (pz z j) 0).bl (feedB (pz z j) 0).held ((tj total j + 1) % 18446744073709551616)) 176 (0,0)) rfl Tryz.func81 rfl rfl kr kr (fun w1 h => shaWrite1 b (pz z j) (tj total j) 0 w1 (pz_ok hx j) (h.hasR (fun e he => he)) (h.own _ (List.mem_of_getElem? (i := 1) rfl)) hne)) ?_
   rintro ⟨⟩ -
   refine CfgL.done rfl ?_
   refine Cg (Γ' := [(3,[],.int .u64 (lb total : Int)),(2,[],.pointer (some ⟨r,0,none⟩)),(0,[],.pointer (some ⟨b,0,none⟩))]) ?_
   have hjn : j ≠ padN z := fun h => c1 ((pad_end hx hj).2 h)
   refine Cfg.setO (congrArg (fun (xq : Array Value) => ([(r,.cells (bv (List.replicate 32 0)) 95 (0,0)),(b,.cells xq 176 (0,0))] : List (Nat × Obj))) (show _ = (stC (pz z (j + 1)).hs (pz z (j + 1)).bl (pz z (j + 1)).held (tj total (j + 1))) from by rw [pz_succ,tj_succ])) ?_
   refine Cfg.again rfl (j + 1) (by show j + 1 ≤ padN z; omega) (by show padN z - (j + 1) < padN z - j; omega) (Conv.mk kr) (.cons_cons _ (.cons_cons _ .slnil))
  ·have c1 := (bne_eq_false_iff_eq.1 c1r)
   obtain rfl : j = padN z := (pad_end hx hj).1 c1
   refine Cfg.begL rfl ?_
   refine Le (Eff.alloc (z := (.agg (bv (List.replicate 8 0)))) rfl kr) ?_
   rintro tl ⟨htl,ntl⟩
   refine CfgL.done rfl ?_
   refine Cg (Γ' := [(4,[],.pointer (some ⟨tl,0,none⟩)),(3,[],.int .u64 (lb total : Int)),(2,[],.pointer (some ⟨r,0,none⟩)),(0,[],.pointer (some ⟨b,0,none⟩))]) ?_
   refine Rg [0,2,3,4,23] [] n0 trivial ?_
   refine Cfg.loop rfl (ι := Nat) (fun (k1 : Nat) => [(23,[],.int .i64 (k1 : Int)),(4,[],.pointer (some ⟨tl,0,none⟩)),(3,[],.int .u64 (lb total : Int)),(2,[],.pointer (some ⟨r,0,none⟩)),(0,[],.pointer (some ⟨b,0,none⟩))]) (fun (k1 : Nat) => [(tl,.cells (bv (tlr (lb total) k1)) 171 (0,0)),(r,.cells (bv (List.replicate 32 0)) 95 (0,0)),(b,.cells (stC (pz z (padN z)).hs (pz z (padN z)).bl (pz z (padN z)).held (tj total (padN z))) 176 (0,0))]) (fun (k1 : Nat) => (k1 ≤ 8)) (fun (k1 : Nat) => 8 - k1) 0 ?_ (Conv.mk kr) (.cons_cons _ (.cons_cons _ (.cons_cons _ .slnil))) ?_
   ·exact Nat.zero_le _
   ·rintro k1 hk1
    refine Rg [0,2,3,4,23,24] [] n0 trivial ?_
    refine Cfg.cond rfl (b := (decide ((k1 : Int) < (8 : Int)))) kr (fun c2r => ?_) (fun c2r => ?_)
    ·have c2 := (of_decide_eq_true c2r)
     refine Rg [0,2,3,4,5,23] [] n0 trivial ?_
     refine Cfg.begL rfl ?_
     refine Lp 8 [] (some [0,2,3,4,23,32,33]) (fun _ => [((-9223372036854775808 : Int) ≤ (8 * (k1 : Int)) ∧ (8 * (k1 : Int)) ≤ 9223372036854775807),((-9223372036854775808 : Int) ≤ (56 - (8 * (k1 : Int))) ∧ (56 - (8 * (k1 : Int))) ≤ 9223372036854775807),(0 ≤ (56 - (8 * (k1 : Int))) ∧ ((56 - (8 * (k1 : Int)))).toNat ≤ 64),(0 ≤ (k1 : Int) ∧ (k1 : Int) < (8 : Int))]) ⟨om,om,om,om,trivial⟩ ?_
     refine Le (Eff.store1 (b := tl) (off := k1) (v := .int .u8 (((lb total : Int) / ((2 ^ ((56 - (8 * (k1 : Int)))).toNat : Nat) : Int)) % 256)) rfl kr kr rfl kr 0 (cs := (bv (tlr (lb total) k1))) (e := 171) kr (by rw [bv_size,tlr_len hk1]; omega)) ?_
     rintro ⟨⟩ -
     refine CfgL.done rfl ?_
     refine Cg (Γ' := [(23,[],.int .i64 (k1 : Int)),(4,[],.pointer (some ⟨tl,0,none⟩)),(3,[],.int .u64 (lb total : Int)),(2,[],.pointer (some ⟨r,0,none⟩)),(0,[],.pointer (some ⟨b,0,none⟩))]) ?_
     refine Rg [0,2,3,4,23] [] (fun _ => [((-9223372036854775808 : Int) ≤ ((k1 : Int) + 1) ∧ ((k1 : Int) + 1) ≤ 9223372036854775807)]) ⟨om,trivial⟩ ?_
     refine Cfg.setO (congrArg (fun (xq : Array Value) => ([(tl,.cells xq 171 (0,0)),(r,.cells (bv (List.replicate 32 0)) 95 (0,0)),(b,.cells (stC (pz z (padN z)).hs (pz z (padN z)).bl (pz z (padN z)).held (tj total (padN z))) 176 (0,0))] : List (Nat × Obj))) (show _ = (bv (tlr (lb total) (k1 + 1))) from tlr_step om rfl)) ?_
     refine Cfg.again rfl (k1 + 1) (by show k1 + 1 ≤ 8; omega) (by show 8 - (k1 + 1) < 8 - k1; omega) (Conv.mk kr) (.cons_cons _ (.cons_cons _ (.cons_cons _ .slnil)))
    ·have c2 := (of_decide_eq_false c2r)
     obtain rfl : k1 = 8 := by omega
     refine Conv.cfg (Γ' := [(4,[],.pointer (some ⟨tl,0,none⟩)),(3,[],.int .u64 (lb total : Int)),(2,[],.pointer (some ⟨r,0,none⟩)),(0,[],.pointer (some ⟨b,0,none⟩))]) (Conv.mk kr) ?_
     refine Cfg.begL rfl ?_
     refine Lp 3 [dZ,dZ,(0,false,some (.string (tls (lb total))))] (some [0,2,35,37]) (fun S => [(8 ≤ 8),(∀ w1,S w1 → (Conv.bytesToString (.slice (some ⟨tl,0,none⟩) 8 8)).run Tryz.prog w1 = .ok (.string (tls (lb total))) w1)]) ⟨om,(fun w1 h => h.ostr 0 rfl (tlr_len (Nat.le_refl 8))),trivial⟩ ?_
     refine Le (Eff.callM (vs := [.pointer (some ⟨b,0,none⟩),.string (tls (lb total))]) (.tuple #[]) 2 (b := b) (ob := .cells (stC (pz z (padN z)).hs (pz z (padN z)).bl (pz z (padN z)).held (tj total (padN z))) 176 (0,0)) (.cells (stC (z3 z total).hs (z3 z total).bl (z3 z total).held ((tj total (padN z) + (tls (lb total)).size) % 18446744073709551616)) 176 (0,0)) rfl Tryz.func81 rfl rfl kr kr (fun w1 h => shaWrite b (pz z (padN z)) (tj total (padN z)) (tls (lb total)) w1 (pz_ok hx _) (h.hasR (fun e he => he)) (h.own _ (List.mem_of_getElem? (i := 2) rfl)) hne)) ?_
     rintro ⟨⟩ -
     refine CfgL.done rfl ?_
     refine Cg (Γ' := [(2,[],.pointer (some ⟨r,0,none⟩)),(0,[],.pointer (some ⟨b,0,none⟩))]) ?_
     refine Cfg.begL rfl ?_
     refine Le (Eff.alloc (z := (.agg (bv (List.replicate 32 0)))) rfl kr) ?_
     rintro d ⟨hd,nd⟩
     refine CfgL.done rfl ?_
     refine Rg [2,6,42,43] [dZ,dZ,dZ,(0,false,some (.agg (wv (z3 z total).hs)))] (fun S => [(∀ w1,S w1 → (loadVar 173 ⟨b,0,none⟩).run Tryz.prog w1 = .ok (.agg (wv (z3 z total).hs)) w1)]) ⟨(fun w1 h => load_words Tryz.underlying173 rfl kr (z3_ok hx total).hh (fun j hj => h.ocell 3 rfl (by rw [Nat.zero_add]; exact st_sum (z3_ok hx total).hh hj))),trivial⟩ ?_
     refine Cfg.loop rfl (ι := Nat) (fun (k2 : Nat) => [(43,[],.int .i64 (k2 : Int)),(42,[],.agg (wv (z3 z total).hs)),(6,[],.pointer (some ⟨d,0,none⟩)),(2,[],.pointer (some ⟨r,0,none⟩))]) (fun (k2 : Nat) => [(d,.cells (bv (dgr (z3 z total).hs k2)) 95 (0,0)),(tl,.cells (bv (tlr (lb total) 8)) 171 (0,0)),(r,.cells (bv (List.replicate 32 0)) 95 (0,0)),(b,.cells (stC (z3 z total).hs (z3 z total).bl (z3 z total).held ((tj total (padN z) + (tls (lb total)).size) % 18446744073709551616)) 176 (0,0))]) (fun (k2 : Nat) => (k2 ≤ 8)) (fun (k2 : Nat) => 8 - k2) 0 ?_ (Conv.mk kr) (.cons_cons _ (.cons_cons _ (.cons_cons _ (.cons_cons _ .slnil)))) ?_
     ·exact Nat.zero_le _
     ·rintro k2 hk2
      refine Rg [2,6,42,43,44] [] n0 trivial ?_
      refine Cfg.cond rfl (b := (decide ((k2 : Int) < (8 : Int)))) kr (fun c3r => ?_) (fun c3r => ?_)
      ·have c3 := (of_decide_eq_true c3r)
       refine Rg [2,6,7,8,42,43] [dZ,(0,false,some (.int .u32 (rg (z3 z total).hs k2 : Int)))] (fun _ => [(0 ≤ (k2 : Int) ∧ (k2 : Int) < (8 : Int)),(((wv (z3 z total).hs))[k2]? = some (.int .u32 (rg (z3 z total).hs k2 : Int)))]) ⟨om,(wv_get (z3_ok hx total).hh om),trivial⟩ ?_
       refine Cfg.begL rfl ?_
       refine Lp 6 [] (some [2,6,7,8,42,43,51,52]) (fun _ => [((-9223372036854775808 : Int) ≤ (4 * (k2 : Int)) ∧ (4 * (k2 : Int)) ≤ 9223372036854775807),(0 ≤ (24 : Int) ∧ 24 ≤ 32),(0 ≤ (4 * (k2 : Int)) ∧ (4 * (k2 : Int)) < (32 : Int))]) ⟨om,om,om,trivial⟩ ?_
       refine Le (Eff.store1 (b := d) (off := (4 * k2)) (v := .int .u8 (((rg (z3 z total).hs k2 : Int) / 16777216) % 256)) rfl kr kr rfl kr 0 (cs := (bv (dgr (z3 z total).hs k2))) (e := 95) kr (by first | (rw [dsz _ hk2]; omega) | (simp only [Array.size_setIfInBounds,dsz _ hk2]; omega))) ?_
       rintro ⟨⟩ -
       refine CfgL.done rfl ?_
       refine Cg (Γ' := [(8,[],.int .u32 (rg (z3 z total).hs k2 : Int)),(7,[],.int .i64 (k2 : Int)),(43,[],.int .i64 (k2 : Int)),(42,[],.agg (wv (z3 z total).hs)),(6,[],.pointer (some ⟨d,0,none⟩)),(2,[],.pointer (some ⟨r,0,none⟩))]) ?_
       refine Cfg.begL rfl ?_
       refine Lp 7 [] (some [2,6,7,8,42,43,58,59]) (fun _ => [((-9223372036854775808 : Int) ≤ (4 * (k2 : Int)) ∧ (4 * (k2 : Int)) ≤ 9223372036854775807),((-9223372036854775808 : Int) ≤ ((4 * (k2 : Int)) + 1) ∧ ((4 * (k2 : Int)) + 1) ≤ 9223372036854775807),(0 ≤ (16 : Int) ∧ 16 ≤ 32),(0 ≤ ((4 * (k2 : Int)) + 1) ∧ ((4 * (k2 : Int)) + 1) < (32 : Int))]) ⟨om,om,om,om,trivial⟩ ?_
       refine Le (Eff.store1 (b := d) (off := ((4 * k2) + 1)) (v := .int .u8 (((rg (z3 z total).hs k2 : Int) / 65536) % 256)) rfl kr kr rfl kr 0 (cs := ((bv (dgr (z3 z total).hs k2)).setIfInBounds (4 * k2) (.int .u8 (((rg (z3 z total).hs k2 : Int) / 16777216) % 256)))) (e := 95) kr (by first | (rw [dsz _ hk2]; omega) | (simp only [Array.size_setIfInBounds,dsz _ hk2]; omega))) ?_
       rintro ⟨⟩ -
       refine CfgL.done rfl ?_
       refine Cg (Γ' := [(8,[],.int .u32 (rg (z3 z total).hs k2 : Int)),(7,[],.int .i64 (k2 : Int)),(43,[],.int .i64 (k2 : Int)),(42,[],.agg (wv (z3 z total).hs)),(6,[],.pointer (some ⟨d,0,none⟩)),(2,[],.pointer (some ⟨r,0,none⟩))]) ?_
       refine Cfg.begL rfl ?_
       refine Lp 7 [] (some [2,6,7,8,42,43,65,66]) (fun _ => [((-9223372036854775808 : Int) ≤ (4 * (k2 : Int)) ∧ (4 * (k2 : Int)) ≤ 9223372036854775807),((-9223372036854775808 : Int) ≤ ((4 * (k2 : Int)) + 2) ∧ ((4 * (k2 : Int)) + 2) ≤ 9223372036854775807),(0 ≤ (8 : Int) ∧ 8 ≤ 32),(0 ≤ ((4 * (k2 : Int)) + 2) ∧ ((4 * (k2 : Int)) + 2) < (32 : Int))]) ⟨om,om,om,om,trivial⟩ ?_
       refine Le (Eff.store1 (b := d) (off := ((4 * k2) + 2)) (v := .int .u8 (((rg (z3 z total).hs k2 : Int) / 256) % 256)) rfl kr kr rfl kr 0 (cs := (((bv (dgr (z3 z total).hs k2)).setIfInBounds (4 * k2) (.int .u8 (((rg (z3 z total).hs k2 : Int) / 16777216) % 256))).setIfInBounds ((4 * k2) + 1) (.int .u8 (((rg (z3 z total).hs k2 : Int) / 65536) % 256)))) (e := 95) kr (by first | (rw [dsz _ hk2]; omega) | (simp only [Array.size_setIfInBounds,dsz _ hk2]; omega))) ?_
       rintro ⟨⟩ -
       refine CfgL.done rfl ?_
       refine Cg (Γ' := [(8,[],.int .u32 (rg (z3 z total).hs k2 : Int)),(7,[],.int .i64 (k2 : Int)),(43,[],.int .i64 (k2 : Int)),(42,[],.agg (wv (z3 z total).hs)),(6,[],.pointer (some ⟨d,0,none⟩)),(2,[],.pointer (some ⟨r,0,none⟩))]) ?_
       refine Cfg.begL rfl ?_
       refine Lp 6 [] (some [2,6,42,43,71,72]) (fun _ => [((-9223372036854775808 : Int) ≤ (4 * (k2 : Int)) ∧ (4 * (k2 : Int)) ≤ 9223372036854775807),((-9223372036854775808 : Int) ≤ ((4 * (k2 : Int)) + 3) ∧ ((4 * (k2 : Int)) + 3) ≤ 9223372036854775807),(0 ≤ ((4 * (k2 : Int)) + 3) ∧ ((4 * (k2 : Int)) + 3) < (32 : Int))]) ⟨om,om,om,trivial⟩ ?_
       refine Le (Eff.store1 (b := d) (off := ((4 * k2) + 3)) (v := .int .u8 ((rg (z3 z total).hs k2 : Int) % 256)) rfl kr kr rfl kr 0 (cs := ((((bv (dgr (z3 z total).hs k2)).setIfInBounds (4 * k2) (.int .u8 (((rg (z3 z total).hs k2 : Int) / 16777216) % 256))).setIfInBounds ((4 * k2) + 1) (.int .u8 (((rg (z3 z total).hs k2 : Int) / 65536) % 256))).setIfInBounds ((4 * k2) + 2) (.int .u8 (((rg (z3 z total).hs k2 : Int) / 256) % 256)))) (e := 95) kr (by first | (rw [dsz _ hk2]; omega) | (simp only [Array.size_setIfInBounds,dsz _ hk2]; omega))) ?_
       rintro ⟨⟩ -
       refine CfgL.done rfl ?_
       refine Cg (Γ' := [(43,[],.int .i64 (k2 : Int)),(42,[],.agg (wv (z3 z total).hs)),(6,[],.pointer (some ⟨d,0,none⟩)),(2,[],.pointer (some ⟨r,0,none⟩))]) ?_
       refine Rg [2,6,42,43] [] (fun _ => [((-9223372036854775808 : Int) ≤ ((k2 : Int) + 1) ∧ ((k2 : Int) + 1) ≤ 9223372036854775807)]) ⟨om,trivial⟩ ?_
       refine Cfg.setO (congrArg (fun (xq : Array Value) => ([(d,.cells xq 95 (0,0)),(tl,.cells (bv (tlr (lb total) 8)) 171 (0,0)),(r,.cells (bv (List.replicate 32 0)) 95 (0,0)),(b,.cells (stC (z3 z total).hs (z3 z total).bl (z3 z total).held ((tj total (padN z) + (tls (lb total)).size) % 18446744073709551616)) 176 (0,0))] : List (Nat × Obj))) (show _ = (bv (dgr (z3 z total).hs (k2 + 1))) from dgr_step _ om rfl rfl rfl rfl)) ?_
       refine Cfg.again rfl (k2 + 1) (by show k2 + 1 ≤ 8; omega) (by show 8 - (k2 + 1) < 8 - k2; omega) (Conv.mk kr) (.cons_cons _ (.cons_cons _ (.cons_cons _ (.cons_cons _ .slnil))))
      ·have c3 := (of_decide_eq_false c3r)
       refine Cfg.begL rfl ?_
       refine Lp 1 [(0,false,some (.agg (bv (dgr (z3 z total).hs k2))))] (some [2,74]) (fun S => [(∀ w1,S w1 → (loadVar 95 ⟨d,0,none⟩).run Tryz.prog w1 = .ok (.agg (bv (dgr (z3 z total).hs k2))) w1)]) ⟨(fun w1 h => h.oload 0 rfl Tryz.underlying95 rfl (n := 32) kr (dsz _ hk2)),trivial⟩ ?_
       refine Le (Eff.storeN (b := r) (off := 0) (vs := (bv (dgr (z3 z total).hs k2))) (n := 32) rfl kr kr kr (dsz _ hk2) (all_bv _) 2 (cs := (bv (List.replicate 32 0))) (e := 95) kr (by rw [zsz]; omega)) ?_
       rintro ⟨⟩ -
       refine CfgL.setO (congrArg (fun (xq : Array Value) => ([(d,.cells (bv (dgr (z3 z total).hs k2)) 95 (0,0)),(tl,.cells (bv (tlr (lb total) 8)) 171 (0,0)),(r,.cells xq 95 (0,0)),(b,.cells (stC (z3 z total).hs (z3 z total).bl (z3 z total).held ((tj total (padN z) + (tls (lb total)).size) % 18446744073709551616)) 176 (0,0))] : List (Nat × Obj))) (show _ = (bv (dgr (z3 z total).hs k2)) from spl_all ((dsz _ hk2).trans zsz.symm))) ?_
       refine CfgL.done rfl ?_
       refine Cg (Γ' := [(2,[],.pointer (some ⟨r,0,none⟩))]) ?_
       refine Cfg.ret rfl (rs := [.cell 2 95]) rfl [.agg (bv (dgr (z3 z total).hs k2))] ⟨⟨_,by kernel_rfl,(fun w1 h => h.oload 2 rfl Tryz.underlying95 rfl (n := 32) kr (dsz _ hk2))⟩,trivial⟩ (fun w1 hp => ?_)
       obtain rfl : k2 = 8 := by omega
       exact ⟨rfl,hp.ext⟩
end Go.Proofs.YtohjpggjgomgoaaGreatDoor
namespace Go.Proofs.YtohjpggjgomgoaaGreatDoor
open K
set_option linter.unusedVariables false
set_option maxRecDepth 100000 in
theorem shaBegin (w : World) :
  Calls Tryz.prog 80 #[] w fun e w' => ∃ b : Nat,True ∧ e = .returned (.pointer (some ⟨b,0,none⟩)) ∧ w.heap.size ≤ b ∧ w'.heap[b]? = some (.cells (stC H8 (List.replicate 64 0) 0 0) 176 (0,0)) ∧ Ext [] w w' := by
 refine enter (vs := []) [] [] [] Tryz.func80 rfl kr (HP.start w) ?_
 refine Rg [] [] n0 trivial ?_
 refine Cfg.begL rfl ?_
 refine Lp 2 [(0,false,some (.agg (wv H8))),(0,false,some (.agg (stC H8 (List.replicate 64 0) 0 0)))] (some [2]) (fun S => [(∀ w1,S w1 → (Instr.build 173 #[(0,.int .u32 1779033703),(1,.int .u32 3144134277),(2,.int .u32 1013904242),(3,.int .u32 2773480762),(4,.int .u32 1359893119),(5,.int .u32 2600822924),(6,.int .u32 528734635),(7,.int .u32 1541459225)]).run Tryz.prog w1 = .ok (.agg (wv H8)) w1),(∀ w1,S w1 → (Instr.build 176 #[(0,.agg (wv H8))]).run Tryz.prog w1 = .ok (.agg (stC H8 (List.replicate 64 0) 0 0)) w1)]) ⟨(fun _ _ => kr),(fun _ _ => kr),trivial⟩ ?_
 refine Le (Eff.box (v := .agg (stC H8 (List.replicate 64 0) 0 0)) rfl kr) ?_
 rintro b1 ⟨hb1,nb1⟩
 refine Lp 1 [] (some [0]) n0 trivial ?_
 refine CfgL.done rfl ?_
 refine Cfg.ret rfl (rs := [.tmp 0]) rfl [.pointer (some ⟨b1,0,none⟩)] ⟨kr,trivial⟩ (fun w1 hp => ?_)
 exact ⟨b1,trivial,rfl,hb1,hp.own (b1,_) (List.mem_cons_self ..),hp.ext⟩
set_option maxRecDepth 100000 in
theorem shaSum (la : Option Addr) (cap : Nat) (ss : List ByteArray) (Rl : List (Nat × Obj)) {kt : Array Value} {t0 : TypeId} {fr0 : Nat × Nat} (w : World) (hI : InS Rl la ss.length (fun j => .string (ssat ss j))) (hn : ss.length ≤ maxLen) (hR : Has w ((0,.cells kt t0 fr0) :: Rl)) (hK : KT kt := by assumption) :
  Calls Tryz.prog 36 #[.slice la ss.length cap] w fun e w' => e = .returned (.agg (bv (shaD (scat ss)))) ∧ Ext [] w w' := by
 unfold maxLen at hn
 have h0 : 0 < w.heap.size := lt_of_get (hR _ (List.mem_cons_self ..))
 refine enter (vs := [.slice la ss.length cap]) [] ((0,.cells kt t0 fr0) :: Rl) [] Tryz.func36 rfl kr (HP.ofHas hR) ?_
 refine Cfg.begL rfl ?_
 refine Le (Eff.alloc (z := (.agg (bv (List.replicate 32 0)))) rfl kr) ?_
 rintro r ⟨hr,nr⟩
 refine CfgL.done rfl ?_
 refine Cfg.begL rfl ?_
 refine Le (Eff.callN (vs := []) (fun b : Nat => .pointer (some ⟨b,0,none⟩)) (fun b => b) (fun _ => .cells (stC H8 (List.replicate 64 0) 0 0) 176 (0,0)) (fun _ => True) rfl Tryz.func80 rfl rfl kr (fun w1 _ => shaBegin w1)) ?_
 rintro b ⟨-,hb,nb⟩
 have hne : b ≠ 0 := by have : w.heap.size ≤ b := hb; omega
 refine Lp 1 [] (some [0,2,3]) n0 trivial ?_
 refine CfgL.done rfl ?_
 refine Rg [2,3,7,8,9] [] n0 trivial ?_
 refine Cfg.loop rfl (ι := Nat) (fun (i : Nat) => [(9,[],.int .i64 (i : Int)),(8,[],.int .i64 (ss.length : Int)),(7,[],.slice la ss.length cap),(3,[],.pointer (some ⟨b,0,none⟩)),(2,[],.pointer (some ⟨r,0,none⟩))]) (fun (i : Nat) => [(b,.cells (stC (sz ss i).hs (sz ss i).bl (sz ss i).held (tt ss i)) 176 (0,0)),(r,.cells (bv (List.replicate 32 0)) 95 (0,0))]) (fun (i : Nat) => (i ≤ ss.length)) (fun (i : Nat) => ss.length - i) 0 ?_ (Conv.mk kr) (.cons_cons _ (.cons_cons _ .slnil)) ?_
 ·exact Nat.zero_le _
 ·rintro i hi
  refine Rg [2,3,7,8,9,10] [] n0 trivial ?_
  refine Cfg.cond rfl (b := (decide ((i : Int) < (ss.length : Int)))) kr (fun c1r => ?_) (fun c1r => ?_)
  ·have c1 := (of_decide_eq_true c1r)
   obtain ⟨sb,off,cs,te,fre,rfl,hmem,hcs⟩ := hI om
   refine Conv.cfg (Γ' := [(10,[],.bool (decide ((i : Int) < (ss.length : Int)))),(9,[],.int .i64 (i : Int)),(8,[],.int .i64 (ss.length : Int)),(7,[],.slice (some ⟨sb,off,none⟩) ss.length cap),(3,[],.pointer (some ⟨b,0,none⟩)),(2,[],.pointer (some ⟨r,0,none⟩))]) (Conv.mk kr) ?_
   refine Rg [2,3,5,7,8,9] [dZ,(0,false,some (.string (ssat ss i)))] (fun S => [(0 ≤ (i : Int) ∧ (i : Int) < (ss.length : Int)),(∀ w1,S w1 → w1.cell? ⟨sb,(addO off i),none⟩ = some (.string (ssat ss i)))]) ⟨om,(fun w1 h => by rw [addO_eq]; exact (cell_cells (h.ro _ (List.mem_cons_of_mem _ hmem))).trans (hcs i om)),trivial⟩ ?_
   refine Cfg.begL rfl ?_
   refine Lp 2 [] (some [2,3,7,8,9,13,14]) n0 trivial ?_
   refine Le (Eff.callM (vs := [.pointer (some ⟨b,0,none⟩),.string (ssat ss i)]) (.tuple #[]) 0 (b := b) (ob := .cells (stC (sz ss i).hs (sz ss i).bl (sz ss i).held (tt ss i)) 176 (0,0)) (.cells (stC (feed (sz ss i) (ssat ss i).data.toList).hs (feed (sz ss i) (ssat ss i).data.toList).bl (feed (sz ss i) (ssat ss i).data.toList).held ((tt ss i + (ssat ss i).size) % 18446744073709551616)) 176 (0,0)) rfl Tryz.func81 rfl rfl kr kr (fun w1 h => shaWrite b (sz ss i) (tt ss i) (ssat ss i) w1 (sz_ok ss i) (h.hasR (fun e he => by rw [List.mem_singleton.1 he]; exact List.mem_cons_self ..)) (h.own _ (List.mem_of_getElem? (i := 0) rfl)) hne)) ?_
   rintro ⟨⟩ -
   refine CfgL.done rfl ?_
   refine Cg (Γ' := [(9,[],.int .i64 (i : Int)),(8,[],.int .i64 (ss.length : Int)),(7,[],.slice (some ⟨sb,off,none⟩) ss.length cap),(3,[],.pointer (some ⟨b,0,none⟩)),(2,[],.pointer (some ⟨r,0,none⟩))]) ?_
   refine Rg [2,3,7,8,9] [] (fun _ => [((-9223372036854775808 : Int) ≤ ((i : Int) + 1) ∧ ((i : Int) + 1) ≤ 9223372036854775807)]) ⟨om,trivial⟩ ?_
   refine Cfg.setO (congrArg (fun (xq : Array Value) => ([(b,.cells xq 176 (0,0)),(r,.cells (bv (List.replicate 32 0)) 95 (0,0))] : List (Nat × Obj))) (show _ = (stC (sz ss (i + 1)).hs (sz ss (i + 1)).bl (sz ss (i + 1)).held (tt ss (i + 1))) from by rw [sz_succ om,tt_succ om])) ?_
   refine Cfg.again rfl (i + 1) (by show i + 1 ≤ ss.length; omega) (by show ss.length - (i + 1) < ss.length - i; omega) (Conv.mk kr) (.cons_cons _ (.cons_cons _ .slnil))
  ·have c1 := (of_decide_eq_false c1r)
   obtain rfl : i = ss.length := by omega
   refine Conv.cfg (Γ' := [(8,[],.int .i64 (ss.length : Int)),(7,[],.slice la ss.length cap),(3,[],.pointer (some ⟨b,0,none⟩)),(2,[],.pointer (some ⟨r,0,none⟩))]) (Conv.mk kr) ?_
   refine Cfg.begL rfl ?_
   refine Lp 1 [] (some [2,17]) n0 trivial ?_
   refine Le (Eff.callD (vs := [.pointer (some ⟨b,0,none⟩)]) (.agg (bv (shaD (scat ss)))) 0 (b := b) (ob := .cells (stC (sz ss ss.length).hs (sz ss ss.length).bl (sz ss ss.length).held (tt ss ss.length)) 176 (0,0)) rfl Tryz.func82 rfl rfl kr kr (fun w1 h => by have := shaEndC b (sz ss ss.length) (tt ss ss.length) w1 (sz_ok ss _) (h.hasR (fun e he => by rw [List.mem_singleton.1 he]; exact List.mem_cons_self ..)) (h.own _ (List.mem_of_getElem? (i := 0) rfl)) hne; rw [sz_all] at this; exact this)) ?_
   rintro ⟨⟩ -
   refine Le (Eff.storeN (b := r) (off := 0) (vs := (bv (shaD (scat ss)))) (n := 32) rfl kr kr kr (dz _) (all_bv _) 0 (cs := (bv (List.replicate 32 0))) (e := 95) kr (by rw [zsz]; omega)) ?_
   rintro ⟨⟩ -
   refine CfgL.setO (congrArg (fun (xq : Array Value) => ([(r,.cells xq 95 (0,0))] : List (Nat × Obj))) (show _ = (bv (shaD (scat ss))) from spl_all ((dz _).trans zsz.symm))) ?_
   refine CfgL.done rfl ?_
   refine Cg (Γ' := [(2,[],.pointer (some ⟨r,0,none⟩))]) ?_
   refine Cfg.ret rfl (rs := [.cell 2 95]) rfl [.agg (bv (shaD (scat ss)))] ⟨⟨_,by kernel_rfl,(fun w1 h => h.oload 0 rfl Tryz.underlying95 rfl (n := 32) kr (dz _))⟩,trivial⟩ (fun w1 hp => ?_)
   exact ⟨rfl,hp.ext⟩
end Go.Proofs.YtohjpggjgomgoaaGreatDoor
namespace Go.Proofs.YtohjpggjgomgoaaGreatDoor
open K
set_option linter.unusedVariables false
set_option maxRecDepth 100000 in
theorem bCheck0 (b : Nat) (v : Value) (w : World) (hB : w.heap[b]? = some (.cells #[.pointer none,v] 145 (0,0))) :
  Calls Tryz.prog 101 #[.pointer (some ⟨b,0,none⟩)] w fun e w' => e = .returned (.tuple #[]) ∧ Ext [b] w w' ∧ w'.heap[b]? = some (.cells #[.pointer (some ⟨b,0,none⟩),v] 145 (0,0)) := by
 refine enter (vs := [.pointer (some ⟨b,0,none⟩)]) [b] [] [(b,.cells #[.pointer none,v] 145 (0,0))] Tryz.func101 rfl kr (HP.startM (R := []) (fun _ h => by cases h) hB (by simp)) ?_
 refine Rg [0,6] [dZ,dZ,dZ,(0,false,some (.pointer none))] (fun S => [(∀ w1,S w1 → w1.cell? ⟨b,0,none⟩ = some (.pointer none))]) ⟨(fun w1 h => h.ocell 0 rfl rfl),trivial⟩ ?_
 refine Cfg.condT rfl (b := true) kr rfl ?_
 refine Cfg.begL rfl ?_
 refine Lp 2 [] (some [7,8]) n0 trivial ?_
 refine Le (Eff.conv (u := .pointer (some ⟨b,0,none⟩)) (.pointer (some ⟨b,0,none⟩)) rfl kr (fun w1 h => toUnsafe Tryz.underlying143 Tryz.underlying185 kr (h.own (b,_) (List.mem_cons_self ..)) rfl)) ?_
 rintro ⟨⟩ -
 refine Le (Eff.callE (vs := [.pointer (some ⟨b,0,none⟩)]) (.pointer (some ⟨b,0,none⟩)) (e := Extern.AbiNoEscape.same) rfl Tryz.func111 rfl rfl kr kr kr (fun w1 h => rfl)) ?_
 rintro ⟨⟩ -
 refine Le (Eff.conv (u := .pointer (some ⟨b,0,none⟩)) (.pointer (some ⟨b,0,none⟩)) rfl kr (fun w1 h => fromUnsafe Tryz.underlying185 Tryz.underlying143 kr kr (h.own (b,_) (List.mem_cons_self ..)) rfl)) ?_
 rintro ⟨⟩ -
 refine Lp 2 [] (some [11,13]) n0 trivial ?_
 refine Le (Eff.store1 (b := b) (off := 0) (v := .pointer (some ⟨b,0,none⟩)) rfl kr kr rfl kr 0 (cs := #[.pointer none,v]) (e := 145) kr (Nat.zero_lt_succ 1)) ?_
 rintro ⟨⟩ -
 refine CfgL.done rfl ?_
 refine Cg (Γ' := []) ?_
 refine Cfg.fin rfl (rs := []) rfl [] trivial (fun w1 hp => ?_)
 exact ⟨rfl,hp.ext,hp.own (b,_) (List.mem_cons_self ..)⟩
set_option maxRecDepth 100000 in
theorem bCheck1 (b : Nat) (v : Value) (w : World) (hB : w.heap[b]? = some (.cells #[.pointer (some ⟨b,0,none⟩),v] 145 (0,0))) :
  Calls Tryz.prog 101 #[.pointer (some ⟨b,0,none⟩)] w fun e w' => e = .returned (.tuple #[]) ∧ Ext [b] w w' ∧ w'.heap[b]? = some (.cells #[.pointer (some ⟨b,0,none⟩),v] 145 (0,0)) := by
 refine enter (vs := [.pointer (some ⟨b,0,none⟩)]) [b] [] [(b,.cells #[.pointer (some ⟨b,0,none⟩),v] 145 (0,0))] Tryz.func101 rfl kr (HP.startM (R := []) (fun _ h => by cases h) hB (by simp)) ?_
 refine Rg [0,6] [dZ,dZ,dZ,(0,false,some (.pointer (some ⟨b,0,none⟩)))] (fun S => [(∀ w1,S w1 → w1.cell? ⟨b,0,none⟩ = some (.pointer (some ⟨b,0,none⟩)))]) ⟨(fun w1 h => h.ocell 0 rfl rfl),trivial⟩ ?_
 refine Cfg.condF rfl (b := false) kr rfl ?_
 refine Cfg.begL rfl ?_
 refine Lp 5 [dZ,dZ,dZ,(0,false,some (.pointer (some ⟨b,0,none⟩)))] (some [17,18]) (fun S => [(∀ w1,S w1 → w1.cell? ⟨b,0,none⟩ = some (.pointer (some ⟨b,0,none⟩)))]) ⟨(fun w1 h => h.ocell 0 rfl rfl),trivial⟩ ?_
 refine Le (Eff.neqSame rfl (p := ⟨b,0,none⟩) kr kr Tryz.underlying143 kr) ?_
 rintro ⟨⟩ -
 refine CfgL.done rfl ?_
 refine Cg (Γ' := [(19,[],.bool false)]) ?_
 refine Cfg.condF rfl (b := false) kr rfl ?_
 refine Cfg.fin rfl (rs := []) rfl [] trivial (fun w1 hp => ?_)
 exact ⟨rfl,hp.ext,hp.own (b,_) (List.mem_cons_self ..)⟩
theorem bCheck (b : Nat) (p v : Value) (w : World) (hp : p = .pointer none ∨ p = .pointer (some ⟨b,0,none⟩)) (hB : w.heap[b]? = some (.cells #[p,v] 145 (0,0))) :
  Calls Tryz.prog 101 #[.pointer (some ⟨b,0,none⟩)] w fun e w' => e = .returned (.tuple #[]) ∧ Ext [b] w w' ∧ w'.heap[b]? = some (.cells #[.pointer (some ⟨b,0,none⟩),v] 145 (0,0)) := by
 rcases hp with rfl | rfl
 ·exact bCheck0 b v w hB
 ·exact bCheck1 b v w hB
set_option maxRecDepth 100000 in
theorem bWriteString (b : Nat) (l : List UInt8) (B : Bd) (s : ByteArray) (w : World) (hok : BdOk b l B) (hh : Has w (bl 145 5 b l B)) (hd : ((bl 145 5 b l B).map (·.1)).Nodup) (hr : l.length + s.size ≤ 140737488355328) :
  Calls Tryz.prog 76 #[.pointer (some ⟨b,0,none⟩),.string s] w fun e w' => ∃ B' : Bd,BdOk b (l ++ s.data.toList) B' ∧ e = .returned (.tuple #[.int .i64 (s.size : Int),.nilIface]) ∧ ∃ R1,HP w ((bl 145 5 b l B).map (·.1)) R1 (bl 145 5 b (l ++ s.data.toList) B') w' := by
 refine enter (vs := [.pointer (some ⟨b,0,none⟩),.string s]) ((bl 145 5 b l B).map (·.1)) [] ([(b,.cells #[B.1,.slice (Own.a B.2) l.length (Own.c B.2)] 145 (0,0))] ++ (Own.o 5 ((bv l).toList) B.2 ++ [])) Tryz.func76 rfl kr (bl_start hh hd (R := []) (fun _ h => by cases h) (fun _ h => by cases h)) ?_
 refine Rg [0,1] [] n0 trivial ?_
 refine Cfg.begL rfl ?_
 refine Lp 1 [] none n0 trivial ?_
 refine Le (Eff.callM (vs := [.pointer (some ⟨b,0,none⟩)]) (.tuple #[]) 0 (b := b) (ob := .cells #[B.1,.slice (Own.a B.2) l.length (Own.c B.2)] 145 (0,0)) (.cells #[.pointer (some ⟨b,0,none⟩),.slice (Own.a B.2) l.length (Own.c B.2)] 145 (0,0)) rfl Tryz.func101 rfl rfl kr kr (fun w1 h => bCheck b B.1 (.slice (Own.a B.2) l.length (Own.c B.2)) w1 hok.ptr (h.own (b,_) (List.mem_cons_self ..)))) ?_
 rintro ⟨⟩ -
 refine CfgL.done rfl ?_
 refine Cg (Γ' := [(0,[],.pointer (some ⟨b,0,none⟩)),(1,[],.string s)]) ?_
 refine Cfg.begL rfl ?_
 refine Lp 6 [dZ,dZ,dZ,dZ,(0,false,some (.slice (Own.a B.2) l.length (Own.c B.2)))] (some [1,8,12,13]) (fun S => [(∀ w1,S w1 → w1.cell? ⟨b,1,none⟩ = some (.slice (Own.a B.2) l.length (Own.c B.2)))]) ⟨(fun w1 h => h.ocell 0 rfl rfl),trivial⟩ ?_
 refine Le (Eff.appendS rfl Tryz.underlying26 Tryz.underlying9 kr kr B.2 hok.own hok.pos kr (s := s) kr [(b,.cells #[.pointer (some ⟨b,0,none⟩),.slice (Own.a B.2) l.length (Own.c B.2)] 145 (0,0))] [] rfl hr) ?_
 rintro o ⟨ko,kp⟩
 refine Lp 2 [] (some [1,14,16]) n0 trivial ?_
 refine Le (Eff.store1 (b := b) (off := 1) (v := .slice (Own.a o) ((l.length + s.size)) (Own.c o)) rfl kr kr rfl kr 0 (cs := #[.pointer (some ⟨b,0,none⟩),.slice (Own.a B.2) l.length (Own.c B.2)]) (e := 145) kr (Nat.lt_succ_self 1)) ?_
 rintro ⟨⟩ -
 refine CfgL.done rfl ?_
 refine Cg (Γ' := [(1,[],.string s)]) ?_
 refine Rg [4,5] [] n0 trivial ?_
 refine Cfg.ret rfl (rs := [.tmp 4,.tmp 5]) rfl [.int .i64 (s.size : Int),.nilIface] ⟨kr,by kernel_rfl,trivial⟩ (fun w1 hp => ?_)
 rw [bv_app] at hp ko
 have hlen : l.length + s.size = (l ++ s.data.toList).length := by rw [List.length_append,ba_len]
 rw [hlen] at ko hp
 exact ⟨(.pointer (some ⟨b,0,none⟩),o),⟨.inr rfl,ko,kp⟩,rfl,_,bl_end hp⟩
set_option maxRecDepth 100000 in
theorem bWrite (b : Nat) (l : List UInt8) (B : Bd) (d n c : Nat) (x : List UInt8) (te : TypeId) (w : World) (hok : BdOk b l B) (hh : Has w (bl 145 5 b l B)) (hd : ((bl 145 5 b l B).map (·.1)).Nodup) (hr : l.length + n ≤ 140737488355328) (hn : 0 < n) (hx : x.length = n) (hD : w.heap[d]? = some (.cells (bv x) te (0,0))) (hdn : d ∉ (bl 145 5 b l B).map (·.1)) :
  Calls Tryz.prog 79 #[.pointer (some ⟨b,0,none⟩),.slice (some ⟨d,0,none⟩) n c] w fun e w' => ∃ B' : Bd,BdOk b (l ++ x) B' ∧ e = .returned (.tuple #[.int .i64 (n : Int),.nilIface]) ∧ ∃ R1,HP w ((bl 145 5 b l B).map (·.1)) R1 (bl 145 5 b (l ++ x) B') w' := by
 refine enter (vs := [.pointer (some ⟨b,0,none⟩),.slice (some ⟨d,0,none⟩) n c]) ((bl 145 5 b l B).map (·.1)) [(d,.cells (bv x) te (0,0))] ([(b,.cells #[B.1,.slice (Own.a B.2) l.length (Own.c B.2)] 145 (0,0))] ++ (Own.o 5 ((bv l).toList) B.2 ++ [])) Tryz.func79 rfl kr (bl_start hh hd (R := [(d,.cells (bv x) te (0,0))]) (fun e he => by rw [List.mem_singleton.1 he]; exact hD) (fun e he => by rw [List.mem_singleton.1 he]; exact hdn)) ?_
 refine Rg [0,1] [] n0 trivial ?_
 refine Cfg.begL rfl ?_
 refine Lp 1 [] none n0 trivial ?_
 refine Le (Eff.callM (vs := [.pointer (some ⟨b,0,none⟩)]) (.tuple #[]) 0 (b := b) (ob := .cells #[B.1,.slice (Own.a B.2) l.length (Own.c B.2)] 145 (0,0)) (.cells #[.pointer (some ⟨b,0,none⟩),.slice (Own.a B.2) l.length (Own.c B.2)] 145 (0,0)) rfl Tryz.func101 rfl rfl kr kr (fun w1 h => bCheck b B.1 (.slice (Own.a B.2) l.length (Own.c B.2)) w1 hok.ptr (h.own (b,_) (List.mem_cons_self ..)))) ?_
 rintro ⟨⟩ -
 refine CfgL.done rfl ?_
 refine Cg (Γ' := [(0,[],.pointer (some ⟨b,0,none⟩)),(1,[],.slice (some ⟨d,0,none⟩) n c)]) ?_
 refine Cfg.begL rfl ?_
 refine Lp 6 [dZ,dZ,dZ,dZ,(0,false,some (.slice (Own.a B.2) l.length (Own.c B.2)))] (some [1,8,12,13]) (fun S => [(∀ w1,S w1 → w1.cell? ⟨b,1,none⟩ = some (.slice (Own.a B.2) l.length (Own.c B.2)))]) ⟨(fun w1 h => h.ocell 0 rfl rfl),trivial⟩ ?_
 refine Le (Eff.appendP rfl Tryz.underlying26 kr (z := .int .u8 0) kr rfl B.2 hok.own kr (b2 := d) (off2 := 0) (m := n) (c2 := c) kr (bv x).toList (by rw [bv_len,hx,Nat.mul_one]) (all_bv _) [(b,.cells #[.pointer (some ⟨b,0,none⟩),.slice (Own.a B.2) l.length (Own.c B.2)] 145 (0,0))] [] rfl (fun w1 h j v hj => by rw [Nat.zero_add]; exact h.rcell 0 rfl (by rw [← Array.getElem?_toList]; exact hj)) om om om) ?_
 rintro o ⟨ko,kp⟩
 refine Lp 2 [] (some [1,14,16]) n0 trivial ?_
 refine Le (Eff.store1 (b := b) (off := 1) (v := .slice (Own.a o) ((l.length + n)) (Own.c o)) rfl kr kr rfl kr 0 (cs := #[.pointer (some ⟨b,0,none⟩),.slice (Own.a B.2) l.length (Own.c B.2)]) (e := 145) kr (Nat.lt_succ_self 1)) ?_
 rintro ⟨⟩ -
 refine CfgL.done rfl ?_
 refine Cg (Γ' := [(1,[],.slice (some ⟨d,0,none⟩) n c)]) ?_
 refine Rg [4,5] [] n0 trivial ?_
 refine Cfg.ret rfl (rs := [.tmp 4,.tmp 5]) rfl [.int .i64 (n : Int),.nilIface] ⟨kr,by kernel_rfl,trivial⟩ (fun w1 hp => ?_)
 rw [bv_app] at hp ko
 have hlen : l.length + n = (l ++ x).length := by rw [List.length_append,hx]
 rw [hlen] at ko hp
 exact ⟨(.pointer (some ⟨b,0,none⟩),o),⟨.inr rfl,ko,kp⟩,rfl,_,bl_end hp⟩
set_option maxRecDepth 100000 in
theorem bString (b : Nat) (l : List UInt8) (B : Bd) (w : World) (hok : BdOk b l B) (hh : Has w (bl 145 5 b l B)) (hd : ((bl 145 5 b l B).map (·.1)).Nodup) (hr : l.length ≤ 140737488355328) :
  Calls Tryz.prog 78 #[.pointer (some ⟨b,0,none⟩)] w fun e w' => ∃ _ : Unit,True ∧ e = .returned (.string ⟨l.toArray⟩) ∧ ∃ R1,HP w ((bl 145 5 b l B).map (·.1)) R1 [] w' := by
 refine enter (vs := [.pointer (some ⟨b,0,none⟩)]) ((bl 145 5 b l B).map (·.1)) [] ([(b,.cells #[B.1,.slice (Own.a B.2) l.length (Own.c B.2)] 145 (0,0))] ++ (Own.o 5 ((bv l).toList) B.2 ++ [])) Tryz.func78 rfl kr (bl_start hh hd (R := []) (fun _ h => by cases h) (fun _ h => by cases h)) ?_
 refine Rg [0] [] n0 trivial ?_
 refine Cfg.begA rfl kr [(b,.cells #[B.1,.slice (Own.a B.2) l.length (Own.c B.2)] 145 (0,0))] ?_
 refine Ap [0,1,2,3,5,6,7,8,9] [dZ,dZ,dZ,(0,false,some (.slice (Own.a B.2) l.length (Own.c B.2))),dZ,dZ,dZ,(0,false,some (.slice (Own.a B.2) l.length (Own.c B.2)))] (some [6,12]) #[true,true,true,true,false,true,true,true,true,true,false,false] (.cons_cons _ (List.nil_sublist _)) 3 (fun S => [(∀ w1,S w1 → w1.cell? ⟨b,1,none⟩ = some (.slice (Own.a B.2) l.length (Own.c B.2))),(∀ w1,S w1 → w1.cell? ⟨b,1,none⟩ = some (.slice (Own.a B.2) l.length (Own.c B.2)))]) ⟨(fun w1 h => h.ocell 0 rfl rfl),(fun w1 h => h.ocell 0 rfl rfl),trivial⟩ ?_
 refine Ae 4 rfl 2  (Eff.sliceData rfl B.2 hok.pos (n := l.length) kr) (fun _ _ => (.cons_cons _ (List.nil_sublist _))) ?_
 rintro ⟨⟩ -
 refine Ae 10 rfl 1  (Eff.unsafeStr rfl Tryz.underlying172 kr B.2 hok.own kr kr [(b,.cells #[B.1,.slice (Own.a B.2) l.length (Own.c B.2)] 145 (0,0))] [] rfl om) (fun _ _ => (.cons_cons _ .slnil)) ?_
 rintro ⟨⟩ -
 refine Ap [11] [] (some [2]) #[true,true,true,true,true,true,true,true,true,true,true,true] (.cons_cons _ .slnil) 0 n0 trivial ?_
 refine CfgA.done kr ?_
 refine Cfg.ret rfl (rs := [.tmp 2]) rfl [.string ⟨l.toArray⟩] ⟨kr,trivial⟩ (fun w1 hp => ?_)
 exact ⟨(),trivial,rfl,_,hp.sub (List.nil_sublist _)⟩
end Go.Proofs.YtohjpggjgomgoaaGreatDoor
