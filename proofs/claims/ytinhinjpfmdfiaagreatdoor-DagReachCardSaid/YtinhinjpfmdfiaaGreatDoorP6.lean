/- Texts on which the proof of this claim stands: I18, I19, I20, I21, I22. -/
import Derived.Test.YtinhinjpfmdfiaaGreatDoorP5
import Derived.TacticsIn
namespace Go.Proofs.YtinhinjpfmdfiaaGreatDoor
namespace I
open K (one aggB run_underlying' run_sizeOf' add_none run_v cell_cells)
set_option linter.unusedVariables false
section
variable {σ σ' : Sg} {h h' : AV} {nx nx' : Nat} {w0 w w' : World} {B : Fr}
theorem HS.more (H : HS σ h nx w0 B w) (hk : ∀ k,k < w.heap.size → w'.heap[k]? = w.heap[k]?) (hs : w.heap.size ≤ w'.heap.size) (h1 : w'.os = w.os) (h2 : w'.tape = w.tape) (h3 : w'.output = w.output) : HS σ h nx w0 B w' :=
 ⟨h1.trans H.os,h2.trans H.tape,h3.trans H.output,Nat.le_trans H.size hs,fun k hlt hB => (hk k (Nat.lt_of_lt_of_le hlt H.size)).trans (H.block k hlt hB),
  fun b hb => (H.blk b hb).mono (fun _ _ h => h) (fun p hp hl => hk _ (H.real_lt hp hl)),H.dom,H.nxle,H.dist,H.acc⟩
theorem HS.bind (H : HS σ h nx w0 B w) {b0 : Nat} {p : Pl} (h0 : σ b0 = none) (hlt : b0 < nx) : Sub σ (ext σ b0 p) ∧ HS (ext σ b0 p) h nx w0 B w := by
 have hsub : Sub σ (ext σ b0 p) := fun b q hb => by
  unfold ext
  rw [if_neg (fun e => by rw [e,h0] at hb; cases hb)]; exact hb
 have hnl : live (cget HD h b0) = false := by
  cases hl : live (cget HD h b0) with
  | false => rfl
  | true =>
   obtain ⟨q,hq⟩ := (H.blk b0 (Nat.lt_of_lt_of_le hlt H.nxle)).name hl
   rw [h0] at hq; cases hq
 have hback : ∀ b q,live (cget HD h b) = true → ext σ b0 p b = some q → σ b = some q := fun b q hl hb => by
  unfold ext at hb
  rw [if_neg (fun e => by rw [e,hnl] at hl; cases hl)] at hb; exact hb
 refine ⟨hsub,H.os,H.tape,H.output,H.size,H.block,fun b hb => (H.blk b hb).mono hsub (fun _ _ _ => rfl),fun b q hb => ?_,H.nxle,fun b b' q q' hne hb hb' hl hl' => ?_,fun b q hb hl => ?_⟩
 ·unfold ext at hb
  by_cases hbb : b = b0
  ·rw [hbb]; exact hlt
  ·rw [if_neg hbb] at hb; exact H.dom b q hb
 ·exact H.dist b b' q q' hne (hback b q (live_of hl) hb) (hback b' q' hl' hb') hl hl'
 ·exact H.acc b q (hback b q hl hb) hl
theorem HS.lay (H : HS σ h nx w0 B w) {b0 : Nat} {p : Pl} {x : AV} (hb0 : σ b0 = some p) (hx : BlkRel σ w0 B w b0 x) (hm : w0.heap.size ≤ p.1) (hd : ∀ b q,b ≠ b0 → σ b = some q → live (cget HD h b) = true → q.1 ≠ p.1) :
  HS σ (cput HD h b0 x) nx w0 B w := by
 have hlt := H.lt hb0
 have hget : ∀ c,c < 2 ^ HD → cget HD (cput HD h b0 x) c = if c = b0 then x else cget HD h c := fun c hc => cget_cput HD h b0 c x hlt hc
 refine ⟨H.os,H.tape,H.output,H.size,H.block,fun c hc => ?_,H.dom,H.nxle,fun c c' q q' hne hc hc' hlc hlc' => ?_,fun c q hc hlc => ?_⟩
 ·rw [hget c hc]
  by_cases hcb : c = b0
  ·rw [if_pos hcb,hcb]; exact hx
  ·rw [if_neg hcb]; exact H.blk c hc
 ·rw [hget c (H.lt hc)] at hlc
  rw [hget c' (H.lt hc')] at hlc'
  by_cases hcb : c = b0
  ·have hcb' : c' ≠ b0 := fun e => hne (hcb.trans e.symm)
   rw [if_neg hcb'] at hlc'
   rw [hcb,hb0] at hc
   simp only [Option.some.injEq] at hc
   rw [← hc]; exact fun e => hd c' q' hcb' hc' hlc' e.symm
  ·rw [if_neg hcb] at hlc
   by_cases hcb' : c' = b0
   ·rw [hcb',hb0] at hc'
    simp only [Option.some.injEq] at hc'
    rw [← hc']; exact hd c q hcb hc (live_of hlc)
   ·rw [if_neg hcb'] at hlc'
    exact H.dist c c' q q' hne hc hc' hlc hlc'
 ·rw [hget c (H.lt hc)] at hlc
  by_cases hcb : c = b0
  ·rw [hcb,hb0] at hc
   simp only [Option.some.injEq] at hc
   rw [← hc]; exact .inr hm
  ·rw [if_neg hcb] at hlc
   exact H.acc c q hc hlc
def img (σ : Sg) (h : AV) : Fr := ⟨fun r => ∃ b p,σ b = some p ∧ liveW (cget HD h b) = true ∧ p.1 = r,fun r => ∃ b p,σ b = some p ∧ live (cget HD h b) = true ∧ p.1 = r⟩
theorem HS.mine (H : HS σ h nx w0 B w) {b : Nat} {p : Pl} (hb : σ b = some p) (hl : liveW (cget HD h b) = true) : B.wr p.1 ∨ w0.heap.size ≤ p.1 := (H.blk b (H.lt hb)).wr hl hb
theorem HS.rebase (H : HS σ h nx w0 B w) : HS σ h nx w (img σ h) w :=
 ⟨rfl,rfl,rfl,Nat.le_refl _,fun _ _ _ => rfl,fun b hb => (H.blk b hb).rebase (fun p hp hl => .inl ⟨b,p,hp,hl,rfl⟩),H.dom,H.nxle,H.dist,fun b p hb hl => .inl ⟨b,p,hb,hl,rfl⟩⟩
theorem HS.compose (H : HS σ h nx w0 B w) (H' : HS σ' h' nx' w (img σ h) w') : HS σ' h' nx' w0 B w' := by
 have hwr : ∀ r,((img σ h).wr r ∨ w.heap.size ≤ r) → (B.wr r ∨ w0.heap.size ≤ r) := by
  rintro r (⟨b,p,hb,hl,rfl⟩ | hr)
  ·exact H.mine hb hl
  ·exact .inr (Nat.le_trans H.size hr)
 refine ⟨H'.os.trans H.os,H'.tape.trans H.tape,H'.output.trans H.output,Nat.le_trans H.size H'.size,fun k hk hB => ?_,fun b hb => ?_,H'.dom,H'.nxle,H'.dist,fun b p hb hl => ?_⟩
 ·rw [H'.block k (Nat.lt_of_lt_of_le hk H.size) (fun hw => by
   rcases hwr k (.inl hw) with h1 | h1
   ·exact hB h1
   ·omega)]
  exact H.block k hk hB
 ·exact (H'.blk b hb).rebase (fun p hp hl => hwr _ ((H'.blk b hb).wr hl hp))
 ·rcases H'.acc b p hb hl with ⟨c,q,hc,hlc,hq⟩ | hr
  ·rw [← hq]; exact H.acc c q hc hlc
  ·exact .inr (Nat.le_trans H.size hr)
theorem HS.skip (H : HS σ h nx w0 B w) (hle : nx ≤ nx') (hm : nx' ≤ 2 ^ HD) : HS σ h nx' w0 B w :=
 ⟨H.os,H.tape,H.output,H.size,H.block,H.blk,fun b p hb => Nat.lt_of_lt_of_le (H.dom b p hb) hle,hm,H.dist,H.acc⟩
end
structure MSim (C : DC) (w0 : World) (B : Fr) (σ : Sg) (h : AV) (nx : Nat) (pt : AV) (w : World) : Prop where
 hs : HS σ h nx w0 B w
 nx : C.nx0 + C.ops.size ≤ nx
 pend : ∀ k,k < C.ops.size → live (cget C.pd pt k) = true → ∃ p,σ (C.nx0 + k) = some p ∧ BlkRel σ w0 B w (C.nx0 + k) (cget C.pd pt k) ∧ w0.heap.size ≤ p.1 ∧ p.1 < w.heap.size ∧ live (cget HD h (C.nx0 + k)) = false ∧ (∀ b q,b ≠ C.nx0 + k → σ b = some q → live (cget HD h b) = true → q.1 ≠ p.1)
 pdist : ∀ k k' p p',k < C.ops.size → k' < C.ops.size → k ≠ k' → live (cget C.pd pt k) = true → live (cget C.pd pt k') = true → σ (C.nx0 + k) = some p → σ (C.nx0 + k') = some p' → p.1 ≠ p'.1
section
variable {C : DC} {w0 w w' : World} {B : Fr} {σ σ' : Sg}
theorem MSim.merge (hpd : C.ops.size ≤ 2 ^ C.pd) : ∀ {l : List Nat} {h : AV} {nx : Nat} {pt : AV},(∀ j ∈ l,j < C.ops.size) → MSim C w0 B σ h nx pt w → MSim C w0 B σ (merge C.pd C.nx0 l h pt).1 nx (I.merge C.pd C.nx0 l h pt).2 w
 | [],h,nx,pt,_,M => M
 | j :: l,h,nx,pt,hl,M => by
  have hj := hl j (List.mem_cons_self ..)
  simp only [I.merge]
  cases hb : (live (cget C.pd pt j) && Nat.blt j (2 ^ C.pd)) with
  | false => exact MSim.merge hpd (fun k hk => hl k (List.mem_cons_of_mem _ hk)) M
  | true =>
   simp only [Bool.and_eq_true] at hb
   simp only [cond_true]
   refine MSim.merge hpd (fun k hk => hl k (List.mem_cons_of_mem _ hk)) ?_
   obtain ⟨p,p1,p2,p3,p4,p6,p5⟩ := M.pend j hj hb.1
   have hget : ∀ k,k < C.ops.size → cget C.pd (cput C.pd pt j .undef) k = if k = j then .undef else cget C.pd pt k := fun k hk => cget_cput C.pd pt j k .undef om om
   have hlive : ∀ k,k < C.ops.size → live (cget C.pd (cput C.pd pt j .undef) k) = true → k ≠ j ∧ live (cget C.pd pt k) = true := fun k hk hlk => by
    rw [hget k hk] at hlk
    by_cases hkj : k = j
    ·rw [if_pos hkj] at hlk; simp [live] at hlk
    ·rw [if_neg hkj] at hlk; exact ⟨hkj,hlk⟩
   refine ⟨M.hs.lay p1 p2 p3 p5,M.nx,fun k hk hlk => ?_,fun k k' q q' hk hk' hne hlk hlk' hq hq' => ?_⟩
   ·obtain ⟨hkj,hlk'⟩ := hlive k hk hlk
    obtain ⟨q,q1,q2,q3,q4,q6,q5⟩ := M.pend k hk hlk'
    rw [hget k hk,if_neg hkj]
    refine ⟨q,q1,q2,q3,q4,by rw [cget_cput HD h (C.nx0 + j) (C.nx0 + k) _ (M.hs.lt p1) (M.hs.lt q1),if_neg om]; exact q6,fun b u hbk hbu hlb => ?_⟩
    rw [cget_cput HD h (C.nx0 + j) b _ (M.hs.lt p1) (M.hs.lt hbu)] at hlb
    by_cases hbj : b = C.nx0 + j
    ·rw [hbj,p1] at hbu
     simp only [Option.some.injEq] at hbu
     rw [← hbu]
     exact M.pdist j k p q hj hk (fun e => hkj e.symm) hb.1 hlk' p1 q1
    ·rw [if_neg hbj] at hlb
     exact q5 b u hbk hbu hlb
   ·exact M.pdist k k' q q' hk hk' hne (hlive k hk hlk).2 (hlive k' hk' hlk').2 hq hq'
theorem MSim.behind {h h' pt : AV} {nx nx' : Nat} (M : MSim C w0 B σ h nx pt w) (hx : SubX nx σ σ') (hdk : Dk nx h h') (hle : nx ≤ nx') (H' : HS σ' h' nx' w (img σ h) w') : MSim C w0 B σ' h' nx' pt w' := by
 refine ⟨M.hs.compose H',Nat.le_trans M.nx hle,fun k hk hlk => ?_,fun k k' p p' hk hk' hne hlk hlk' hp hp' => ?_⟩
 ·obtain ⟨p,p1,p2,p3,p4,p6,p5⟩ := M.pend k hk hlk
  have hsame : w'.heap[p.1]? = w.heap[p.1]? := H'.block p.1 p4 (fun ⟨b,q,hb,hl,he⟩ => by
   by_cases hbk : b = C.nx0 + k
   ·rw [hbk] at hl; rw [live_of hl] at p6; cases p6
   ·exact p5 b q hbk hb (live_of hl) he)
  refine ⟨p,hx.1 _ _ p1,p2.mono hx.1 (fun q hq _ => by rw [p1] at hq; simp only [Option.some.injEq] at hq; rw [← hq]; exact hsame),p3,Nat.lt_of_lt_of_le p4 H'.size,?_,fun b q hbk hb hl => ?_⟩
  ·cases hl : live (cget HD h' (C.nx0 + k)) with
   | false => rfl
   | true => have := hdk (C.nx0 + k) (by have := M.nx; omega) hl; rw [this] at p6; cases p6
  ·rcases H'.acc b q hb hl with ⟨c,u,hc,hlc,he⟩ | hr
   ·by_cases hck : c = C.nx0 + k
    ·rw [hck,p6] at hlc; cases hlc
    ·rw [← he]; exact p5 c u hck hc hlc
   ·omega
 ·rw [hx.2 (C.nx0 + k) (by have := M.nx; omega)] at hp
  rw [hx.2 (C.nx0 + k') (by have := M.nx; omega)] at hp'
  exact M.pdist k k' p p' hk hk' hne hlk hlk' hp hp'
end
end I
end Go.Proofs.YtinhinjpfmdfiaaGreatDoor
namespace Go.Proofs.YtinhinjpfmdfiaaGreatDoor
namespace I
open K (one aggB run_underlying' run_sizeOf' add_none run_v cell_cells)
set_option linter.unusedVariables false
def CallOk (P : Program) (G : Nat) (f : Nat) (args : List AV) (h : AV) (nx : Nat) (v h' : AV) (nx' : Nat) : Prop :=
 ∀ (σ : Sg) (w0 : World) (B : Fr) (w : World) (vs : List Value),HS σ h nx w0 B w → GRel σ G → RelL σ args vs →
  CalleeOk P σ f vs w fun e w' => ∃ σ' v',SubX nx σ σ' ∧ Dk nx h h' ∧ nx ≤ nx' ∧ e = .returned v' ∧ Rel σ' v v' ∧ HS σ' h' nx' w0 B w'
structure DSim (ds : List Deferred) (C : DC) (w0 : World) (B : Fr) (h0 : AV) (σ : Sg) (s : D) (l : Array Bool) (a : Act) (w : World) : Prop where
 sl : SlotRel ds σ C.n C.d s.tm a
 g : GRel σ C.G
 m : MSim C w0 B σ s.h s.nx s.pt w
 free : ∀ k,k < C.ops.size → l.getD k true = false → σ (C.nx0 + k) = none
 dk : Dk C.nx0 h0 s.h
def KOk (C : DC) : Prop := ∀ f args h nx v h' nx',C.K f args h nx = some (v,h',nx') → CallOk C.P C.G f args h nx v h' nx'
theorem getD_set (l : Array Bool) (i k : Nat) : (l.setIfInBounds i true).getD k true = false → k ≠ i ∧ l.getD k true = false := by
 intro h
 by_cases hki : i = k
 ·subst hki
  by_cases hlt : i < l.size
  ·simp [hlt] at h
  ·simp [hlt] at h
 ·refine ⟨fun e => hki e.symm,?_⟩
  rwa [getD_set_ne true hki] at h
section
variable {ds : List Deferred} {ro : Option Nat} {C : DC} {w0 w : World} {B : Fr} {hb : AV} {σ : Sg} {a : Act} {s s' : D} {l : Array Bool} {Q : Exit → Act → World → Prop}
theorem ancN_lt : ∀ (k j : Nat),(∀ (j : Nat) o,C.ops[j]? = some o → ∀ e ∈ o.after,e.on < C.ops.size) → ∀ x ∈ ancN C.ops k j,x < C.ops.size
 | 0,j,_,x,hx => by simp [ancN] at hx
 | k + 1,j,h,x,hx => by
  unfold ancN at hx
  split at hx
  ·simp at hx
  ·rename_i o ho
   obtain ⟨e,he,hx⟩ := List.mem_flatMap.1 hx
   cases hb : Region.binds .any e with
   | false => simp [hb] at hx
   | true =>
    simp only [hb,cond_true] at hx
    rcases List.mem_cons.1 hx with rfl | hx
    ·exact h j o ho e (by simpa using he)
    ·exact ancN_lt k e.on h x hx
theorem merge_dk {pd nx0 m : Nat} (hm : nx0 + m ≤ 2 ^ HD) : ∀ {l : List Nat} {h pt : AV},(∀ j ∈ l,j < m) → Dk nx0 h (I.merge pd nx0 l h pt).1
 | [],h,pt,_ => Dk.refl _ _
 | j :: l,h,pt,hl => by
  have hj := hl j (List.mem_cons_self ..)
  simp only [I.merge]
  cases hb : (live (cget pd pt j) && Nat.blt j (2 ^ pd)) with
  | false => exact merge_dk hm (fun k hk => hl k (List.mem_cons_of_mem _ hk))
  | true =>
   simp only [cond_true]
   refine Dk.trans ?_ (merge_dk hm (fun k hk => hl k (List.mem_cons_of_mem _ hk))) (Nat.le_refl _)
   intro c hc hlc
   rw [cget_cput HD h (nx0 + j) c _ om om,if_neg om] at hlc
   exact hlc
theorem dstep_ok (hK : KOk C) (hpd : C.ops.size ≤ 2 ^ C.pd) (hed : ∀ (j : Nat) o,C.ops[j]? = some o → ∀ e ∈ o.after,e.on < C.ops.size) (S : DSim ds C w0 B hb σ s l a w) {i : Nat} {o : Oper} (ho : C.ops[i]? = some o) (hun : l.getD i true = false) (hs : dstep C s i o = some s')
  {Kt : Act → World → Prop} (hKt : ∀ σ' a' w',SubX C.nx0 σ σ' → DSim ds C w0 B hb σ' s' (l.setIfInBounds i true) a' w' → Kt a' w') : wpOpIn (fen ro) 0 C.P C.ops Q i Kt a w := by
 have hi : i < C.ops.size := (Array.getElem?_eq_some_iff.1 ho).1
 unfold wpOpIn
 simp only [ho]
 have hfree : ∀ k,k < C.ops.size → (l.setIfInBounds i true).getD k true = false → σ (C.nx0 + k) = none := fun k hk hl => S.free k hk (getD_set l i k hl).2
 have hnx := S.m.nx
 have hρ := opndS_ok S.sl S.g (o.looksAt C.ops)
 unfold dstep at hs
 split at hs
 ·cases hs
 ·rename_i hw
  rw [wantA_ok S.sl hw]
  simp only [Bool.false_eq_true,if_false]
  simp only [Option.some.injEq] at hs
  subst hs
  exact ⟨fun _ _ => trivial,hKt σ _ w (SubX.refl _ σ) ⟨put_ok S.sl .undef,S.g,S.m,hfree,S.dk⟩⟩
 ·rename_i hw
  rw [wantA_ok S.sl hw]
  simp only [if_true]
  cases hq : quietK o with
  | true =>
   simp only [hq,cond_true,quiet1] at hs
   split at hs
   ·rename_i q hqe
    simp only [Option.some.injEq] at hs
    subst hs
    unfold qeff at hqe
    dsimp only at hqe
    split at hqe
    ·rename_i v hv
     simp only [Option.some.injEq] at hqe
     subst hqe
     obtain ⟨u,h1,h2⟩ := apure_ok (P := C.P) (w := w) hρ hv
     exact wpIn_value h2 (hKt σ _ w (SubX.refl _ σ) ⟨put_ok S.sl h1,S.g,S.m,hfree,S.dk⟩)
    ·split at hqe
     ·rename_i nv x hv
      simp only [Option.some.injEq] at hqe
      subst hqe
      obtain ⟨p,u,w',ob,h1,h2,h3,h4,h5,h6,h7,h8⟩ := anew_core (P := C.P) (w := w) (w0 := w0) (B := B) S.m.hs.size hρ hv
      have h0 := S.free i hi hun
      have hmore : ∀ k,k < w.heap.size → w'.heap[k]? = w.heap[k]? := fun k hk => by rw [h2,Array.getElem?_push,if_neg om]
      have hsz : w'.heap.size = w.heap.size + 1 := by rw [h2]; simp
      have H1 := S.m.hs.more hmore om h3 h4 h5
      obtain ⟨hsub,H2⟩ := H1.bind (p := p) h0 (show C.nx0 + i < s.nx by omega)
      obtain ⟨h9,h10⟩ := h8 (C.nx0 + i) (ext σ (C.nx0 + i) p) hsub (by simp [ext])
      have hother : ∀ k,k ≠ i → ext σ (C.nx0 + i) p (C.nx0 + k) = σ (C.nx0 + k) := fun k hk => by unfold ext; rw [if_neg om]
      have hgp : ∀ k,k < C.ops.size → cget C.pd (cput C.pd s.pt i x) k = if k = i then x else cget C.pd s.pt k := fun k hk => cget_cput C.pd s.pt i k x om om
      refine wpIn_value h1 ?_
      refine hKt (ext σ (C.nx0 + i) p) _ w' ⟨hsub,fun b hb => by unfold ext; rw [if_neg om]⟩ ⟨put_ok (S.sl.mono hsub) h9,S.g.mono hsub,⟨H2,hnx,fun k hk hlk => ?_,fun k k' q q' hk hk' hne hlk hlk' hq' hq'' => ?_⟩,fun k hk hl => ?_,S.dk⟩
      ·by_cases hki : k = i
       ·subst hki
        show ∃ p',_
        refine ⟨p,by simp [ext],?_,by rw [h6]; exact S.m.hs.size,by rw [h6]; omega,?_,fun b q hbk hb hl => ?_⟩
        ·show BlkRel _ _ _ _ _ (cget C.pd (cput C.pd s.pt k x) k)
         rw [hgp k hk,if_pos rfl]; exact h10
        ·cases hl : live (cget HD s.h (C.nx0 + k)) with
         | false => exact hl
         | true =>
          obtain ⟨q,hq⟩ := (S.m.hs.blk (C.nx0 + k) (Nat.lt_of_lt_of_le (show C.nx0 + k < s.nx by omega) S.m.hs.nxle)).name hl
          rw [h0] at hq; cases hq
        ·unfold ext at hb
         rw [if_neg hbk] at hb
         have := S.m.hs.real_lt hb hl
         rw [h6]; omega
       ·have hlk' : live (cget C.pd s.pt k) = true := by
         have := hlk
         simp only [QE.app,optput] at this
         rw [hgp k hk,if_neg hki] at this; exact this
        obtain ⟨q,q1,q2,q3,q4,q6,q5⟩ := S.m.pend k hk hlk'
        refine ⟨q,by rw [hother k hki]; exact q1,?_,q3,by omega,q6,fun b u hbk hb hl => ?_⟩
        ·show BlkRel _ _ _ _ _ (cget C.pd (cput C.pd s.pt i x) k)
         rw [hgp k hk,if_neg hki]
         exact q2.mono hsub (fun r hr _ => by rw [q1] at hr; simp only [Option.some.injEq] at hr; rw [← hr]; exact hmore _ q4)
        ·by_cases hbi : b = C.nx0 + i
         ·have hnl : live (cget HD s.h b) = true := hl
          rw [hbi] at hnl
          obtain ⟨q,hq⟩ := (S.m.hs.blk (C.nx0 + i) (Nat.lt_of_lt_of_le (show C.nx0 + i < s.nx by omega) S.m.hs.nxle)).name hnl
          rw [h0] at hq; cases hq
         ·unfold ext at hb
          rw [if_neg hbi] at hb
          exact q5 b u hbk hb hl
      ·have key : ∀ k,k < C.ops.size → k ≠ i → live (cget C.pd (cput C.pd s.pt i x) k) = true → live (cget C.pd s.pt k) = true := fun k hk hki hl => by rw [hgp k hk,if_neg hki] at hl; exact hl
       simp only [QE.app,optput] at hlk hlk'
       by_cases hki : k = i
       ·have hki' : k' ≠ i := fun e => hne (hki.trans e.symm)
        rw [hki] at hq'
        simp only [ext,if_true,Option.some.injEq] at hq'
        rw [hother k' hki'] at hq''
        obtain ⟨u',q1,q2,q3,q4,q6,q5⟩ := S.m.pend k' hk' (key k' hk' hki' hlk')
        rw [q1] at hq''
        simp only [Option.some.injEq] at hq''
        rw [← hq',← hq'',h6]; omega
       ·rw [hother k hki] at hq'
        by_cases hki' : k' = i
        ·rw [hki'] at hq''
         simp only [ext,if_true,Option.some.injEq] at hq''
         obtain ⟨u',q1,q2,q3,q4,q6,q5⟩ := S.m.pend k hk (key k hk hki hlk)
         rw [q1] at hq'
         simp only [Option.some.injEq] at hq'
         rw [← hq',← hq'',h6]; omega
        ·rw [hother k' hki'] at hq''
         exact S.m.pdist k k' q q' hk hk' hne (key k hk hki hlk) (key k' hk' hki' hlk') hq' hq''
      ·have hki := (getD_set l i k hl).1
       rw [hother k hki]; exact hfree k hk hl
     ·split at hqe
      ·rename_i v hv
       simp only [Option.some.injEq] at hqe
       subst hqe
       obtain ⟨u,h1,h2⟩ := aread_ok (P := C.P) S.m.hs hρ hv
       exact wpIn_value h2 (hKt σ _ w (SubX.refl _ σ) ⟨put_ok S.sl h1,S.g,S.m,hfree,S.dk⟩)
      ·cases hqe
   ·cases hs
  | false =>
   simp only [hq,cond_false,eff1] at hs
   have M := S.m.merge hpd (l := ancN C.ops C.ops.size i) (ancN_lt _ _ hed)
   have hR := M.hs.rebase
   have hmd : Dk C.nx0 s.h (I.merge C.pd C.nx0 (ancN C.ops C.ops.size i) s.h s.pt).1 := merge_dk (by have := M.hs.nxle; omega) (ancN_lt _ _ hed)
   split at hs
   ·rename_i v h' nx' hr
    cases hk : chkW C h' s.wt (others C i) with
    | false => simp [hk] at hs
    | true =>
     simp only [hk,cond_true,Option.some.injEq] at hs
     subst hs
     have hnx0 : ∀ {σ' : Sg},SubX s.nx σ σ' → SubX C.nx0 σ σ' := fun h => ⟨h.1,fun b hb => h.2 b om⟩
     split at hr
     ·rename_i r hr'
      simp only [Option.some.injEq] at hr
      rw [hr] at hr'
      obtain ⟨σ',u,w',g1,g2,g3,g4,g5,g6⟩ := aeff_ok (P := C.P) hR (fun _ => rfl) hρ hr'
      have hD : DSim ds C w0 B hb σ' { tm := putA C.n C.d s.tm o.dst v,h := h',nx := nx',pt := (I.merge C.pd C.nx0 (ancN C.ops C.ops.size i) s.h s.pt).2,wt := s.wt } (l.setIfInBounds i true) (a.put o.dst u) w' :=
       ⟨put_ok (S.sl.mono g1.1) g5,S.g.mono g1.1,M.behind g1 g2 g3 g6,fun k hk hl => by rw [g1.2 (C.nx0 + k) om]; exact hfree k hk hl,(S.dk.trans hmd (Nat.le_refl _)).trans g2 om⟩
      rcases g4 with g4 | ⟨g4,rfl⟩
      ·exact wpIn_value g4 (hKt σ' _ w' (hnx0 g1) hD)
      ·exact wpIn_skipOp g4 (hKt σ' _ w' (hnx0 g1) hD)
     ·split at hr
      ·rename_i f args hcal
       refine wpIn_callOp hR hρ hcal (fun vs g1 => hK f args _ _ v h' nx' hr σ w (img σ _) w vs hR S.g g1) ?_
       rintro e w' ⟨σ',v',k1,k2,k3,rfl,k5,k6⟩
       exact ⟨v',rfl,hKt σ' _ w' (hnx0 k1) ⟨put_ok (S.sl.mono k1.1) k5,S.g.mono k1.1,M.behind k1 k2 k3 k6,fun k hk hl => by rw [k1.2 (C.nx0 + k) om]; exact hfree k hk hl,(S.dk.trans hmd (Nat.le_refl _)).trans k2 om⟩⟩
      ·cases hr
   ·cases hs
end
end I
end Go.Proofs.YtinhinjpfmdfiaaGreatDoor
namespace Go.Proofs.YtinhinjpfmdfiaaGreatDoor
namespace I
open K (one aggB run_underlying' run_sizeOf' add_none run_v cell_cells)
set_option linter.unusedVariables false
def Good (C : DC) (F : D) : Nat → Array Bool → D → Prop
 | 0,l,s => Region.ready .any C.ops l = [] ∧ s = F
 | f + 1,l,s => (Region.ready .any C.ops l = [] → s = F) ∧ ∀ i ∈ Region.ready .any C.ops l,∃ o s',C.ops[i]? = some o ∧ dstep C s i o = some s' ∧ Good C F f (l.setIfInBounds i true) s'
def Closed (ops : Array Oper) (l : Array Bool) : Prop := ∀ k,l.getD k false = true → ∀ o,ops[k]? = some o → ∀ e ∈ o.after,Region.binds .any e = true → l.getD e.on false = true
def CleanAll (C : DC) (l : Array Bool) (s : D) : Prop := ∀ i,i < C.ops.size → l.getD i true = false → Clean C s i
structure Inf where
 idx : Nat
 dst : Option Nat
 looks : List Nat
 preds : List Nat
 quiet : Bool
def predsOf (o : Oper) : List Nat := (o.after.toList.filter (Region.binds .any)).map (·.on)
def infOf (ops : Array Oper) (i : Nat) (o : Oper) : Inf := ⟨i,o.dst,o.looksAt ops,predsOf o,quietK o⟩
def infsOf (ops : Array Oper) : List Oper → Nat → List Inf
 | [],_ => []
 | o :: l,i => infOf ops i o :: infsOf ops l (i + 1)
def apartI (x y : Inf) : Bool :=
  (match x.dst with
   | some d => !(y.looks.any (Nat.beq d)) && (match y.dst with
     | some e => !(Nat.beq d e)
     | none => true)
   | none => true) &&
  (match y.dst with
   | some d => !(x.looks.any (Nat.beq d))
   | none => true)
def pairI (ops : Array Oper) (x y : Inf) : Bool := Nat.beq x.idx y.idx || (apartI x y || (y.preds.any (Nat.beq x.idx) || (x.preds.any (Nat.beq y.idx) || (ancN ops ops.size x.idx).any (Nat.beq y.idx))))
def readyI (done : List Nat) (x : Inf) : Bool := x.preds.all fun p => done.any (Nat.beq p)
def greedy : Nat → List Nat → List Inf → Option (List Nat)
 | _,_,[] => some []
 | 0,_,_ :: _ => none
 | f + 1,done,x0 :: rest0 => match (x0 :: rest0).find? (fun x => x.quiet && readyI done x) with
  | some x => match greedy f (x.idx :: done) ((x0 :: rest0).filter fun y => !(Nat.beq y.idx x.idx)) with
   | some is => some (x.idx :: is)
   | none => none
  | none => match (x0 :: rest0).filter (readyI done) with
   | [x] => match greedy f (x.idx :: done) ((x0 :: rest0).filter fun y => !(Nat.beq y.idx x.idx)) with
    | some is => some (x.idx :: is)
    | none => none
   | _ => none
def pairsOk (ops : Array Oper) (xs : List Inf) : Bool := xs.all fun x => !x.quiet || xs.all fun y => pairI ops x y
def schedF (ops : Array Oper) : Option (List Nat) := bif pairsOk ops (infsOf ops ops.toList 0) then greedy ops.size [] (infsOf ops ops.toList 0) else none
def runS (C : DC) : List Nat → D → Option D
 | [],s => some s
 | i :: is,s => match C.ops[i]? with
  | some o => match dstep C s i o with
   | some s' => runS C is s'
   | none => none
  | none => none
section
variable {C : DC} {F : D} {l : Array Bool}
theorem getD_true_false {i : Nat} (h : l.getD i true = false) : l.getD i false = false := by
 rcases Nat.lt_or_ge i l.size with hlt | hge
 ·simp [hlt] at h ⊢; exact h
 ·simp [hge] at h
theorem closed_add {i : Nat} (hc : Closed C.ops l) (hr : i ∈ Region.ready .any C.ops l) : Closed C.ops (l.setIfInBounds i true) := by
 intro k hk o ho e he hb
 apply getD_set_true
 by_cases hki : k = i
 ·subst hki
  obtain ⟨_,o',ho',hall⟩ := mem_ready.1 hr
  rw [ho] at ho'; simp only [Option.some.injEq] at ho'; subst ho'
  exact hall e he hb
 ·rw [getD_set_ne false (fun h => hki h.symm)] at hk
  exact hc k hk o ho e he hb
theorem anc_listed (hc : Closed C.ops l) : ∀ (k j : Nat),(∀ o,C.ops[j]? = some o → ∀ e ∈ o.after,Region.binds .any e = true → l.getD e.on false = true) → ∀ x ∈ ancN C.ops k j,l.getD x false = true
 | 0,j,_,x,hx => by simp [ancN] at hx
 | k + 1,j,h,x,hx => by
  unfold ancN at hx
  split at hx
  ·simp at hx
  ·rename_i o ho
   obtain ⟨e,he,hx⟩ := List.mem_flatMap.1 hx
   cases hb : Region.binds .any e with
   | false => simp [hb] at hx
   | true =>
    simp only [hb,cond_true] at hx
    have he' : e ∈ o.after := by simpa using he
    have h1 := h o ho e he' hb
    rcases List.mem_cons.1 hx with rfl | hx
    ·exact h1
    ·exact anc_listed hc k e.on (fun o' ho' e' he'' hb' => hc e.on h1 o' ho' e' he'' hb') x hx
theorem good_first (hn : C.n ≤ 2 ^ C.d) (hpd : C.ops.size ≤ 2 ^ C.pd) {i : Nat} {oi : Oper} (hi : C.ops[i]? = some oi) (hq : quietK oi = true) : ∀ (f : Nat) (l : Array Bool) (s s1 : D),
  (∀ j oj,C.ops[j]? = some oj → j ≠ i → l.getD j true = false → (∀ e ∈ oj.after,Region.binds .any e = true → e.on ≠ i) → oi.apart C.ops oj = true) →
  Closed C.ops l → CleanAll C l s → i ∈ Region.ready .any C.ops l → dstep C s i oi = some s1 → Good C F f (l.setIfInBounds i true) s1 → Good C F (f + 1) l s := by
 have hin : i < C.ops.size := (Array.getElem?_eq_some_iff.1 hi).1
 intro f
 induction f with
 | zero =>
  intro l s s1 _ hc hcl hr h1 H
  refine ⟨fun h => (by rw [h] at hr; cases hr),fun j hj => ?_⟩
  by_cases hji : j = i
  ·subst hji; exact ⟨oi,s1,hi,h1,H⟩
  ·have := ready_mono hj hji
   rw [H.1] at this
   cases this
 | succ f ih =>
  intro l s s1 hfree hc hcl hr h1 H
  refine ⟨fun h => (by rw [h] at hr; cases hr),fun j hj => ?_⟩
  by_cases hji : j = i
  ·subst hji; exact ⟨oi,s1,hi,h1,H⟩
  ·obtain ⟨oj,s2,hoj,h2,H2⟩ := H.2 j (ready_mono hj hji)
   have hjn : j < C.ops.size := (Array.getElem?_eq_some_iff.1 hoj).1
   obtain ⟨hjun,oj',hoj',hall⟩ := mem_ready.1 hj
   rw [hoj] at hoj'; simp only [Option.some.injEq] at hoj'; subst hoj'
   have hiun := (mem_ready.1 hr).1
   have hif := getD_true_false hiun
   have hnot : ∀ e ∈ oj.after,Region.binds .any e = true → e.on ≠ i := fun e he hb heq => by
    have := hall e he hb
    rw [heq,hif] at this; cases this
   have hanc : i ∉ ancN C.ops C.ops.size j := fun hm => by
    have := anc_listed hc C.ops.size j (fun o ho e he hb => by rw [hoj] at ho; simp only [Option.some.injEq] at ho; subst ho; exact hall e he hb) i hm
    rw [hif] at this; cases this
   obtain ⟨s',d1,d2⟩ := diamond hn hi hoj hpd (fun e => hji e.symm) (hcl i hin hiun) hq (hfree j oj hoj hji hjun hnot) hanc h1 h2
   refine ⟨oj,s',hoj,d1,ih (l.setIfInBounds j true) s' s2 ?_ (closed_add hc hj) ?_ (ready_mono hr (Ne.symm hji)) d2 ?_⟩
   ·intro k ok hk hki hun hno
    refine hfree k ok hk hki ?_ hno
    exact (getD_set l j k hun).2
   ·intro k hk hun
    obtain ⟨hkj,hun'⟩ := getD_set l j k hun
    exact dstep_clean om om (fun e => hkj e.symm) (hcl k hk hun') d1
   ·rw [Array.setIfInBounds_comm _ _ hji]
    exact H2
theorem infsOf_mem {ops : Array Oper} : ∀ {l : List Oper} {i : Nat} {x : Inf},x ∈ infsOf ops l i → ∃ j o,l[j]? = some o ∧ x = infOf ops (i + j) o
 | [],i,x,h => by simp [infsOf] at h
 | o :: l,i,x,h => by
  rcases List.mem_cons.1 h with rfl | h
  ·exact ⟨0,o,rfl,rfl⟩
  ·obtain ⟨j,o',h1,h2⟩ := infsOf_mem h
   exact ⟨j + 1,o',by simpa using h1,by rw [h2]; congr 1; omega⟩
theorem infsOf_get {ops : Array Oper} : ∀ {l : List Oper} {i j : Nat} {o : Oper},l[j]? = some o → infOf ops (i + j) o ∈ infsOf ops l i
 | [],i,j,o,h => by simp at h
 | o' :: l,i,0,o,h => by
  simp only [List.getElem?_cons_zero,Option.some.injEq] at h
  subst h
  exact List.mem_cons_self ..
 | o' :: l,i,j + 1,o,h => by
  have := infsOf_get (ops := ops) (i := i + 1) (show l[j]? = some o by simpa using h)
  rw [show i + 1 + j = i + (j + 1) by omega] at this
  exact List.mem_cons_of_mem _ this
theorem any_beq {l : List Nat} {d : Nat} : l.any (Nat.beq d) = true ↔ d ∈ l := by
 rw [List.any_eq_true]
 constructor
 ·rintro ⟨x,hx,hb⟩
  have : d = x := Nat.eq_of_beq_eq_true hb
  rw [this]; exact hx
 ·exact fun h => ⟨d,h,Nat.beq_refl d⟩
theorem apartI_ok {ops : Array Oper} {i j : Nat} {x y : Oper} (h : apartI (infOf ops i x) (infOf ops j y) = true) : x.apart ops y = true := by
 have hc : ∀ (l : List Nat) (d : Nat),l.any (Nat.beq d) = l.contains d := fun l d => by
  rw [Bool.eq_iff_iff,any_beq,List.contains_iff_mem]
 unfold apartI at h
 unfold Oper.apart
 simp only [infOf,Bool.and_eq_true] at h ⊢
 obtain ⟨h1,h2⟩ := h
 refine ⟨?_,?_⟩
 ·cases hx : x.dst with
  | none => rfl
  | some d =>
   rw [hx] at h1
   simp only [Bool.and_eq_true] at h1 ⊢
   refine ⟨by rw [← hc]; exact h1.1,?_⟩
   cases hy : y.dst with
   | none => rfl
   | some e =>
    have h3 := h1.2
    rw [hy] at h3
    simp only [Bool.not_eq_true'] at h3
    simp only [bne_iff_ne,ne_eq,Option.some.injEq]
    intro he
    rw [he,Nat.beq_refl] at h3
    cases h3
 ·cases hy : y.dst with
  | none => rfl
  | some d =>
   rw [hy] at h2
   simp only at h2 ⊢
   rw [← hc]; exact h2
theorem mem_preds {o : Oper} {p : Nat} : p ∈ predsOf o ↔ ∃ e ∈ o.after,Region.binds .any e = true ∧ e.on = p := by
 unfold predsOf
 simp only [List.mem_map,List.mem_filter,Array.mem_toList_iff]
 constructor
 ·rintro ⟨e,⟨h1,h2⟩,h3⟩; exact ⟨e,h1,h2,h3⟩
 ·rintro ⟨e,h1,h2,h3⟩; exact ⟨e,⟨h1,h2⟩,h3⟩
structure Inv (C : DC) (l : Array Bool) (done : List Nat) (rest : List Inf) : Prop where
 dn : ∀ k,l.getD k false = true ↔ k ∈ done
 inf : ∀ x ∈ rest,∃ o,C.ops[x.idx]? = some o ∧ x = infOf C.ops x.idx o ∧ l.getD x.idx true = false
 all : ∀ k,l.getD k true = false → ∃ x ∈ rest,x.idx = k
 cl : Closed C.ops l
 size : l.size = C.ops.size
theorem Inv.ready {done : List Nat} {rest : List Inf} (I : Inv C l done rest) {x : Inf} (hx : x ∈ rest) : readyI done x = true ↔ x.idx ∈ Region.ready .any C.ops l := by
 obtain ⟨o,ho,hxo,hun⟩ := I.inf x hx
 have hp : x.preds = predsOf o := by rw [hxo]; rfl
 rw [mem_ready]
 unfold readyI
 rw [List.all_eq_true,hp]
 constructor
 ·intro h
  refine ⟨hun,o,ho,fun e he hb => ?_⟩
  exact (I.dn e.on).2 (any_beq.1 (h e.on (mem_preds.2 ⟨e,he,hb,rfl⟩)))
 ·rintro ⟨_,o',ho',h⟩ p hp
  rw [ho] at ho'; simp only [Option.some.injEq] at ho'; subst ho'
  obtain ⟨e,he,hb,rfl⟩ := mem_preds.1 hp
  exact any_beq.2 ((I.dn e.on).1 (h e he hb))
theorem Inv.step {done : List Nat} {rest : List Inf} (I : Inv C l done rest) {x : Inf} (hx : x ∈ rest) (hr : x.idx ∈ Region.ready .any C.ops l) :
  Inv C (l.setIfInBounds x.idx true) (x.idx :: done) (rest.filter fun y => !(Nat.beq y.idx x.idx)) := by
 obtain ⟨o,ho,hxo,hun⟩ := I.inf x hx
 have hlt : x.idx < l.size := by rw [I.size]; exact (Array.getElem?_eq_some_iff.1 ho).1
 refine ⟨fun k => ?_,fun y hy => ?_,fun k hk => ?_,closed_add I.cl hr,by simp [I.size]⟩
 ·by_cases hki : x.idx = k
  ·subst hki
   simp [hlt]
  ·rw [getD_set_ne false hki,I.dn k]
   simp only [List.mem_cons]
   exact ⟨.inr,fun h => h.resolve_left (fun e => hki e.symm)⟩
 ·obtain ⟨h1,h2⟩ := List.mem_filter.1 hy
  obtain ⟨o',g1,g2,g3⟩ := I.inf y h1
  refine ⟨o',g1,g2,?_⟩
  have hne : x.idx ≠ y.idx := fun e => by rw [e,Nat.beq_refl] at h2; cases h2
  rw [getD_set_ne true hne]; exact g3
 ·obtain ⟨hne,hun'⟩ := getD_set l x.idx k hk
  obtain ⟨y,hy,rfl⟩ := I.all k hun'
  refine ⟨y,List.mem_filter.2 ⟨hy,?_⟩,rfl⟩
  cases hb : Nat.beq y.idx x.idx with
  | false => rfl
  | true => exact absurd (Nat.eq_of_beq_eq_true hb) hne
theorem pair_free {xs : List Inf} (hp : pairsOk C.ops xs = true) {done : List Nat} {rest : List Inf} (I : Inv C l done rest) (hsub : ∀ y ∈ rest,y ∈ xs) {x : Inf} (hx : x ∈ rest) (hq : x.quiet = true) (hr : x.idx ∈ Region.ready .any C.ops l) {oi : Oper} (hi : C.ops[x.idx]? = some oi) :
  ∀ j oj,C.ops[j]? = some oj → j ≠ x.idx → l.getD j true = false → (∀ e ∈ oj.after,Region.binds .any e = true → e.on ≠ x.idx) → oi.apart C.ops oj = true := by
 intro j oj hj hne hun hno
 obtain ⟨y,hy,rfl⟩ := I.all j hun
 obtain ⟨ox,ho,hxo,_⟩ := I.inf x hx
 rw [hi] at ho; simp only [Option.some.injEq] at ho; subst ho
 obtain ⟨oy,hoy,hyo,_⟩ := I.inf y hy
 rw [hj] at hoy; simp only [Option.some.injEq] at hoy; subst hoy
 have h1 := List.all_eq_true.1 hp x (hsub x hx)
 rw [hq] at h1
 simp only [Bool.not_true,Bool.false_or] at h1
 have h2 := List.all_eq_true.1 h1 y (hsub y hy)
 unfold pairI at h2
 simp only [Bool.or_eq_true] at h2
 have hnl : l.getD y.idx false = false := getD_true_false hun
 obtain ⟨_,o',ho',hall⟩ := mem_ready.1 hr
 rw [hi] at ho'; simp only [Option.some.injEq] at ho'; subst ho'
 rcases h2 with h2 | h2 | h2 | h2 | h2
 ·exact absurd (Nat.eq_of_beq_eq_true h2).symm hne
 ·rw [hxo,hyo] at h2; exact apartI_ok h2
 ·have : x.idx ∈ predsOf oj := by
   have := any_beq.1 h2
   rw [hyo] at this; exact this
  obtain ⟨e,he,hb,heq⟩ := mem_preds.1 this
  exact absurd heq (hno e he hb)
 ·have : y.idx ∈ predsOf oi := by
   have := any_beq.1 h2
   rw [hxo] at this; exact this
  obtain ⟨e,he,hb,heq⟩ := mem_preds.1 this
  have := hall e he hb
  rw [heq,hnl] at this; cases this
 ·have := anc_listed I.cl C.ops.size x.idx (fun o ho e he hb => by rw [hi] at ho; simp only [Option.some.injEq] at ho; subst ho; exact hall e he hb) _ (any_beq.1 h2)
  rw [hnl] at this; cases this
theorem greedy_good (hn : C.n ≤ 2 ^ C.d) (hpd : C.ops.size ≤ 2 ^ C.pd) {xs : List Inf} (hp : pairsOk C.ops xs = true) : ∀ (f : Nat) (l : Array Bool) (done : List Nat) (rest : List Inf) (is : List Nat) (s : D),greedy f done rest = some is → Inv C l done rest → (∀ y ∈ rest,y ∈ xs) → CleanAll C l s →
  runS C is s = some F → Good C F f l s := by
 have hnil : ∀ (f : Nat) (l : Array Bool) (done : List Nat) (s : D),Inv C l done [] → s = F → Good C F f l s := by
  intro f l done s I hs
  have hr : Region.ready .any C.ops l = [] := by
   cases h : Region.ready .any C.ops l with
   | nil => rfl
   | cons i r =>
    have hi : i ∈ Region.ready .any C.ops l := by rw [h]; exact List.mem_cons_self ..
    obtain ⟨x,hx,_⟩ := I.all i (mem_ready.1 hi).1
    cases hx
  cases f with
  | zero => exact ⟨hr,hs⟩
  | succ f => exact ⟨fun _ => hs,fun i hi => by rw [hr] at hi; cases hi⟩
 intro f
 induction f with
 | zero =>
  intro l done rest is s hg I hsub hcl hrun
  cases rest with
  | nil =>
   simp only [greedy,Option.some.injEq] at hg
   subst hg
   simp only [runS,Option.some.injEq] at hrun
   exact hnil 0 l done s I hrun
  | cons x r => simp [greedy] at hg
 | succ f ih =>
  intro l done rest is s hg I hsub hcl hrun
  cases rest with
  | nil =>
   simp only [greedy,Option.some.injEq] at hg
   subst hg
   simp only [runS,Option.some.injEq] at hrun
   exact hnil (f + 1) l done s I hrun
  | cons x0 r0 =>
   have step : ∀ (x : Inf) (is' : List Nat),x ∈ x0 :: r0 → x.idx ∈ Region.ready .any C.ops l → greedy f (x.idx :: done) ((x0 :: r0).filter fun y => !(Nat.beq y.idx x.idx)) = some is' → is = x.idx :: is' →
     ∃ o s',C.ops[x.idx]? = some o ∧ dstep C s x.idx o = some s' ∧ Good C F f (l.setIfInBounds x.idx true) s' := by
    intro x is' hx hr hg' his
    subst his
    unfold runS at hrun
    split at hrun
    ·rename_i o ho
     split at hrun
     ·rename_i s' hs
      have hin : x.idx < C.ops.size := (Array.getElem?_eq_some_iff.1 ho).1
      refine ⟨o,s',ho,hs,ih _ _ _ _ s' hg' (I.step hx hr) (fun y hy => hsub y (List.mem_filter.1 hy).1) (fun k hk hun => ?_) hrun⟩
      obtain ⟨hki,hun'⟩ := getD_set l x.idx k hun
      exact dstep_clean om om (fun e => hki e.symm) (hcl k hk hun') hs
     ·cases hrun
    ·cases hrun
   unfold greedy at hg
   split at hg
   ·rename_i x hfx
    have hx := List.mem_of_find?_eq_some hfx
    have hb := List.find?_some hfx
    simp only [Bool.and_eq_true] at hb
    have hr := (I.ready hx).1 hb.2
    split at hg
    ·rename_i is' hg'
     simp only [Option.some.injEq] at hg
     obtain ⟨o,s',ho,hs,G'⟩ := step x is' hx hr hg' hg.symm
     obtain ⟨o2,ho2,hxo,_⟩ := I.inf x hx
     rw [ho] at ho2; simp only [Option.some.injEq] at ho2; subst ho2
     have hq : quietK o = true := by have := hb.1; rw [hxo] at this; exact this
     exact good_first hn hpd ho hq f l s s' (pair_free hp I hsub hx hb.1 hr ho) I.cl hcl hr hs G'
    ·cases hg
   ·split at hg
    ·rename_i x hfl
     have hxm : x ∈ (x0 :: r0).filter (readyI done) := by rw [hfl]; exact List.mem_cons_self ..
     obtain ⟨hx,hb⟩ := List.mem_filter.1 hxm
     have hr := (I.ready hx).1 hb
     split at hg
     ·rename_i is' hg'
      simp only [Option.some.injEq] at hg
      obtain ⟨o,s',ho,hs,G'⟩ := step x is' hx hr hg' hg.symm
      refine ⟨fun h0 => (by rw [h0] at hr; cases hr),fun j hj => ?_⟩
      obtain ⟨y,hy,rfl⟩ := I.all j (mem_ready.1 hj).1
      have hym : y ∈ (x0 :: r0).filter (readyI done) := List.mem_filter.2 ⟨hy,(I.ready hy).2 hj⟩
      rw [hfl] at hym
      simp only [List.mem_cons,List.not_mem_nil,or_false] at hym
      subst hym
      exact ⟨o,s',ho,hs,G'⟩
     ·cases hg
    ·cases hg
theorem sched_good (hn : C.n ≤ 2 ^ C.d) (hpd : C.ops.size ≤ 2 ^ C.pd) {is : List Nat} {s : D} (hs : schedF C.ops = some is) (hcl : CleanAll C (Array.replicate C.ops.size false) s) (hrun : runS C is s = some F) : Good C F C.ops.size (Array.replicate C.ops.size false) s := by
 unfold schedF at hs
 cases hb : pairsOk C.ops (infsOf C.ops C.ops.toList 0) with
 | false => simp [hb] at hs
 | true =>
  simp only [hb,cond_true] at hs
  refine greedy_good hn hpd hb _ _ _ _ _ _ hs ⟨fun k => ?_,fun x hx => ?_,fun k hk => ?_,fun k hk => ?_,by simp⟩ (fun y hy => hy) hcl hrun
  ·by_cases hlt : k < C.ops.size <;> simp [hlt]
  ·obtain ⟨j,o,h1,h2⟩ := infsOf_mem hx
   have hlt : j < C.ops.size := by have := (List.getElem?_eq_some_iff.1 h1).1; simpa using this
   subst h2
   refine ⟨o,by simpa [infOf] using h1,rfl,by simp [infOf,hlt]⟩
  ·by_cases hlt : k < C.ops.size
   ·have h1 : C.ops.toList[k]? = some C.ops[k] := by simp [hlt]
    refine ⟨_,infsOf_get (i := 0) h1,by simp [infOf]⟩
   ·simp [hlt] at hk
  ·by_cases hlt : k < C.ops.size
   ·simp [hlt] at hk
   ·simp [hlt] at hk
variable {ds : List Deferred} {ro : Option Nat} {w0 : World} {B : Fr} {hb : AV} {Q : Exit → Act → World → Prop}
theorem good_wp (hK : KOk C) (hpd : C.ops.size ≤ 2 ^ C.pd) (hed : ∀ (j : Nat) o,C.ops[j]? = some o → ∀ e ∈ o.after,e.on < C.ops.size) : ∀ (f : Nat) (l : Array Bool) (s : D) (σ : Sg) (a : Act) (w : World),Good C F f l s → DSim ds C w0 B hb σ s l a w →
  (∀ σ' l' a' w',SubX C.nx0 σ σ' → DSim ds C w0 B hb σ' F l' a' w' → Q .normal a' w') → wpAnyIn (fen ro) 0 C.P .any C.ops Q f l a w
 | 0,l,s,σ,a,w,hg,S,hQ => ⟨hg.1,hQ σ l a w (SubX.refl _ σ) (hg.2 ▸ S)⟩
 | f + 1,l,s,σ,a,w,hg,S,hQ => by
  refine ⟨fun h0 => hQ σ l a w (SubX.refl _ σ) (hg.1 h0 ▸ S),fun i hi => ?_⟩
  obtain ⟨o,s',ho,hs,hg'⟩ := hg.2 i hi
  refine dstep_ok hK hpd hed S ho (mem_ready.1 hi).1 hs (fun σ' a' w' hx S' => ?_)
  exact good_wp hK hpd hed f _ s' σ' a' w' hg' S' (fun σ'' l' a'' w'' hx' S'' => hQ σ'' l' a'' w'' (hx.trans hx' (Nat.le_refl _)) S'')
end
end I
end Go.Proofs.YtinhinjpfmdfiaaGreatDoor
namespace Go.Proofs.YtinhinjpfmdfiaaGreatDoor
namespace I
open K (one aggB run_underlying' run_sizeOf' add_none run_v cell_cells run_callFunc)
set_option linter.unusedVariables false
abbrev St := AV × AV × Nat
inductive Ex where
 | normal
 | exit (id : Nat)
 | ret
def Ex.to : Ex → Exit
 | .normal => .normal
 | .exit id => .exit id
 | .ret => .ret
def opsA (P : Program) (G n d : Nat) (K : KF) (ops : Array Oper) : List Oper → AV → AV → Nat → Option St
 | [],tm,h,nx => some (tm,h,nx)
 | o :: l,tm,h,nx => match wantA n d ops tm o with
  | none => none
  | some false => opsA P G n d K ops l (putA n d tm o.dst .undef) h nx
  | some true => match astep P (opndA G n d tm) h nx o with
   | some (.val v h' nx') => opsA P G n d K ops l (putA n d tm o.dst v) h' nx'
   | some (.call f args) => match K f args h nx with
    | some (v,h',nx') => opsA P G n d K ops l (putA n d tm o.dst v) h' nx'
    | none => none
   | none => none
def edgesOk (ops : Array Oper) : Bool := ops.all fun o => o.after.all fun e => Nat.blt e.on ops.size
def regA (P : Program) (G n d : Nat) (K : KF) (ops : Array Oper) (tm h : AV) (nx : Nat) : Option St :=
 bif P.follows .mixedOrders && (edgesOk ops && Nat.ble (nx + ops.size) (2 ^ HD)) then
  match schedF ops with
  | some is => match runS ⟨P,G,n,d,K,ops,nx,lg ops.size⟩ is ⟨tm,h,nx + ops.size,unid (lg ops.size) .undef,unid (lg ops.size) .undef⟩ with
   | some s => some (s.tm,(merge (lg ops.size) nx (List.range ops.size) s.h s.pt).1,s.nx)
   | none => none
  | none => none
 else none
abbrev SD := List Nat × St
def loopI (f : SD → Option (Ex × SD)) : Nat → SD → Option (Ex × SD)
 | 0,_ => none
 | k + 1,st => match f st with
  | some (.normal,st') => loopI f k st'
  | r => r
def enterA (n rd : Nat) (ps : List Nat) (assign body : Code) (tm h : AV) (nx : Nat) : Option (Nat × List Nat × AV × Nat) :=
 match rd with
 | 0 => bif Nat.blt (nx + 1) (2 ^ HD) then some (nx + 1,[nx],cput HD (cput HD h nx .df) (nx + 1) (.lp n ps assign body tm 0 0 nx),nx + 2) else none
 | b + 1 => match cget HD h b with
  | .lp _ _ _ _ _ _ _ db => bif Nat.blt nx (2 ^ HD) then some (nx,[],cput HD h nx (.lp n ps assign body tm 0 0 db),nx + 1) else none
  | _ => none
def exOf : Nat → Ex
 | 0 => .normal
 | 1 => .ret
 | id + 2 => .exit id
def execC (P : Program) (G n d : Nat) (K : KF) (N rd : Nat) : Code → SD → Option (Ex × SD)
 | .skip,st => some (.normal,st)
 | .label _,st => some (.normal,st)
 | .region _ ops draw,st => bif draw then
   match regA P G n d K ops st.2.1 st.2.2.1 st.2.2.2 with
   | some st' => some (.normal,st.1,st')
   | none => none
  else match opsA P G n d K ops ops.toList st.2.1 st.2.2.1 st.2.2.2 with
   | some st' => some (.normal,st.1,st')
   | none => none
 | .seq a b,st => match execC P G n d K N rd a st with
  | some (.normal,st') => execC P G n d K N rd b st'
  | r => r
 | .cond c a b,st => match opndA G n d st.2.1 c with
  | .bool true => execC P G n d K N rd a st
  | .bool false => execC P G n d K N rd b st
  | _ => none
 | .block id b,st => match execC P G n d K N rd b st with
  | some (.exit j,st') => bif Nat.beq j id then some (.normal,st') else some (.exit j,st')
  | r => r
 | .loop b,st => loopI (fun s => execC P G n d K N rd b s) N st
 | .exit id,st => some (.exit id,st)
 | .ret,st => some (.ret,st)
 | .rangeFunc g ps assign body,st => match opndA G n d st.2.1 g with
  | .fn f first caps => match enterA n rd ps.toList assign body st.2.1 st.2.2.1 st.2.2.2 with
   | some (b,dl,h1,nx1) => match K (2 * f) (toList first ++ (.yld b :: toList caps)) h1 nx1 with
    | some (_,h2,nx2) => match cget HD h2 b with
     | .lp _ _ _ _ _ st' pend _ => bif Nat.beq st' 1 then none else some (exOf pend,dl ++ st.1,st.2.1,cput HD h2 b .dead,nx2)
     | _ => none
    | none => none
   | none => none
  | _ => none
 | _,_ => none
section
variable {P : Program} {ds : List Deferred} {ro : Option Nat} {G n d N rd : Nat} {K : KF} {w0 : World} {B : Fr}
def KOk' (P : Program) (G : Nat) (K : KF) : Prop := ∀ f args h nx v h' nx',K f args h nx = some (v,h',nx') → CallOk P G f args h nx v h' nx'
structure Sim (ds : List Deferred) (n d G : Nat) (w0 : World) (B : Fr) (σ : Sg) (st : St) (a : Act) (w : World) : Prop where
 sl : SlotRel ds σ n d st.1 a
 g : GRel σ G
 hs : HS σ st.2.1 st.2.2 w0 B w
def Then (σ : Sg) (st st' : St) (σ' : Sg) : Prop := SubX st.2.2 σ σ' ∧ Dk st.2.2 st.2.1 st'.2.1 ∧ st.2.2 ≤ st'.2.2
theorem Then.refl (σ : Sg) (st : St) : Then σ st st σ := ⟨SubX.refl _ _,Dk.refl _ _,Nat.le_refl _⟩
theorem Then.trans {σ σ1 σ2 : Sg} {s s1 s2 : St} (a : Then σ s s1 σ1) (b : Then σ1 s1 s2 σ2) : Then σ s s2 σ2 := ⟨a.1.trans b.1 a.2.2,a.2.1.trans b.2.1 a.2.2,Nat.le_trans a.2.2 b.2.2⟩
theorem opsA_ok (hK : KOk' P G K) {ops : Array Oper} {Q : Exit → Act → World → Prop} : ∀ (l : List Oper) (tm h : AV) (nx : Nat) (st' : St) (σ : Sg) (a : Act) (w : World),opsA P G n d K ops l tm h nx = some st' → Sim ds n d G w0 B σ (tm,h,nx) a w →
  (∀ σ' a' w',Then σ (tm,h,nx) st' σ' → Sim ds n d G w0 B σ' st' a' w' → Q .normal a' w') → wpListIn (fen ro) 0 P ops Q l a w
 | [],tm,h,nx,st',σ,a,w,hh,S,hQ => by
  simp only [opsA,Option.some.injEq] at hh
  subst hh
  exact hQ σ a w (Then.refl _ _) S
 | o :: l,tm,h,nx,st',σ,a,w,hh,S,hQ => by
  unfold opsA at hh
  unfold wpListIn
  split at hh
  ·cases hh
  ·rename_i hw
   rw [wantA_ok S.sl hw]
   simp only [Bool.false_eq_true,if_false]
   exact ⟨fun _ _ => trivial,opsA_ok hK l _ h nx st' σ _ w hh ⟨put_ok S.sl .undef,S.g,S.hs⟩ (fun σ' a' w' ht S' => hQ σ' a' w' ht S')⟩
  ·rename_i hw
   rw [wantA_ok S.sl hw]
   simp only [if_true]
   have hρ := opnd_ok S.sl S.g
   split at hh
   ·rename_i v h' nx' hs
    obtain ⟨σ1,u,w1,g1,g2,g3,g4,g5,g6⟩ := astep_ok S.hs (fun _ => rfl) hρ hs
    have S1 : Sim ds n d G w0 B σ1 (putA n d tm o.dst v,h',nx') (a.put o.dst u) w1 := ⟨put_ok (S.sl.mono g1.1) g5,S.g.mono g1.1,g6⟩
    have T1 : Then σ (tm,h,nx) (putA n d tm o.dst v,h',nx') σ1 := ⟨g1,g2,g3⟩
    have := opsA_ok hK l _ h' nx' st' σ1 _ w1 hh S1 (fun σ' a' w' ht S' => hQ σ' a' w' (T1.trans ht) S')
    rcases g4 with g4 | ⟨g4,rfl⟩
    ·exact wpIn_value g4 this
    ·exact wpIn_skipOp g4 this
   ·rename_i f args hs
    split at hh
    ·rename_i v h' nx' hk
     refine wpIn_callOp S.hs hρ (astep_call hs) (fun vs g1 => hK f args h nx v h' nx' hk σ w0 B w vs S.hs S.g g1) ?_
     rintro e w1 ⟨σ1,u,k1,k2,k3,rfl,k5,k6⟩
     have S1 : Sim ds n d G w0 B σ1 (putA n d tm o.dst v,h',nx') (a.put o.dst u) w1 := ⟨put_ok (S.sl.mono k1.1) k5,S.g.mono k1.1,k6⟩
     have T1 : Then σ (tm,h,nx) (putA n d tm o.dst v,h',nx') σ1 := ⟨k1,k2,k3⟩
     exact ⟨u,rfl,opsA_ok hK l _ h' nx' st' σ1 _ w1 hh S1 (fun σ' a' w' ht S' => hQ σ' a' w' (T1.trans ht) S')⟩
    ·cases hh
   ·cases hh
theorem regA_ok (hK : KOk' P G K) (hn : n ≤ 2 ^ d) {id : Nat} {ops : Array Oper} {Q : Exit → Act → World → Prop} {tm h : AV} {nx : Nat} {st' : St} {σ : Sg} {a : Act} {w : World} (hh : regA P G n d K ops tm h nx = some st') (S : Sim ds n d G w0 B σ (tm,h,nx) a w)
  (hQ : ∀ σ' a' w',Then σ (tm,h,nx) st' σ' → Sim ds n d G w0 B σ' st' a' w' → Q .normal a' w') : (Code.region id ops true).wpIn (fen ro) 0 P Q a w := by
 unfold regA at hh
 cases hb : (P.follows .mixedOrders && (edgesOk ops && Nat.ble (nx + ops.size) (2 ^ HD))) with
 | false => simp [hb] at hh
 | true =>
  simp only [hb,cond_true] at hh
  simp only [Bool.and_eq_true] at hb
  obtain ⟨hm,hed,hle⟩ := hb
  have hle := ble_iff.1 hle
  split at hh
  ·rename_i is his
   split at hh
   case h_2 => cases hh
   rename_i F hF
   simp only [Option.some.injEq] at hh
   subst hh
   let C : DC := ⟨P,G,n,d,K,ops,nx,lg ops.size⟩
   have hpd : C.ops.size ≤ 2 ^ C.pd := lg_le _
   have hedge : ∀ (j : Nat) o,C.ops[j]? = some o → ∀ e ∈ o.after,e.on < C.ops.size := fun j o ho e he => by
    have h1 := Array.all_eq_true_iff_forall_mem.1 hed o (Array.mem_of_getElem? ho)
    exact blt_iff.1 (Array.all_eq_true_iff_forall_mem.1 h1 e he)
   have hclean : CleanAll C (Array.replicate ops.size false) ⟨tm,h,nx + ops.size,unid (lg ops.size) .undef,unid (lg ops.size) .undef⟩ := fun k hk _ => ⟨cget_unid _ _ _,cget_unid _ _ _⟩
   have hgood := sched_good (C := C) (F := F) hn hpd his hclean hF
   have hH := (S.hs.skip (Nat.le_add_right nx ops.size) hle).drew
   have S0 : DSim ds C w0 B h σ ⟨tm,h,nx + ops.size,unid (lg ops.size) .undef,unid (lg ops.size) .undef⟩ (Array.replicate ops.size false) a { w with drawn := w.drawn + 1 } := by
    refine ⟨S.sl,S.g,⟨hH,Nat.le_refl _,fun k hk hl => ?_,fun k k' p p' hk hk' hne hl => ?_⟩,fun k hk _ => ?_,Dk.refl _ _⟩
    ·rw [cget_unid] at hl; simp [live] at hl
    ·rw [cget_unid] at hl; simp [live] at hl
    ·cases hx : σ (nx + k) with
     | none => rfl
     | some p => have := S.hs.dom _ p hx; simp only at this; omega
   refine wpIn_region_any hm (good_wp (C := C) (F := F) hK hpd hedge ops.size _ _ σ a _ hgood S0 ?_)
   intro σ' l' a' w' hx SF
   have M := SF.m.merge hpd (l := List.range ops.size) (fun j hj => List.mem_range.1 hj)
   refine hQ σ' a' w' ⟨⟨hx.1,fun b hb => hx.2 b hb⟩,?_,?_⟩ ⟨SF.sl,SF.g,M.hs⟩
   ·exact SF.dk.trans (merge_dk hle (fun j hj => List.mem_range.1 hj)) (Nat.le_refl _)
   ·have := SF.m.nx
    show nx ≤ F.nx
    have h2 : nx + ops.size ≤ F.nx := this
    omega
  ·cases hh
def MarksRel (σ : Sg) (dl : List Nat) (ds : List Deferred) : Prop := dl.length = ds.length ∧ ∀ (i : Nat) b x,dl[i]? = some b → ds[i]? = some x → ∃ r base size,σ b = some (r,base,size) ∧ x = { target := .collected r,args := #[] }
theorem MarksRel.mono {σ σ' : Sg} {dl : List Nat} {ds : List Deferred} (h : MarksRel σ dl ds) (hs : Sub σ σ') : MarksRel σ' dl ds := ⟨h.1,fun i b x hb hx => by
 obtain ⟨r,base,size,h1,h2⟩ := h.2 i b x hb hx
 exact ⟨r,base,size,hs _ _ h1,h2⟩⟩
theorem MarksRel.nil (σ : Sg) : MarksRel σ [] [] := ⟨rfl,fun i b x hb => by simp at hb⟩
theorem MarksRel.app {σ : Sg} {dl dl' : List Nat} {ds ds' : List Deferred} (h : MarksRel σ dl ds) (h' : MarksRel σ dl' ds') : MarksRel σ (dl ++ dl') (ds ++ ds') := by
 refine ⟨by simp [h.1,h'.1],fun i b x hb hx => ?_⟩
 by_cases hi : i < dl.length
 ·rw [List.getElem?_append_left hi] at hb
  rw [List.getElem?_append_left (by rw [← h.1]; exact hi)] at hx
  exact h.2 i b x hb hx
 ·rw [List.getElem?_append_right om] at hb
  rw [List.getElem?_append_right (by rw [← h.1]; omega),← h.1] at hx
  exact h'.2 _ b x hb hx
def RoRel (σ : Sg) : Nat → Option Nat → Prop
 | 0,ro => ro = none
 | b + 1,ro => ∃ l base size,σ b = some (l,base,size) ∧ ro = some l
theorem RoRel.mono {σ σ' : Sg} {rd : Nat} {ro : Option Nat} (h : RoRel σ rd ro) (hs : Sub σ σ') : RoRel σ' rd ro := by
 cases rd with
 | zero => exact h
 | succ b => obtain ⟨l,base,size,h1,h2⟩ := h; exact ⟨l,base,size,hs _ _ h1,h2⟩
structure SimD (rd : Nat) (ro : Option Nat) (n d G : Nat) (w0 : World) (B : Fr) (σ : Sg) (st : SD) (a : Act) (w : World) : Prop where
 ro : RoRel σ rd ro
 sm : ∃ ds,MarksRel σ st.1 ds ∧ Sim ds n d G w0 B σ st.2 a w
def Post (rd : Nat) (ro : Option Nat) (n d G : Nat) (w0 : World) (B : Fr) (σ : Sg) (st : SD) (e : Ex) (st' : SD) : Exit → Act → World → Prop :=
 fun e' a' w' => e' = e.to ∧ ∃ σ',Then σ st.2 st'.2 σ' ∧ SimD rd ro n d G w0 B σ' st' a' w'
theorem loopI_ok {b : Code} {f : SD → Option (Ex × SD)} (hb : ∀ st e st' σ a w,f st = some (e,st') → SimD rd ro n d G w0 B σ st a w → b.wpIn (fen ro) 0 P (Post rd ro n d G w0 B σ st e st') a w) :
  ∀ (k : Nat) (st : SD) (e : Ex) (st' : SD) (σ : Sg) (a : Act) (w : World),loopI f k st = some (e,st') → SimD rd ro n d G w0 B σ st a w → (Code.loop b).wpIn (fen ro) 0 P (Post rd ro n d G w0 B σ st e st') a w := by
 intro k st e st' σ a w hh S
 refine wpIn_loop_ghost (fun m a1 w1 => ∃ st1 σ1,loopI f m st1 = some (e,st') ∧ Then σ st.2 st1.2 σ1 ∧ SimD rd ro n d G w0 B σ1 st1 a1 w1) k ⟨st,σ,hh,Then.refl _ _,S⟩ ?_
 rintro m a1 w1 ⟨st1,σ1,h1,T1,S1⟩
 cases m with
 | zero => simp [loopI] at h1
 | succ m =>
  unfold loopI at h1
  split at h1
  ·rename_i st2 h2
   refine wpIn_mono (hb st1 .normal st2 σ1 a1 w1 h2 S1) ?_
   rintro e2 a2 w2 ⟨rfl,σ2,T2,S2⟩
   exact ⟨m,Nat.lt_succ_self m,st2,σ2,h1,T1.trans T2,S2⟩
  ·rename_i r hne
   refine wpIn_mono (hb st1 e st' σ1 a1 w1 h1 S1) ?_
   rintro e2 a2 w2 ⟨rfl,σ2,T2,S2⟩
   have hnn : e.to ≠ .normal := by
    cases e with
    | normal => exact absurd h1 (hne st')
    | exit id => simp [Ex.to]
    | ret => simp [Ex.to]
   cases e with
   | normal => exact absurd rfl hnn
   | exit id => exact ⟨rfl,σ2,T1.trans T2,S2⟩
   | ret => exact ⟨rfl,σ2,T1.trans T2,S2⟩
theorem tmps_rel {a : Act} {σ : Sg} {tm : AV} (hd : d = lg n) (S : SlotRel ds σ n d tm a) : ∀ t,t < n → Rel σ (cget (lg n) tm t) (a.tmps.getD t Go.undef) := fun t ht => hd ▸ S.sl t ht
theorem HS.lp {σ : Sg} {h : AV} {nx : Nat} {w : World} (H : HS σ h nx w0 B w) {b r base size m : Nat} {ps : List Nat} {assign body : Code} {tm : AV} {st pend db : Nat} (hb : σ b = some (r,base,size)) (hc : cget HD h b = .lp m ps assign body tm st pend db) :
  ∃ rc dr dbase dsize,w.heap[r]? = some (.loop rc) ∧ σ db = some (dr,dbase,dsize) ∧ (rc.state = stOf st ∧ rc.pending = pendOf pend ∧ rc.params = ps.toArray ∧ rc.assign = assign ∧ rc.body = body ∧ rc.defers = dr ∧ rc.tmps.size = m) ∧
   (∀ t,t < m → Rel σ (cget (lg m) tm t) (rc.tmps.getD t Go.undef)) ∧ (B.wr r ∨ w0.heap.size ≤ r) := by
 have := H.blk b (H.lt hb)
 rw [hc] at this
 obtain ⟨r',base',size',rc,dr,dbase,dsize,h1,h2,h3,h4,h5,h6⟩ := this
 rw [hb] at h1
 simp only [Option.some.injEq,Prod.mk.injEq] at h1
 obtain ⟨rfl,rfl,rfl⟩ := h1
 exact ⟨rc,dr,dbase,dsize,h2,h3,h4,h5,h6⟩
theorem enterA_ok {σ : Sg} {tm h : AV} {nx : Nat} {a : Act} {w : World} {ps : Array Nat} {assign body : Code} {b : Nat} {dl : List Nat} {h1 : AV} {nx1 : Nat} (hd : d = lg n) (hro : RoRel σ rd ro) (S : Sim ds n d G w0 B σ (tm,h,nx) a w)
  (he : enterA n rd ps.toList assign body tm h nx = some (b,dl,h1,nx1)) (fn : FuncId) :
  ∃ σ1 l base size mark w1,(Instr.enterLoop fn a.tmps ps assign body ro).run P w = .ok (l,mark) w1 ∧ σ1 b = some (l,base,size) ∧ MarksRel σ1 dl mark ∧ Then σ (tm,h,nx) (tm,h1,nx1) σ1 ∧ HS σ1 h1 nx1 w0 B w1 := by
 unfold enterA at he
 have H : HS σ h nx w0 B w := S.hs
 split at he
 ·cases hb : Nat.blt (nx + 1) (2 ^ HD) with
  | false => simp [hb] at he
  | true =>
   simp only [hb,cond_true,Option.some.injEq,Prod.mk.injEq] at he
   obtain ⟨rfl,rfl,rfl,rfl⟩ := he
   have hlt := blt_iff.1 hb
   have hro' : ro = none := hro
   subst hro'
   have H1 : HS (ext σ nx (w.heap.size,0,0)) (cput HD h nx .df) (nx + 1) w0 B (w.alloc (.deferred (some []))) :=
    H.new om (p := (w.heap.size,0,0)) rfl rfl rfl rfl rfl ⟨w.heap.size,0,0,by simp [ext],K.get_alloc w _,.inr H.size⟩
   have hs1 : Sub σ (ext σ nx (w.heap.size,0,0)) := H.sub_ext _
   have hr1 := tmps_rel hd (S.sl.mono hs1)
   have hs2 := H1.sub_ext ((w.alloc (.deferred (some []))).heap.size,0,0)
   let rc : Loop := { state := .ready,pending := none,fn,tmps := a.tmps,params := ps,assign,body,defers := w.heap.size }
   have H2 : HS _ (cput HD (cput HD h nx .df) (nx + 1) (.lp n ps.toList assign body tm 0 0 nx)) (nx + 2) w0 B ((w.alloc (.deferred (some []))).alloc (.loop rc)) :=
    H1.new om (p := ((w.alloc (.deferred (some []))).heap.size,0,0)) rfl rfl rfl rfl rfl
     ⟨_,0,0,rc,w.heap.size,0,0,by simp [ext],K.get_alloc _ _,hs2 _ _ (by simp [ext]),⟨rfl,rfl,by simp [rc],rfl,rfl,rfl,S.sl.size⟩,fun t ht => (hr1 t ht).mono hs2,.inr H1.size⟩
   refine ⟨_,(w.alloc (.deferred (some []))).heap.size,0,0,[{ target := .collected w.heap.size,args := #[] }],_,?_,by simp [ext],⟨rfl,fun i c x hc hx => ?_⟩,⟨⟨fun c q hc => hs2 _ _ (hs1 _ _ hc),fun c hc => ?_⟩,fun c hc hlc => ?_,by simp⟩,H2⟩
   ·simp [Instr.enterLoop,newObj,Sem.run,rc]
   ·cases i with
    | zero =>
     simp only [List.getElem?_cons_zero,Option.some.injEq] at hc hx
     subst hc; subst hx
     exact ⟨w.heap.size,0,0,hs2 _ _ (by simp [ext]),rfl⟩
    | succ i => simp at hc
   ·simp only at hc
    unfold ext
    rw [if_neg om,if_neg om]
   ·simp only at hc hlc ⊢
    rw [cget_cput HD _ (nx + 1) c _ hlt om,if_neg om,cget_cput HD h nx c _ om om,if_neg om] at hlc
    exact hlc
 ·rename_i b0
  split at he
  ·rename_i m0 ps0 as0 bo0 tm0 st0 pe0 db hlp
   cases hb : Nat.blt nx (2 ^ HD) with
   | false => simp [hb] at he
   | true =>
    simp only [hb,cond_true,Option.some.injEq,Prod.mk.injEq] at he
    obtain ⟨rfl,rfl,rfl,rfl⟩ := he
    have hlt := blt_iff.1 hb
    obtain ⟨l0,lbase,lsize,hl0,rfl⟩ := hro
    obtain ⟨rc0,dr,dbase,dsize,q1,q2,⟨_,_,_,_,_,q3,_⟩,_,_⟩ := H.lp hl0 hlp
    let rc : Loop := { state := .ready,pending := none,fn,tmps := a.tmps,params := ps,assign,body,defers := dr }
    have hs1 : Sub σ (ext σ nx (w.heap.size,0,0)) := H.sub_ext _
    have hr1 := tmps_rel hd (S.sl.mono hs1)
    have H1 : HS (ext σ nx (w.heap.size,0,0)) (cput HD h nx (.lp n ps.toList assign body tm 0 0 db)) (nx + 1) w0 B (w.alloc (.loop rc)) :=
     H.new hlt (p := (w.heap.size,0,0)) rfl rfl rfl rfl rfl ⟨w.heap.size,0,0,rc,dr,dbase,dsize,by simp [ext],K.get_alloc w _,hs1 _ _ q2,⟨rfl,rfl,by simp [rc],rfl,rfl,rfl,S.sl.size⟩,hr1,.inr H.size⟩
    refine ⟨_,w.heap.size,0,0,[],_,?_,by simp [ext],MarksRel.nil _,⟨H.subX _,fun c hc hlc => ?_,Nat.le_succ _⟩,H1⟩
    ·have hgo : (getObj l0).run P w = .ok (.loop rc0) w := by simp [getObj,Sem.run,q1]
     simp only [Instr.enterLoop,Instr.getLoop,Sem.run_bind,hgo,Result.andThen_ok,Sem.run_pure]
     simp [newObj,Sem.run,rc,q3]
    ·simp only at hc hlc ⊢
     rw [cget_cput HD h nx c _ hlt om,if_neg om] at hlc
     exact hlc
  ·cases he
theorem Then.sub {σ σ' : Sg} {st st' : St} (h : Then σ st st' σ') : Sub σ σ' := h.1.1
theorem range_args {σ : Sg} {f b l base size : Nat} {first caps : AV} {gv : Value} (hg : Rel σ (.fn f first caps) gv) (hb : σ b = some (l,base,size)) :
  ∃ ys zs : Array Value,gv = .func (.func f) ys zs ∧ RelL σ (toList first ++ (.yld b :: toList caps)) (ys.toList ++ (.func (.yield l) #[] #[] :: zs.toList)) := by
 cases hg with
 | fn _ _ _ ys zs q1 q2 q3 q4 =>
 refine ⟨ys,zs,rfl,RelL.app ⟨by simpa using q1,fun i a v ha hv => q3 i a v ha (by simpa using hv)⟩ ⟨by simpa using q2,fun i a v ha hv => ?_⟩⟩
 cases i with
 | zero =>
  simp only [List.getElem?_cons_zero,Option.some.injEq] at ha hv
  subst ha; subst hv; exact .yld b l base size hb
 | succ i =>
  simp only [List.getElem?_cons_succ] at ha hv
  exact q4 i a v ha (by simpa using hv)
theorem range_resolve {a : Act} {g : Operand} {f l : Nat} {ys zs : Array Value} {w : World} (hg : a.eval g = .func (.func f) ys zs) :
  (resolve a.eval (rangeCall g l) 0).run P w = .ok { target := .fn (.func f) zs,args := ys ++ #[Value.func (.yield l) #[] #[]] } w := by
 show Sem.run P (Deferred.ofValue (a.eval g) _) w = _
 rw [hg]
 simp [Deferred.ofValue,Act.eval]
theorem end_loop {l : Nat} {w : World} {rc : Loop} (g1 : w.heap[l]? = some (.loop rc)) (hb : (rc.state == LoopState.busy) = false) :
  (Instr.endLoop l).run P w = .ok rc.pending { w with heap := w.heap.setIfInBounds l (.loop { rc with state := .exhausted }) } := by
 have hgo : (getObj l).run P w = .ok (.loop rc) w := by simp [getObj,Sem.run,g1]
 have hso : ∀ o,(setObj l o).run P w = .ok () { w with heap := w.heap.setIfInBounds l o } := fun o => by simp [setObj,Sem.run,g1]
 simp only [Instr.endLoop,Instr.getLoop,Sem.run_bind,hgo,Result.andThen_ok,Sem.run_pure,hb,Bool.false_eq_true,if_false,hso]
theorem not_busy {st : Nat} (hb : Nat.beq st 1 = false) : (stOf st == LoopState.busy) = false := by
 match st,hb with
 | 0,_ => rfl
 | 2,_ => rfl
 | k + 3,_ => rfl
set_option maxHeartbeats 1000000 in
theorem rangeFunc_ok (hK : KOk' P G K) (hd : d = lg n) {g : Operand} {ps : Array Nat} {assign body : Code} {st : SD} {e : Ex} {st' : SD} {σ : Sg} {a : Act} {w : World}
  (hh : execC P G n d K N rd (.rangeFunc g ps assign body) st = some (e,st')) (S : SimD rd ro n d G w0 B σ st a w) : (Code.rangeFunc g ps assign body).wpIn (fen ro) 0 P (Post rd ro n d G w0 B σ st e st') a w := by
 obtain ⟨dl0,tm,h,nx⟩ := st
 obtain ⟨hro,ds,hM,S⟩ := S
 simp only [execC] at hh
 split at hh
 ·rename_i f first caps hg
  split at hh
  ·rename_i b dl h1 nx1 he
   split at hh
   ·rename_i v h2' nx2 hk
    split at hh
    ·rename_i m ps' as' bo' tm' st2 pend db hlp
     cases hb : Nat.beq st2 1 with
     | true => simp [hb] at hh
     | false =>
      simp only [hb,cond_false,Option.some.injEq,Prod.mk.injEq] at hh
      obtain ⟨rfl,rfl⟩ := hh
      refine wpIn_rangeFunc fun fn _ => ?_
      obtain ⟨σ1,l,base,size,mark,w1,e1,e2,e3,T1,H1⟩ := enterA_ok (P := P) hd hro S he fn
      have hgv := opnd_ok S.sl S.g g
      rw [show (dl0,tm,h,nx).2.1 = tm from rfl,hg] at hgv
      obtain ⟨ys,zs,hgv',hrel⟩ := range_args (hgv.mono T1.sub) e2
      have hcall := hK _ _ _ _ _ _ _ hk σ1 w0 B w1 _ H1 (S.g.mono T1.sub) hrel
      unfold CalleeOk at hcall
      rw [if_pos om,show 2 * f / 2 = f by omega] at hcall
      obtain ⟨⟨fn',c,c1,c2,c3⟩,hcall⟩ := hcall
      have earr : ys ++ #[Value.func (.yield l) #[] #[]] ++ zs = (ys.toList ++ (.func (.yield l) #[] #[] :: zs.toList)).toArray := by
       apply Array.ext'
       simp
      have hinv : (invoke (.fn (.func f) zs) (ys ++ #[Value.func (.yield l) #[] #[]])).run P w1 = .ok (.enter f (ys.toList ++ (.func (.yield l) #[] #[] :: zs.toList)).toArray) w1 := by
       show (callFunc f (ys ++ #[Value.func (.yield l) #[] #[]] ++ zs)).run P w1 = _
       rw [earr]
       exact run_callFunc c1 c2 c3
      refine ⟨l,mark,w1,_,w1,f,_,w1,e1,range_resolve hgv',fun _ _ => trivial,hinv,fun h => (by cases h),?_⟩
      have h1 : CallsIn Fence.wide 0 P f _ w1 _ := callsIn_wide.2 hcall
      have h2 : CallsIn (fen ro) 0 P f _ w1 _ := h1
      refine h2.mono ?_
      rintro e w2 ⟨σ2,u,k1,k2,k3,rfl,k5,k6⟩
      have hl2 := k1.1 _ _ e2
      obtain ⟨rc,dr,dbase,dsize,g1,g2,⟨g3,g4,_⟩,_,g5⟩ := k6.lp hl2 hlp
      have hbusy : (rc.state == LoopState.busy) = false := by rw [g3]; exact not_busy hb
      have T2 : Then σ (tm,h,nx) (tm,cput HD h2' b .dead,nx2) σ2 := by
       refine T1.trans ⟨k1,?_,k3⟩
       exact fun c hc hlc => k2 c hc (k6.dkPut hl2 (by rw [hlp]; rfl) c (Nat.lt_of_lt_of_le hc k3) hlc)
      have H2 : HS σ2 (cput HD h2' b .dead) nx2 w0 B { w2 with heap := w2.heap.setIfInBounds l (.loop { rc with state := .exhausted }) } :=
       k6.upd hl2 (by rw [hlp]; rfl) g5 rfl rfl rfl rfl trivial
      have S2 : SimD rd ro n d G w0 B σ2 (dl ++ dl0,tm,cput HD h2' b .dead,nx2) { a with defers := mark ++ a.defers } { w2 with heap := w2.heap.setIfInBounds l (.loop { rc with state := .exhausted }) } := by
       refine ⟨hro.mono T2.sub,mark ++ ds,(e3.mono k1.1).app (hM.mono T2.sub),⟨⟨S.sl.size,?_,S.sl.le,fun t ht => (S.sl.sl t ht).mono T2.sub⟩,S.g.mono T2.sub,H2⟩⟩
       show mark ++ a.defers = mark ++ ds
       rw [S.sl.dfr]
      refine ⟨pendOf pend,_,by rw [← g4]; exact end_loop g1 hbusy,?_⟩
      match pend with
      | 0 => exact ⟨rfl,σ2,T2,S2⟩
      | 1 => exact wpIn_ret ⟨rfl,σ2,T2,S2⟩
      | id + 2 => exact wpIn_exit ⟨rfl,σ2,T2,S2⟩
    ·cases hh
   ·cases hh
  ·cases hh
 ·cases hh
theorem execC_ok (hK : KOk' P G K) (hn : n ≤ 2 ^ d) (hd : d = lg n) : ∀ (c : Code) (st : SD) (e : Ex) (st' : SD) (σ : Sg) (a : Act) (w : World),execC P G n d K N rd c st = some (e,st') → SimD rd ro n d G w0 B σ st a w → c.wpIn (fen ro) 0 P (Post rd ro n d G w0 B σ st e st') a w := by
 intro c
 induction c with
 | skip =>
  intro st e st' σ a w hh S
  simp only [execC,Option.some.injEq,Prod.mk.injEq] at hh
  obtain ⟨rfl,rfl⟩ := hh
  exact wpIn_skip ⟨rfl,σ,Then.refl _ _,S⟩
 | label l =>
  intro st e st' σ a w hh S
  simp only [execC,Option.some.injEq,Prod.mk.injEq] at hh
  obtain ⟨rfl,rfl⟩ := hh
  exact wpIn_label ⟨rfl,σ,Then.refl _ _,S⟩
 | region id ops draw =>
  intro st e st' σ a w hh S
  obtain ⟨dl,tm,h,nx⟩ := st
  obtain ⟨hro,ds,hM,S⟩ := S
  simp only [execC] at hh
  cases draw with
  | true =>
   simp only [cond_true] at hh
   split at hh
   ·rename_i st1 h1
    simp only [Option.some.injEq,Prod.mk.injEq] at hh
    obtain ⟨rfl,rfl⟩ := hh
    exact regA_ok hK hn h1 S (fun σ' a' w' T S' => ⟨rfl,σ',T,hro.mono T.sub,ds,hM.mono T.sub,S'⟩)
   ·cases hh
  | false =>
   simp only [cond_false] at hh
   split at hh
   ·rename_i st1 h1
    simp only [Option.some.injEq,Prod.mk.injEq] at hh
    obtain ⟨rfl,rfl⟩ := hh
    exact wpIn_region_list (opsA_ok hK _ tm h nx st1 σ a w h1 S (fun σ' a' w' T S' => ⟨rfl,σ',T,hro.mono T.sub,ds,hM.mono T.sub,S'⟩))
   ·cases hh
 | seq x y ihx ihy =>
  intro st e st' σ a w hh S
  simp only [execC] at hh
  refine wpIn_seq ?_
  split at hh
  ·rename_i st1 h1
   refine wpIn_mono (ihx st .normal st1 σ a w h1 S) ?_
   rintro e1 a1 w1 ⟨rfl,σ1,T1,S1⟩
   refine wpIn_mono (ihy st1 e st' σ1 a1 w1 hh S1) ?_
   rintro e2 a2 w2 ⟨rfl,σ2,T2,S2⟩
   exact ⟨rfl,σ2,T1.trans T2,S2⟩
  ·rename_i r hne
   refine wpIn_mono (ihx st e st' σ a w hh S) ?_
   rintro e1 a1 w1 ⟨rfl,σ1,T1,S1⟩
   cases e with
   | normal => exact absurd hh (hne st')
   | exit id => exact ⟨rfl,σ1,T1,S1⟩
   | ret => exact ⟨rfl,σ1,T1,S1⟩
 | cond c x y ihx ihy =>
  intro st e st' σ a w hh S
  simp only [execC] at hh
  obtain ⟨ds,hM,S'⟩ := S.sm
  have hc := opnd_ok S'.sl S'.g c
  split at hh
  ·rename_i he
   rw [he] at hc
   generalize hcv : a.eval c = cv at hc
   cases hc
   exact wpIn_cond_true hcv (ihx st e st' σ a w hh S)
  ·rename_i he
   rw [he] at hc
   generalize hcv : a.eval c = cv at hc
   cases hc
   exact wpIn_cond_false hcv (ihy st e st' σ a w hh S)
  ·cases hh
 | block id b ih =>
  intro st e st' σ a w hh S
  simp only [execC] at hh
  refine wpIn_block ?_
  split at hh
  ·rename_i j st1 h1
   refine wpIn_mono (ih st (.exit j) st1 σ a w h1 S) ?_
   rintro e1 a1 w1 ⟨rfl,σ1,T1,S1⟩
   cases hb : Nat.beq j id with
   | true =>
    simp only [hb,cond_true,Option.some.injEq,Prod.mk.injEq] at hh
    obtain ⟨rfl,rfl⟩ := hh
    show (if j = id then _ else _)
    rw [if_pos (beqn_iff.1 hb)]
    exact ⟨rfl,σ1,T1,S1⟩
   | false =>
    simp only [hb,cond_false,Option.some.injEq,Prod.mk.injEq] at hh
    obtain ⟨rfl,rfl⟩ := hh
    show (if j = id then _ else _)
    rw [if_neg (fun e => by rw [beqn_iff.2 e] at hb; cases hb)]
    exact ⟨rfl,σ1,T1,S1⟩
  ·rename_i r hne
   refine wpIn_mono (ih st e st' σ a w hh S) ?_
   rintro e1 a1 w1 ⟨rfl,σ1,T1,S1⟩
   cases e with
   | normal => exact ⟨rfl,σ1,T1,S1⟩
   | exit j => exact absurd hh (hne j st')
   | ret => exact ⟨rfl,σ1,T1,S1⟩
 | loop b ih =>
  intro st e st' σ a w hh S
  simp only [execC] at hh
  exact loopI_ok ih N st e st' σ a w hh S
 | exit id =>
  intro st e st' σ a w hh S
  simp only [execC,Option.some.injEq,Prod.mk.injEq] at hh
  obtain ⟨rfl,rfl⟩ := hh
  exact wpIn_exit ⟨rfl,σ,Then.refl _ _,S⟩
 | ret =>
  intro st e st' σ a w hh S
  simp only [execC,Option.some.injEq,Prod.mk.injEq] at hh
  obtain ⟨rfl,rfl⟩ := hh
  exact wpIn_ret ⟨rfl,σ,Then.refl _ _,S⟩
 | rangeFunc g ps assign body _ _ =>
  intro st e st' σ a w hh S
  exact rangeFunc_ok hK hd hh S
 | _ => intro st e st' σ a w hh S; simp [execC] at hh
end
end I
end Go.Proofs.YtinhinjpfmdfiaaGreatDoor
namespace Go.Proofs.YtinhinjpfmdfiaaGreatDoor
namespace I
open K (one aggB run_underlying' run_sizeOf' add_none run_v cell_cells)
set_option linter.unusedVariables false
def fullA : Nat → AV
 | 0 => .undef
 | d + 1 => .node (fullA d) (fullA d)
theorem cget_fullA : ∀ (d i : Nat),cget d (fullA d) i = .undef
 | 0,_ => rfl
 | d + 1,i => by
  simp only [fullA,cget]
  cases Nat.blt i (2 ^ d)
  ·exact cget_fullA d _
  ·exact cget_fullA d _
def argsA (d : Nat) : List AV → Nat → AV → AV
 | [],_,t => t
 | a :: l,i,t => argsA d l (i + 1) (cput d t i a)
def resA (P : Program) (n d : Nat) (tm h : AV) : List ResultVar → Option (List AV)
 | [] => some []
 | .tmp t :: l => match resA P n d tm h l with
  | some vs => some ((bif Nat.blt t n then cget d tm t else .undef) :: vs)
  | none => none
 | .cell t ty :: l => match (bif Nat.blt t n then cget d tm t else .undef) with
  | .ptr b off => match cget HD h b with
   | .cells _ m _ t => match apartA P ty m t off,resA P n d tm h l with
    | some v,some vs => some (v :: vs)
    | _,_ => none
   | _ => none
  | _ => none
def resOfA : List AV → AV
 | [v] => v
 | vs => .tup (ofList vs)
def takeA : List Nat → AV → Option AV
 | [],h => some h
 | b :: l,h => match cget HD h b with
  | .df => takeA l (cput HD h b .dead)
  | _ => none
def putPs (n d : Nat) : List Nat → List AV → AV → AV
 | t :: ts,a :: asx,tm => putPs n d ts asx (putA n d tm (some t) a)
 | _,_,tm => tm
def Ex.goes : Ex → Bool
 | .normal => true
 | _ => false
def Ex.stn : Ex → Nat
 | .normal => 0
 | _ => 2
def Ex.pend : Ex → Nat
 | .normal => 0
 | .ret => 1
 | .exit id => id + 2
def roundA (P : Program) (G : Nat) (K : KF) (N b : Nat) (args : List AV) (h : AV) (nx : Nat) : Option (AV × AV × Nat) :=
 match cget HD h b with
 | .lp n ps assign body tm st _ _ => bif Nat.beq st 0 && Nat.beq args.length ps.length then
   match execC P G n (lg n) K N (b + 1) assign ([],putPs n (lg n) ps args tm,h,nx) with
   | some (.normal,([],tm1,h1,nx1)) => match cget HD h1 b with
    | .lp n' ps' as' bo' tm' st' pe' db' => bif Nat.beq st' 0 then
      match execC P G n (lg n) K N (b + 1) body ([],tm1,cput HD h1 b (.lp n' ps' as' bo' tm' 1 pe' db'),nx1) with
      | some (e,(_,_,h2,nx2)) => match cget HD h2 b with
       | .lp n2 ps2 as2 bo2 tm2 _ _ db2 => some (.bool e.goes,cput HD h2 b (.lp n2 ps2 as2 bo2 tm2 e.stn e.pend db2),nx2)
       | _ => none
      | none => none
     else none
    | _ => none
   | _ => none
  else none
 | _ => none
def callA (P : Program) (G : Nat) (X : KF) (N : Nat) : Nat → KF
 | 0,_,_,_,_ => none
 | k + 1,f,args,h,nx => bif Nat.beq (f % 2) 1 then roundA P G (callA P G X N k) N (f / 2) args h nx else match X (f / 2) args h nx with
  | some r => some r
  | none => match P.funcs[f / 2]? with
   | none => none
   | some fn => bif fn.name == "runtime.NumGoroutine" || !(Nat.ble args.length fn.ntmps) then none else
    match fn.body with
    | none => none
    | some c => match execC P G fn.ntmps (lg fn.ntmps) (callA P G X N k) N 0 c ([],argsA (lg fn.ntmps) args 0 (fullA (lg fn.ntmps)),h,nx) with
     | some (.exit _,_) => none
     | some (_,(dl,tm,h',nx')) => match takeA dl h' with
      | some h'' => match resA P fn.ntmps (lg fn.ntmps) tm h'' fn.results.toList with
       | some vs => some (resOfA vs,h'',nx')
       | none => none
      | none => none
     | none => none
section
variable {P : Program} {G N : Nat} {X : KF}
theorem argsA_get {d n : Nat} (hn : n ≤ 2 ^ d) : ∀ (l : List AV) (i : Nat) (t : AV) (j : Nat),i + l.length ≤ n → j < n → cget d (argsA d l i t) j = if i ≤ j ∧ j < i + l.length then l.getD (j - i) .undef else cget d t j
 | [],i,t,j,_,_ => by rw [if_neg (by simp)]; rfl
 | a :: l,i,t,j,h,hj => by
  simp only [List.length_cons] at h
  rw [argsA,argsA_get hn l (i + 1) _ j om hj,cget_cput d t i j a om om]
  by_cases hji : j = i
  ·subst hji
   rw [if_neg om,if_pos rfl,if_pos (by simp)]
   simp
  ·rw [if_neg hji]
   by_cases hin : i + 1 ≤ j ∧ j < i + 1 + l.length
   ·rw [if_pos hin,if_pos (by simp; omega),show j - i = (j - (i + 1)) + 1 by omega,List.getD_cons_succ]
   ·rw [if_neg hin,if_neg (by simp; omega)]
theorem slots_args {σ : Sg} {n : Nat} {args : List AV} {vs : List Value} (hr : RelL σ args vs) (hle : args.length ≤ n) :
  SlotRel [] σ n (lg n) (argsA (lg n) args 0 (fullA (lg n))) { tmps := vs.toArray ++ Array.replicate (n - vs.toArray.size) Go.undef,defers := [] } := by
 have hl := hr.1
 have hn := lg_le n
 refine ⟨by simp; omega,rfl,hn,fun t ht => ?_⟩
 rw [argsA_get hn args 0 _ t om ht,Array.getD_eq_getD_getElem?]
 by_cases hlt : t < args.length
 ·rw [if_pos om,Nat.sub_zero,Array.getElem?_append_left (by simp; omega)]
  have h1 : args[t]? = some args[t] := List.getElem?_eq_getElem hlt
  have h2 : vs[t]? = some (vs[t]'om) := List.getElem?_eq_getElem _
  rw [List.getD_eq_getElem?_getD,h1,List.getElem?_toArray,h2]
  exact hr.2 t _ _ h1 h2
 ·rw [if_neg om,cget_fullA,Array.getElem?_append_right (by simp; omega)]
  have : (Array.replicate (n - vs.toArray.size) Go.undef)[t - vs.toArray.size]? = some Go.undef := by
   rw [Array.getElem?_replicate,if_pos (by simp only [List.size_toArray]; omega)]
  rw [this]
  exact .undef
theorem resA_ok {n d : Nat} {w0 w : World} {B : Fr} {σ : Sg} {tm h : AV} {nx : Nat} {a : Act} {ds : List Deferred} (S : Sim ds n d G w0 B σ (tm,h,nx) a w) : ∀ (rs : List ResultVar) (vs : List AV),resA P n d tm h rs = some vs →
  ∃ us : List Value,RelL σ vs us ∧ (rs.mapM (K.resF a.tmps)).run P w = .ok us w
 | [],vs,hh => by
  simp only [resA,Option.some.injEq] at hh
  subst hh
  exact ⟨[],⟨rfl,fun i a v ha => by simp at ha⟩,rfl⟩
 | .tmp t :: rs,vs,hh => by
  unfold resA at hh
  split at hh
  ·rename_i vs' hv
   simp only [Option.some.injEq] at hh
   subst hh
   obtain ⟨us,h1,h2⟩ := resA_ok S rs vs' hv
   have h3 := opnd_ok S.sl S.g (.tmp t)
   refine ⟨a.tmps.getD t Go.undef :: us,⟨by simp [h1.1],fun i x v hx hv => ?_⟩,?_⟩
   ·cases i with
    | zero =>
     simp only [List.getElem?_cons_zero,Option.some.injEq] at hx hv
     subst hx; subst hv; exact h3
    | succ i => simp only [List.getElem?_cons_succ] at hx hv; exact h1.2 i x v hx hv
   ·rw [List.mapM_cons]
    simp only [K.resF,Sem.run_bind,Sem.run_pure,Result.andThen_ok,h2]
  ·cases hh
 | .cell t ty :: rs,vs,hh => by
  unfold resA at hh
  have h3 := opnd_ok S.sl S.g (.tmp t)
  simp only [opndA] at h3
  split at hh
  ·rename_i b off he
   rw [he] at h3
   simp only [Act.eval] at h3
   generalize hev : a.tmps.getD t Go.undef = tv at h3
   cases h3 with
   | ptr _ _ r base size o hs ho =>
   split at hh
   ·rename_i ety m ro t' hc
    split at hh
    ·rename_i v vs' hv hvs
     simp only [Option.some.injEq] at hh
     subst hh
     obtain ⟨cs,fr,tt,g1,g2,g3,g4,g5⟩ := S.hs.cells hs hc
     obtain ⟨u,h6,h7⟩ := run_loadVar (P := P) (σ := σ) g1 om g4 ho hv
     obtain ⟨us,h1,h2⟩ := resA_ok S rs vs' hvs
     refine ⟨u :: us,⟨by simp [h1.1],fun i x v hx hv => ?_⟩,?_⟩
     ·cases i with
      | zero =>
       simp only [List.getElem?_cons_zero,Option.some.injEq] at hx hv
       subst hx; subst hv; exact h6
      | succ i => simp only [List.getElem?_cons_succ] at hx hv; exact h1.2 i x v hx hv
     ·rw [List.mapM_cons]
      have hA : (asAddr (.pointer (some ⟨r,o,none⟩))).run P w = .ok ⟨r,o,none⟩ w := rfl
      simp only [K.resF,Sem.run_bind,hev,hA,Result.andThen_ok,h7,h2,Sem.run_pure]
    ·cases hh
   ·cases hh
  ·cases hh
theorem resOf_ok {σ : Sg} {vs : List AV} {us : List Value} (h : RelL σ vs us) : Rel σ (resOfA vs) (K.resOf us) := by
 match vs,us with
 | [],[] => exact .tup _ _ rfl (fun i a v ha => by simp [ofList,toList] at ha)
 | [v],[u] => exact h.2 0 v u rfl rfl
 | v :: v' :: vs,u :: u' :: us =>
  refine .tup _ _ ?_ (fun i a x ha hx => ?_)
  ·rw [toList_ofList]; simpa using h.1
  ·rw [toList_ofList] at ha
   exact h.2 i a x ha (by simpa using hx)
 | [],_ :: _ => exact absurd h.1 (by simp)
 | _ :: _,[] => exact absurd h.1 (by simp)
 | [_],_ :: _ :: _ => exact absurd h.1 (by simp)
 | _ :: _ :: _,[_] => exact absurd h.1 (by simp)
def XOk (P : Program) (G : Nat) (X : KF) : Prop := ∀ f args h nx v h' nx',X f args h nx = some (v,h',nx') → CallOk P G (2 * f) args h nx v h' nx'
theorem HS.df {σ : Sg} {h : AV} {nx : Nat} {w0 w : World} {B : Fr} (H : HS σ h nx w0 B w) {b r base size : Nat} (hb : σ b = some (r,base,size)) (hc : cget HD h b = .df) : w.heap[r]? = some (.deferred (some [])) ∧ (B.wr r ∨ w0.heap.size ≤ r) := by
 have := H.blk b (H.lt hb)
 rw [hc] at this
 obtain ⟨r',base',size',h1,h2,h3⟩ := this
 rw [hb] at h1
 simp only [Option.some.injEq,Prod.mk.injEq] at h1
 obtain ⟨rfl,rfl,rfl⟩ := h1
 exact ⟨h2,h3⟩
theorem takeA_ok {σ : Sg} {nx : Nat} {w0 : World} {B : Fr} {fn : Func} {tmps : Array Value} {R : Ending → World → Prop} : ∀ (dl : List Nat) (ds : List Deferred) (h h' : AV) (w : World),takeA dl h = some h' → HS σ h nx w0 B w → MarksRel σ dl ds →
  (∀ w',Dk nx h h' → HS σ h' nx w0 B w' → LeavesIn Fence.wide 0 P fn tmps R [] .returning w') → LeavesInM Fence.wide 0 P fn tmps R ds .returning w
 | [],ds,h,h',w,ht,H,hM,hL => by
  simp only [takeA,Option.some.injEq] at ht
  subst ht
  have : ds = [] := List.eq_nil_of_length_eq_zero hM.1.symm
  subst this
  exact hL w (Dk.refl _ _) H
 | b :: dl,ds,h,h',w,ht,H,hM,hL => by
  unfold takeA at ht
  split at ht
  ·rename_i hdf
   match ds,hM with
   | [],hM => exact absurd hM.1 (by simp)
   | x :: ds,hM =>
    obtain ⟨r,base,size,h1,rfl⟩ := hM.2 0 b x rfl rfl
    obtain ⟨g1,g2⟩ := H.df h1 hdf
    have hgo : (getObj r).run P w = .ok (.deferred (some [])) w := by simp [getObj,Sem.run,g1]
    have hso : ∀ o,(setObj r o).run P w = .ok () { w with heap := w.heap.setIfInBounds r o } := fun o => by simp [setObj,Sem.run,g1]
    have H2 : HS σ (cput HD h b .dead) nx w0 B { w with heap := w.heap.setIfInBounds r (.deferred none) } := H.upd h1 (by rw [hdf]; rfl) g2 rfl rfl rfl rfl trivial
    have hdk : Dk nx h (cput HD h b .dead) := H.dkKill h1
    refine ⟨by simp,.inl ⟨r,_,rfl,?_,takeA_ok dl ds _ h' _ ht H2 ⟨by have := hM.1; simpa using this,fun i c y hc hy => hM.2 (i + 1) c y (by simpa using hc) (by simpa using hy)⟩ (fun w' d H' => hL w' (hdk.trans d (Nat.le_refl _)) H')⟩⟩
    simp only [Instr.takeDeferred,Sem.run_bind,hgo,Result.andThen_ok,hso,Sem.run_pure]
  ·cases ht
theorem putPs_ok {n d : Nat} {σ : Sg} : ∀ (ps : List Nat) (args : List AV) (vs : List Value) (tm : AV) (T : Array Value),RelL σ args vs → SlotRel [] σ n d tm { tmps := T,defers := [] } →
  SlotRel [] σ n d (putPs n d ps args tm) { tmps := (ps.zip vs).foldl (fun tmps x => tmps.setIfInBounds x.1 x.2) T,defers := [] }
 | [],_,_,_,_,_,S => by simpa [putPs] using S
 | _ :: _,[],vs,_,_,hr,S => by
  have : vs = [] := List.eq_nil_of_length_eq_zero hr.1.symm
  subst this
  simpa [putPs] using S
 | t :: ps,x :: args,[],_,_,hr,S => absurd hr.1 (by simp)
 | t :: ps,x :: args,v :: vs,tm,T,hr,S => by
  have h1 := hr.2 0 x v rfl rfl
  have h2 : RelL σ args vs := ⟨by have := hr.1; simpa using this,fun i a u ha hu => hr.2 (i + 1) a u (by simpa using ha) (by simpa using hu)⟩
  exact putPs_ok ps args vs _ _ h2 (put_ok (dst := some t) S h1)
theorem run_yield {r : Nat} {w : World} {rc : Loop} {ps : List Nat} {vs : List Value} (g1 : w.heap[r]? = some (.loop rc)) (hp : rc.params = ps.toArray) (hl : vs.length = ps.length) :
  (Instr.yield r vs.toArray).run P w = .ok (.round r rc.fn ((ps.zip vs).foldl (fun tmps x => tmps.setIfInBounds x.1 x.2) rc.tmps) rc.assign rc.body) w := by
 have hgo : (getObj r).run P w = .ok (.loop rc) w := by simp [getObj,Sem.run,g1]
 simp only [Instr.yield,Instr.getLoop,Sem.run_bind,hgo,Result.andThen_ok,Sem.run_pure,hp,List.size_toArray,hl,ne_eq,not_true,if_false]
 rw [← Array.foldl_toList]
 simp
theorem run_begin {r : Nat} {w : World} {rc : Loop} (g1 : w.heap[r]? = some (.loop rc)) (hs : rc.state = .ready) :
  (Instr.beginRound r).run P w = .ok () { w with heap := w.heap.setIfInBounds r (.loop { rc with state := .busy }) } := by
 have hgo : (getObj r).run P w = .ok (.loop rc) w := by simp [getObj,Sem.run,g1]
 have hso : ∀ o,(setObj r o).run P w = .ok () { w with heap := w.heap.setIfInBounds r o } := fun o => by simp [setObj,Sem.run,g1]
 simp only [Instr.beginRound,Instr.getLoop,Sem.run_bind,hgo,Result.andThen_ok,Sem.run_pure,hso,hs]
theorem run_end {r : Nat} {w : World} {rc : Loop} {j : Option Code} (g1 : w.heap[r]? = some (.loop rc)) :
  (Instr.endRound r j).run P w = .ok (.bool j.isNone) { w with heap := w.heap.setIfInBounds r (.loop { rc with state := if j.isNone then .ready else .done,pending := j }) } := by
 have hgo : (getObj r).run P w = .ok (.loop rc) w := by simp [getObj,Sem.run,g1]
 have hso : ∀ o,(setObj r o).run P w = .ok () { w with heap := w.heap.setIfInBounds r o } := fun o => by simp [setObj,Sem.run,g1]
 simp only [Instr.endRound,Instr.getLoop,Sem.run_bind,hgo,Result.andThen_ok,Sem.run_pure,hso]
theorem HS.setLp {σ : Sg} {h : AV} {nx : Nat} {w0 w : World} {B : Fr} (H : HS σ h nx w0 B w) {b r base size m : Nat} {ps : List Nat} {assign body : Code} {tm : AV} {st pend db : Nat} (hb : σ b = some (r,base,size)) (hc : cget HD h b = .lp m ps assign body tm st pend db) {rc : Loop}
  (g1 : w.heap[r]? = some (.loop rc)) {st' pend' : Nat} {s' : LoopState} {p' : Option Code} (hs : s' = stOf st') (hp : p' = pendOf pend') :
  HS σ (cput HD h b (.lp m ps assign body tm st' pend' db)) nx w0 B { w with heap := w.heap.setIfInBounds r (.loop { rc with state := s',pending := p' }) } := by
 obtain ⟨rc',dr,dbase,dsize,q1,q2,⟨e1,e2,e3,e4,e5,e6,e7⟩,q4,q5⟩ := H.lp hb hc
 rw [g1] at q1
 simp only [Option.some.injEq,Obj.loop.injEq] at q1
 subst q1
 exact H.upd hb (by rw [hc]; rfl) q5 rfl rfl rfl rfl ⟨r,base,size,{ rc with state := s',pending := p' },dr,dbase,dsize,hb,by simp [lt_of_get g1],q2,⟨hs,hp,e3,e4,e5,e6,e7⟩,q4,q5⟩
theorem roundA_ok {K : KF} (hK : KOk' P G K) {b : Nat} {args : List AV} {h : AV} {nx : Nat} {v h' : AV} {nx' : Nat} (hh : roundA P G K N b args h nx = some (v,h',nx')) : CallOk P G (2 * b + 1) args h nx v h' nx' := by
 intro σ w0 B w vs H hG hr
 unfold CalleeOk
 rw [if_neg om,show (2 * b + 1) / 2 = b by omega]
 intro r base size hb
 unfold roundA at hh
 split at hh
 ·rename_i n ps assign body tm st pe db hlp
  cases hq : (Nat.beq st 0 && Nat.beq args.length ps.length) with
  | false => simp [hq] at hh
  | true =>
   simp only [hq,cond_true] at hh
   simp only [Bool.and_eq_true] at hq
   have hst := beqn_iff.1 hq.1
   have hlen := beqn_iff.1 hq.2
   obtain ⟨rc,dr,dbase,dsize,g1,g2,⟨e1,e2,e3,e4,e5,e6,e7⟩,g4,g5⟩ := H.lp hb hlp
   have hy := run_yield (P := P) (vs := vs) g1 e3 (by rw [← hr.1]; exact hlen)
   rw [e4,e5] at hy
   refine ⟨rc.fn,_,assign,body,hy,roundIn_of_wpIn (F := Fence.wide) trivial ?_⟩
   split at hh
   ·rename_i tm1 h1 nx1 hx1
    split at hh
    ·rename_i n' ps' as' bo' tm' st' pe' db' hlp1
     cases hq1 : Nat.beq st' 0 with
     | false => simp [hq1] at hh
     | true =>
      simp only [hq1,cond_true] at hh
      have hst1 := beqn_iff.1 hq1
      split at hh
      ·rename_i e dl2 tm2 h2 nx2 hx2
       split at hh
       ·rename_i n2 ps2 as2 bo2 tm2' st2 pe2 db2 hlp2
        simp only [Option.some.injEq,Prod.mk.injEq] at hh
        obtain ⟨rfl,rfl,rfl⟩ := hh
        have S0 : SimD (b + 1) (some r) n (lg n) G w0 B σ ([],putPs n (lg n) ps args tm,h,nx) { tmps := (ps.zip vs).foldl (fun tmps x => tmps.setIfInBounds x.1 x.2) rc.tmps,defers := [] } w :=
         ⟨⟨r,base,size,hb,rfl⟩,[],MarksRel.nil _,⟨putPs_ok ps args vs tm rc.tmps hr ⟨e7,rfl,lg_le _,g4⟩,hG,H⟩⟩
        refine wpIn_mono (execC_ok (ro := some r) hK (lg_le _) rfl assign _ .normal _ σ _ w hx1 S0) ?_
        rintro ex a1 w1 ⟨rfl,σ1,T1,S1⟩
        obtain ⟨hro1,ds1,hM1,S1⟩ := S1
        have hb1 := T1.sub _ _ hb
        have H1 : HS σ1 h1 nx1 w0 B w1 := S1.hs
        obtain ⟨rc1,_,_,_,f1,_,⟨f2,_⟩,_,_⟩ := H1.lp hb1 hlp1
        have hds1 : ds1 = [] := List.eq_nil_of_length_eq_zero hM1.1.symm
        subst hds1
        refine ⟨_,run_begin f1 (by rw [f2,hst1]; rfl),?_⟩
        have H1' := H1.setLp hb1 hlp1 f1 (st' := 1) (pend' := pe') (s' := .busy) (p' := rc1.pending) rfl (by
         obtain ⟨rc1',_,_,_,z1,_,⟨_,z2,_⟩,_,_⟩ := H1.lp hb1 hlp1
         rw [f1] at z1; simp only [Option.some.injEq,Obj.loop.injEq] at z1; subst z1; exact z2)
        have S1' : SimD (b + 1) (some r) n (lg n) G w0 B σ1 ([],tm1,cput HD h1 b (.lp n' ps' as' bo' tm' 1 pe' db'),nx1) a1 { w1 with heap := w1.heap.setIfInBounds r (.loop { rc1 with state := .busy }) } :=
         ⟨hro1,[],MarksRel.nil _,⟨S1.sl,S1.g,H1'⟩⟩
        refine wpIn_mono (execC_ok (ro := some r) hK (lg_le _) rfl body _ e _ σ1 _ _ hx2 S1') ?_
        rintro ex a2 w2 ⟨rfl,σ2,T2,S2⟩
        obtain ⟨hro2,ds2,hM2,S2⟩ := S2
        have hb2 := T2.sub _ _ hb1
        have H2 : HS σ2 h2 nx2 w0 B w2 := S2.hs
        obtain ⟨rc2,_,_,_,y1,_⟩ := H2.lp hb2 hlp2
        have hdk : ∀ s p,Dk nx h (cput HD h2 b (.lp n2 ps2 as2 bo2 tm2' s p db2)) := fun s p c hc hlc => by
         have hc1 : c < nx1 := Nat.lt_of_lt_of_le hc T1.2.2
         have hc2 : c < nx2 := Nat.lt_of_lt_of_le hc1 T2.2.2
         have k1 := H2.dkPut hb2 (by rw [hlp2]; rfl) c hc2 hlc
         have k2 := T2.2.1 c hc1 k1
         have k3 := H1.dkPut hb1 (by rw [hlp1]; rfl) c hc1 k2
         exact T1.2.1 c hc k3
        have hsub : SubX nx σ σ2 := T1.1.trans T2.1 T1.2.2
        have hnx : nx ≤ nx2 := Nat.le_trans T1.2.2 T2.2.2
        cases e with
        | normal => exact ⟨_,_,run_end y1,σ2,_,hsub,hdk _ _,hnx,rfl,.bool _,H2.setLp hb2 hlp2 y1 rfl rfl⟩
        | ret => exact ⟨_,_,run_end y1,σ2,_,hsub,hdk _ _,hnx,rfl,.bool _,H2.setLp hb2 hlp2 y1 rfl rfl⟩
        | exit id => exact ⟨_,_,run_end y1,σ2,_,hsub,hdk _ _,hnx,rfl,.bool _,H2.setLp hb2 hlp2 y1 rfl rfl⟩
       ·cases hh
      ·cases hh
    ·cases hh
   ·cases hh
 ·cases hh
theorem callA_ok (hX : XOk P G X) : ∀ (k : Nat),KOk' P G (callA P G X N k)
 | 0,f,args,h,nx,v,h',nx',hh => by simp [callA] at hh
 | k + 1,f,args,h,nx,v,h',nx',hh => by
  unfold callA at hh
  cases hodd : Nat.beq (f % 2) 1 with
  | true =>
   simp only [hodd,cond_true] at hh
   have h1 := beqn_iff.1 hodd
   have h2 := roundA_ok (callA_ok hX k) hh
   rwa [show 2 * (f / 2) + 1 = f by omega] at h2
  | false =>
   simp only [hodd,cond_false] at hh
   have h0 : f % 2 = 0 := by
    have : f % 2 ≠ 1 := fun e => by rw [beqn_iff.2 e] at hodd; cases hodd
    omega
   have hf2 : 2 * (f / 2) = f := by omega
   split at hh
   ·rename_i r hr
    simp only [Option.some.injEq] at hh
    rw [hh] at hr
    have := hX (f / 2) args h nx v h' nx' hr
    rwa [hf2] at this
   ·split at hh
    ·cases hh
    ·rename_i fn hf
     cases hb : (fn.name == "runtime.NumGoroutine" || !(Nat.ble args.length fn.ntmps)) with
     | true => simp [hb] at hh
     | false =>
      simp only [hb,cond_false] at hh
      simp only [Bool.or_eq_false_iff,Bool.not_eq_false'] at hb
      have hle := ble_iff.1 hb.2
      split at hh
      ·cases hh
      ·rename_i c hc
       split at hh
       ·cases hh
       ·rename_i e dl tm h1 nx1 hne hex
        split at hh
        ·rename_i h2 ht
         split at hh
         ·rename_i vs hvs
          simp only [Option.some.injEq,Prod.mk.injEq] at hh
          obtain ⟨rfl,rfl,rfl⟩ := hh
          intro σ w0 B w us H hg hr
          unfold CalleeOk
          rw [if_pos h0]
          refine ⟨⟨fn,c,hf,hb.1,hc⟩,(callsIn_wide (n := 0)).1 (callsIn_of_wp_marks (F := Fence.wide) hf hc trivial ?_)⟩
          have S0 : SimD 0 none fn.ntmps (lg fn.ntmps) G w0 B σ ([],argsA (lg fn.ntmps) args 0 (fullA (lg fn.ntmps)),h,nx) { tmps := us.toArray ++ Array.replicate (fn.ntmps - us.toArray.size) Go.undef,defers := [] } w :=
           ⟨rfl,[],MarksRel.nil _,⟨slots_args hr hle,hg,H⟩⟩
          refine wpIn_mono (execC_ok (ro := none) (callA_ok hX k) (lg_le _) rfl c _ e (dl,tm,h1,nx1) σ _ w hex S0) ?_
          rintro e' a' w' ⟨rfl,σ',T,S'⟩
          obtain ⟨_,ds',hM',S'⟩ := S'
          have hpost : LeavesInM Fence.wide 0 P fn a'.tmps (fun e w' => ∃ σ' v',SubX nx σ σ' ∧ Dk nx h h2 ∧ nx ≤ nx1 ∧ e = .returned v' ∧ Rel σ' (resOfA vs) v' ∧ HS σ' h2 nx1 w0 B w') a'.defers .returning w' := by
           rw [S'.sl.dfr]
           refine takeA_ok (σ := σ') (nx := nx1) (w0 := w0) (B := B) dl ds' h1 h2 w' ht S'.hs hM' (fun w2 hdk H2 => ?_)
           have S2 : Sim ds' fn.ntmps (lg fn.ntmps) G w0 B σ' (tm,h2,nx1) a' w2 := ⟨S'.sl,S'.g,H2⟩
           obtain ⟨xs,r1,r2⟩ := resA_ok (P := P) S2 _ vs hvs
           have hres : (Go.results fn a'.tmps).run P w2 = .ok (K.resOf xs) w2 := by
            rw [K.results_eq,← Array.toArray_toList (xs := fn.results),List.mapM_toArray]
            simp only [Sem.run_bind,map_eq_pure_bind,r2,Result.andThen_ok,Sem.run_pure]
            match xs with
            | [] => rfl
            | [v] => rfl
            | _ :: _ :: _ => simp [K.resOf]
           exact ⟨_,hres,σ',_,T.1,T.2.1.trans hdk T.2.2,T.2.2,rfl,resOf_ok r1,H2⟩
          cases e with
          | normal => exact hpost
          | exit j => exact (hne j rfl).elim
          | ret => exact hpost
         ·cases hh
        ·cases hh
       ·cases hh
def H0 : AV := .uni .dead
theorem HS.start (w : World) (B : Fr) : HS (fun _ => none) H0 0 w B w :=
 ⟨rfl,rfl,rfl,Nat.le_refl _,fun _ _ _ => rfl,fun b hb => trivial,fun b p h => (by cases h),Nat.zero_le _,fun b b' p p' _ h => (by cases h),fun b p h => (by cases h)⟩
end
end I
end Go.Proofs.YtinhinjpfmdfiaaGreatDoor
