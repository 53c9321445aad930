/- Texts on which the proof of this claim stands: I16, I17, I18, I19, I20, I21, I22, J7, ShaM, ShaK, RunAwk. -/
import Derived.Test.YtojefiolcedigaaGreatDoorP5
import Derived.TacticsIn
import Derived.Test.YtojefiolcedigaaGreatDoorP4
import Derived.Test.YtojefiolcedigaaGreatDoorChecked
namespace Go.Proofs.YtojefiolcedigaaGreatDoor
namespace I
open K (one aggB run_underlying' run_sizeOf' add_none run_v cell_cells)
set_option linter.unusedVariables false
theorem cput_comm : ∀ (d : Nat) (t : AV) (i j : Nat) (x y : AV),i < 2 ^ d → j < 2 ^ d → i ≠ j → cput d (cput d t i x) j y = cput d (cput d t j y) i x
 | 0,t,i,j,x,y,hi,hj,hne => by simp only [Nat.pow_zero] at hi hj; omega
 | d + 1,t,i,j,x,y,hi,hj,hne => by
  have hp : 2 ^ (d + 1) = 2 ^ d + 2 ^ d := by rw [Nat.pow_succ]; omega
  cases h1 : Nat.blt i (2 ^ d) <;> cases h2 : Nat.blt j (2 ^ d) <;> simp only [cput,h1,h2,cond_true,cond_false,kidL,kidR]
  ·have a1 := blt_false.1 h1
   have a2 := blt_false.1 h2
   rw [cput_comm d _ _ _ x y (by omega) (by omega) (by omega)]
  ·have a1 := blt_iff.1 h1
   have a2 := blt_iff.1 h2
   rw [cput_comm d _ _ _ x y a1 a2 hne]
def beqA : AV → AV → Bool
 | .undef,.undef => true
 | .bool a,.bool b => a == b
 | .int k a,.int k' b => Nat.beq (kn k) (kn k') && ieq a b
 | .str n x,.str m y => Nat.beq n m && Nat.beq x y
 | .nilp,.nilp => true
 | .ptr a b,.ptr c d => Nat.beq a c && Nat.beq b d
 | .nils,.nils => true
 | .sl a b c d e,.sl a' b' c' d' e' => Nat.beq a a' && (Nat.beq b b' && (Nat.beq c c' && (Nat.beq d d' && Nat.beq e e')))
 | .nilm,.nilm => true
 | .map a,.map b => Nat.beq a b
 | .nilf,.nilf => true
 | .fn f a b,.fn g c d => Nat.beq f g && (beqA a c && beqA b d)
 | .nili,.nili => true
 | .yld a,.yld b => Nat.beq a b
 | .ifc t a,.ifc u b => Nat.beq t u && beqA a b
 | .agg n t,.agg m u => Nat.beq n m && beqA t u
 | .tup a,.tup b => beqA a b
 | .lnil,.lnil => true
 | .lcons a b,.lcons c d => beqA a c && beqA b d
 | .node a b,.node c d => beqA a c && beqA b d
 | .uni a,.uni b => beqA a b
 | _,_ => false
theorem beqA_ok : ∀ (x y : AV),beqA x y = true → x = y := by
 intro x
 induction x with
 | bad => intro y h; cases y <;> simp [beqA] at h
 | undef => intro y h; cases y <;> simp [beqA] at h; rfl
 | bool b => intro y h; cases y <;> simp [beqA] at h; rw [h]
 | int k n =>
  intro y h
  cases y <;> simp only [beqA,Bool.and_eq_true,Bool.false_eq_true] at h
  obtain ⟨h1,h2⟩ := h
  rw [ieq_eq] at h2
  rw [kn_inj h1,of_decide_eq_true h2]
 | str n x => intro y h; cases y <;> simp only [beqA,Bool.and_eq_true,Bool.false_eq_true] at h; rw [beqn_iff.1 h.1,beqn_iff.1 h.2]
 | nilp => intro y h; cases y <;> simp [beqA] at h; rfl
 | ptr a b => intro y h; cases y <;> simp only [beqA,Bool.and_eq_true,Bool.false_eq_true] at h; rw [beqn_iff.1 h.1,beqn_iff.1 h.2]
 | nils => intro y h; cases y <;> simp [beqA] at h; rfl
 | sl a b c d e => intro y h; cases y <;> simp only [beqA,Bool.and_eq_true,Bool.false_eq_true] at h; rw [beqn_iff.1 h.1,beqn_iff.1 h.2.1,beqn_iff.1 h.2.2.1,beqn_iff.1 h.2.2.2.1,beqn_iff.1 h.2.2.2.2]
 | nilm => intro y h; cases y <;> simp [beqA] at h; rfl
 | map a => intro y h; cases y <;> simp only [beqA,Bool.false_eq_true] at h; rw [beqn_iff.1 h]
 | nilf => intro y h; cases y <;> simp [beqA] at h; rfl
 | fn f a b iha ihb => intro y h; cases y <;> simp only [beqA,Bool.and_eq_true,Bool.false_eq_true] at h; rw [beqn_iff.1 h.1,iha _ h.2.1,ihb _ h.2.2]
 | nili => intro y h; cases y <;> simp [beqA] at h; rfl
 | ifc t a iha => intro y h; cases y <;> simp only [beqA,Bool.and_eq_true,Bool.false_eq_true] at h; rw [beqn_iff.1 h.1,iha _ h.2]
 | agg n t iht => intro y h; cases y <;> simp only [beqA,Bool.and_eq_true,Bool.false_eq_true] at h; rw [beqn_iff.1 h.1,iht _ h.2]
 | tup a iha => intro y h; cases y <;> simp only [beqA,Bool.false_eq_true] at h; rw [iha _ h]
 | lnil => intro y h; cases y <;> simp [beqA] at h; rfl
 | lcons a b iha ihb => intro y h; cases y <;> simp only [beqA,Bool.and_eq_true,Bool.false_eq_true] at h; rw [iha _ h.1,ihb _ h.2]
 | node a b iha ihb => intro y h; cases y <;> simp only [beqA,Bool.and_eq_true,Bool.false_eq_true] at h; rw [iha _ h.1,ihb _ h.2]
 | uni a iha => intro y h; cases y <;> simp only [beqA,Bool.false_eq_true] at h; rw [iha _ h]
 | dead => intro y h; cases y <;> simp [beqA] at h
 | cells ty n ro t _ => intro y h; cases y <;> simp [beqA] at h
 | mp l _ => intro y h; cases y <;> simp [beqA] at h
 | yld b => intro y h; cases y <;> simp only [beqA,Bool.false_eq_true] at h; rw [beqn_iff.1 h]
 | lp n ps assign body tm st pend db _ => intro y h; cases y <;> simp [beqA] at h
 | df => intro y h; cases y <;> simp [beqA] at h
def snap (n d : Nat) (tm : AV) : List Nat → List AV
 | [] => []
 | t :: l => (bif Nat.blt t n then cget d tm t else .undef) :: snap n d tm l
def pickS (t : Nat) : List Nat → List AV → AV
 | s :: l,v :: vs => bif Nat.beq s t then v else pickS t l vs
 | _,_ => .bad
def opndS (G : Nat) (ls : List Nat) (vs : List AV) : Operand → AV
 | .tmp t => pickS t ls vs
 | .const v => ofConst v
 | .global g => bif Nat.blt g G then .ptr g 0 else .bad
 | .func f => .fn f .lnil .lnil
section
variable {P : Program} {σ : Sg} {G n d : Nat} {tm : AV} {a : Act}
theorem pickS_ok {ds : List Deferred} (hs : SlotRel ds σ n d tm a) (t : Nat) : ∀ (l : List Nat),Rel σ (pickS t l (snap n d tm l)) (a.eval (.tmp t))
 | [] => .bad _
 | s :: l => by
  simp only [snap,pickS]
  cases hb : Nat.beq s t with
  | false => simp only [cond_false]; exact pickS_ok hs t l
  | true =>
   have := beqn_iff.1 hb
   subst this
   simp only [cond_true]
   exact opnd_ok (G := 0) hs (fun g hg => by omega) (.tmp s)
theorem opndS_ok {ds : List Deferred} (hs : SlotRel ds σ n d tm a) (hg : GRel σ G) (l : List Nat) (x : Operand) : Rel σ (opndS G l (snap n d tm l) x) (a.eval x) := by
 cases x with
 | tmp t => exact pickS_ok hs t l
 | const v => exact opnd_ok hs hg (.const v)
 | global g => exact opnd_ok hs hg (.global g)
 | func f => exact opnd_ok hs hg (.func f)
theorem snap_put {dst : Option Nat} {v : AV} (hn : n ≤ 2 ^ d) : ∀ {l : List Nat},(∀ t,dst = some t → t ∉ l) → snap n d (putA n d tm dst v) l = snap n d tm l
 | [],_ => rfl
 | s :: l,h => by
  simp only [snap]
  rw [snap_put hn (l := l) (fun t ht hm => h t ht (List.mem_cons_of_mem _ hm))]
  congr 1
  cases dst with
  | none => rfl
  | some t =>
   have hne : s ≠ t := fun e => h t rfl (by rw [e]; exact List.mem_cons_self ..)
   cases hb : Nat.blt s n with
   | false => rfl
   | true =>
    have hs := blt_iff.1 hb
    simp only [cond_true,putA]
    cases hc : Nat.blt t n with
    | false => rfl
    | true =>
     have ht := blt_iff.1 hc
     simp only [cond_true]
     rw [cget_cput d tm t s v (by omega) (by omega),if_neg hne]
theorem wantA_put {dst : Option Nat} {v : AV} (hn : n ≤ 2 ^ d) {ops : Array Oper} {o : Oper} (h : ∀ t,dst = some t → t ∉ o.looksAt ops) : wantA n d ops (putA n d tm dst v) o = wantA n d ops tm o := by
 unfold wantA
 split
 ·rfl
 ·rename_i j want hg
  split
  ·rfl
  ·rename_i t ht
   have hmem : t ∈ o.looksAt ops := by
    unfold Oper.looksAt
    rw [hg]
    simp [ht]
   cases hb : Nat.blt t n with
   | false => rfl
   | true =>
    simp only [cond_true]
    have hlt := blt_iff.1 hb
    have : cget d (putA n d tm dst v) t = cget d tm t := by
     cases dst with
     | none => rfl
     | some u =>
      have hne : t ≠ u := fun e => h u rfl (e ▸ hmem)
      simp only [putA]
      cases hc : Nat.blt u n with
      | false => rfl
      | true =>
       have hu := blt_iff.1 hc
       simp only [cond_true]
       rw [cget_cput d tm u t v (by omega) (by omega),if_neg hne]
    rw [this]
theorem putA_comm {i j : Option Nat} {x y : AV} (hn : n ≤ 2 ^ d) (h : ∀ t,i = some t → j ≠ some t) : putA n d (putA n d tm i x) j y = putA n d (putA n d tm j y) i x := by
 cases i with
 | none => rfl
 | some s =>
  cases j with
  | none => rfl
  | some t =>
   have hne : s ≠ t := fun e => h s rfl (by rw [e])
   simp only [putA]
   cases hb : Nat.blt s n <;> cases hc : Nat.blt t n <;> simp only [cond_true,cond_false]
   exact cput_comm d tm s t x y (by have := blt_iff.1 hb; omega) (by have := blt_iff.1 hc; omega) hne
end
end I
end Go.Proofs.YtojefiolcedigaaGreatDoor
namespace Go.Proofs.YtojefiolcedigaaGreatDoor
namespace I
open K (one aggB run_underlying' run_sizeOf' add_none run_v cell_cells)
set_option linter.unusedVariables false
def quietK (o : Oper) : Bool :=
 match o.op with
 | .store .. | .mapUpdate .. | .insert .. | .entryStore .. | .mapEntry .. | .range .. | .next .. | .entry .. | .go .. | .defer .. | .panic .. | .send .. | .recv .. | .select .. | .makeChan .. | .ready .. | .waits .. => false
 | .call ⟨.builtin .len,_,_⟩ | .call ⟨.builtin .cap,_,_⟩ | .call ⟨.builtin .max,_,_⟩ | .call ⟨.builtin .min,_,_⟩ | .call ⟨.builtin .unsafeSliceData,_,_⟩ => true
 | .call _ => false
 | _ => true
structure D where
 tm : AV
 h : AV
 nx : Nat
 pt : AV
 wt : AV
abbrev KF := Nat → List AV → AV → Nat → Option (AV × AV × Nat)
structure DC where
 P : Program
 G : Nat
 n : Nat
 d : Nat
 K : KF
 ops : Array Oper
 nx0 : Nat
 pd : Nat
def ancN (ops : Array Oper) : Nat → Nat → List Nat
 | 0,_ => []
 | k + 1,j => match ops[j]? with
  | none => []
  | some o => o.after.toList.flatMap fun e => bif Region.binds .any e then e.on :: ancN ops k e.on else []
def merge (pd nx0 : Nat) : List Nat → AV → AV → AV × AV
 | [],h,pt => (h,pt)
 | j :: l,h,pt => bif live (cget pd pt j) && Nat.blt j (2 ^ pd) then merge pd nx0 l (cput HD h (nx0 + j) (cget pd pt j)) (cput pd pt j .undef) else merge pd nx0 l h pt
def chkW (C : DC) (h wt : AV) : List Nat → Bool
 | [] => true
 | k :: l => (match cget C.pd wt k with
  | .lcons vs v => match C.ops[k]? with
   | some o => match aread C.P (opndS C.G (o.looksAt C.ops) (toList vs)) h o with
    | some v' => beqA v v'
    | none => false
   | none => false
  | _ => true) && chkW C h wt l
def put1 (C : DC) (s : D) (o : Oper) (v : AV) : D := { s with tm := putA C.n C.d s.tm o.dst v }
structure QE where
 v : AV
 w : Option AV
 p : Option AV
def optput (d i : Nat) (t : AV) : Option AV → AV
 | none => t
 | some x => cput d t i x
def QE.app (C : DC) (q : QE) (s : D) (i : Nat) (o : Oper) : D :=
 { s with tm := putA C.n C.d s.tm o.dst q.v,wt := optput C.pd i s.wt q.w,pt := optput C.pd i s.pt q.p }
def qeff (C : DC) (vs : List AV) (h : AV) (i : Nat) (o : Oper) : Option QE :=
 let ρ := opndS C.G (o.looksAt C.ops) vs
 match apure C.P ρ o with
 | some v => some ⟨v,none,none⟩
 | none => match anew C.P ρ o with
  | some (nv,x) => some ⟨nv.at (C.nx0 + i),none,some x⟩
  | none => match aread C.P ρ h o with
   | some v => some ⟨v,some (.lcons (ofList vs) v),none⟩
   | none => none
def quiet1 (C : DC) (s : D) (i : Nat) (o : Oper) : Option D :=
 match qeff C (snap C.n C.d s.tm (o.looksAt C.ops)) s.h i o with
 | some q => some (q.app C s i o)
 | none => none
def others (C : DC) (i : Nat) : List Nat := let a := ancN C.ops C.ops.size i; (List.range C.ops.size).filter fun k => !(a.any (Nat.beq k))
theorem mem_others {C : DC} {i k : Nat} : k ∈ others C i ↔ k < C.ops.size ∧ k ∉ ancN C.ops C.ops.size i := by
 unfold others
 simp only [List.mem_filter,List.mem_range,Bool.not_eq_true',List.any_eq_false]
 constructor
 ·rintro ⟨h1,h2⟩
  exact ⟨h1,fun hm => h2 k hm (Nat.beq_refl k)⟩
 ·rintro ⟨h1,h2⟩
  refine ⟨h1,fun x hx hb => h2 ?_⟩
  have : k = x := Nat.eq_of_beq_eq_true hb
  rw [this]; exact hx
def eff1 (C : DC) (s : D) (i : Nat) (o : Oper) : Option D :=
 let ρ := opndS C.G (o.looksAt C.ops) (snap C.n C.d s.tm (o.looksAt C.ops))
 let m := merge C.pd C.nx0 (ancN C.ops C.ops.size i) s.h s.pt
 let r := match aeff C.P ρ m.1 s.nx o with
  | some r => some r
  | none => match acallee ρ o with
   | some (f,args) => C.K f args m.1 s.nx
   | none => none
 match r with
 | some (v,h',nx') => bif chkW C h' s.wt (others C i) then some { tm := putA C.n C.d s.tm o.dst v,h := h',nx := nx',pt := m.2,wt := s.wt } else none
 | none => none
def dstep (C : DC) (s : D) (i : Nat) (o : Oper) : Option D :=
 match wantA C.n C.d C.ops s.tm o with
 | none => none
 | some false => some (put1 C s o .undef)
 | some true => bif quietK o then quiet1 C s i o else eff1 C s i o
section
variable {C : DC}
theorem merge_put {pd nx0 i : Nat} {x : AV} (hi : i < 2 ^ pd) : ∀ {l : List Nat} {h pt : AV},i ∉ l → merge pd nx0 l h (cput pd pt i x) = ((merge pd nx0 l h pt).1,cput pd (merge pd nx0 l h pt).2 i x)
 | [],h,pt,_ => rfl
 | j :: l,h,pt,hn => by
  have hji : j ≠ i := fun e => hn (by rw [e]; exact List.mem_cons_self ..)
  have hnl : i ∉ l := fun hm => hn (List.mem_cons_of_mem _ hm)
  simp only [merge]
  cases hb : Nat.blt j (2 ^ pd) with
  | false => simp only [Bool.and_false,cond_false]; exact merge_put hi hnl
  | true =>
   have hj := blt_iff.1 hb
   rw [cget_cput pd pt i j x hi hj,if_neg hji]
   cases hl : live (cget pd pt j) with
   | false => simp only [Bool.false_and,cond_false]; exact merge_put hi hnl
   | true =>
    simp only [Bool.and_self,cond_true]
    rw [cput_comm pd pt i j x .undef hi hj (fun e => hji e.symm)]
    exact merge_put hi hnl
theorem chkW_put {h wt e : AV} {i : Nat} (hi : i < 2 ^ C.pd) (h0 : cget C.pd wt i = .undef) : ∀ {l : List Nat},(∀ k ∈ l,k < 2 ^ C.pd) → chkW C h (cput C.pd wt i e) l = true → chkW C h wt l = true
 | [],_,_ => rfl
 | k :: l,hl,hc => by
  simp only [chkW,Bool.and_eq_true] at hc ⊢
  refine ⟨?_,chkW_put hi h0 (fun k hk => hl k (List.mem_cons_of_mem _ hk)) hc.2⟩
  have hk := hl k (List.mem_cons_self ..)
  by_cases hki : k = i
  ·rw [hki,h0]
  ·have := hc.1
   rw [cget_cput C.pd wt i k e hi hk,if_neg hki] at this
   exact this
theorem chkW_get {h wt : AV} {i : Nat} {vs v : AV} : ∀ {l : List Nat},i ∈ l → cget C.pd wt i = .lcons vs v → chkW C h wt l = true → ∃ o,C.ops[i]? = some o ∧ aread C.P (opndS C.G (o.looksAt C.ops) (toList vs)) h o = some v
 | [],hm,_,_ => by cases hm
 | k :: l,hm,he,hc => by
  simp only [chkW,Bool.and_eq_true] at hc
  rcases List.mem_cons.1 hm with rfl | hm
  ·have := hc.1
   rw [he] at this
   simp only at this
   split at this
   ·rename_i o ho
    refine ⟨o,ho,?_⟩
    split at this
    ·rename_i v' hv'
     rw [hv',beqA_ok _ _ this]
    ·cases this
   ·cases this
  ·exact chkW_get hm he hc.2
def Clean (C : DC) (s : D) (i : Nat) : Prop := cget C.pd s.wt i = .undef ∧ cget C.pd s.pt i = .undef
theorem dstep_clean {s s' : D} {i j : Nat} {o : Oper} (hi : i < 2 ^ C.pd) (hj : j < 2 ^ C.pd) (hne : j ≠ i) (hc : Clean C s i) (hs : dstep C s j o = some s') : Clean C s' i := by
 have hmerge : ∀ (l : List Nat) (h pt : AV),cget C.pd pt i = .undef → cget C.pd (merge C.pd C.nx0 l h pt).2 i = .undef := by
  intro l
  induction l with
  | nil => intro h pt hp; exact hp
  | cons k l ih =>
   intro h pt hp
   simp only [merge]
   cases hb : (live (cget C.pd pt k) && Nat.blt k (2 ^ C.pd)) with
   | false => exact ih _ _ hp
   | true =>
    simp only [Bool.and_eq_true] at hb
    refine ih _ _ ?_
    rw [cget_cput C.pd pt k i .undef (blt_iff.1 hb.2) hi]
    split
    ·rfl
    ·exact hp
 unfold dstep at hs
 split at hs
 ·cases hs
 ·simp only [Option.some.injEq] at hs; subst hs; exact hc
 ·cases hq : quietK o with
  | true =>
   simp only [hq,cond_true,quiet1] at hs
   split at hs
   ·rename_i q hqe
    simp only [Option.some.injEq] at hs; subst hs
    refine ⟨?_,?_⟩
    ·show cget C.pd (optput C.pd j s.wt q.w) i = .undef
     cases q.w with
     | none => exact hc.1
     | some e => simp only [optput]; rw [cget_cput C.pd s.wt j i _ hj hi,if_neg (fun e => hne e.symm)]; exact hc.1
    ·show cget C.pd (optput C.pd j s.pt q.p) i = .undef
     cases q.p with
     | none => exact hc.2
     | some e => simp only [optput]; rw [cget_cput C.pd s.pt j i _ hj hi,if_neg (fun e => hne e.symm)]; exact hc.2
   ·cases hs
  | false =>
   simp only [hq,cond_false,eff1] at hs
   split at hs
   ·rename_i v h' nx' hr
    cases hk : chkW C h' s.wt (others C j) with
    | false => simp [hk] at hs
    | true =>
     simp only [hk,cond_true,Option.some.injEq] at hs
     subst hs
     exact ⟨hc.1,hmerge _ _ _ hc.2⟩
   ·cases hs
theorem optput_comm {d i j : Nat} {t : AV} {x y : Option AV} (hi : i < 2 ^ d) (hj : j < 2 ^ d) (hne : i ≠ j) : optput d j (optput d i t x) y = optput d i (optput d j t y) x := by
 cases x <;> cases y <;> simp only [optput]
 exact cput_comm d t i j _ _ hi hj hne
theorem app_comm {q r : QE} {s : D} {i j : Nat} {oi oj : Oper} (hn : C.n ≤ 2 ^ C.d) (hi : i < 2 ^ C.pd) (hj : j < 2 ^ C.pd) (hne : i ≠ j) (hd : ∀ d,oi.dst = some d → oj.dst ≠ some d) : r.app C (q.app C s i oi) j oj = q.app C (r.app C s j oj) i oi := by
 simp only [QE.app]
 rw [putA_comm hn hd,optput_comm hi hj hne,optput_comm hi hj hne]
theorem qeff_h {vs : List AV} {h h' : AV} {i : Nat} {o : Oper} {q : QE} (hq : qeff C vs h i o = some q) (hr : ∀ v,q.w = some (.lcons (ofList vs) v) → aread C.P (opndS C.G (o.looksAt C.ops) vs) h' o = some v) : qeff C vs h' i o = some q := by
 unfold qeff at hq ⊢
 dsimp only at hq ⊢
 split
 ·rename_i v hv
  rw [hv] at hq; exact hq
 ·rename_i hv
  rw [hv] at hq
  simp only at hq
  split
  ·rename_i nv x hx
   rw [hx] at hq; exact hq
  ·rename_i hx
   rw [hx] at hq
   simp only at hq
   split at hq
   ·rename_i v hv'
    simp only [Option.some.injEq] at hq
    subst hq
    rw [hr v rfl]
   ·cases hq
theorem dstep_quiet {s s' : D} {i : Nat} {o : Oper} (hq : quietK o = true) (hs : dstep C s i o = some s') :
  ∃ q : QE,s' = q.app C s i o ∧ (∀ v,q.w = some (.lcons (ofList (snap C.n C.d s.tm (o.looksAt C.ops))) v) → aread C.P (opndS C.G (o.looksAt C.ops) (snap C.n C.d s.tm (o.looksAt C.ops))) s.h o = some v) ∧
   ∀ t : D,wantA C.n C.d C.ops t.tm o = wantA C.n C.d C.ops s.tm o → snap C.n C.d t.tm (o.looksAt C.ops) = snap C.n C.d s.tm (o.looksAt C.ops) →
   (∀ v,q.w = some (.lcons (ofList (snap C.n C.d s.tm (o.looksAt C.ops))) v) → aread C.P (opndS C.G (o.looksAt C.ops) (snap C.n C.d s.tm (o.looksAt C.ops))) t.h o = some v) → dstep C t i o = some (q.app C t i o) := by
 unfold dstep at hs
 split at hs
 ·cases hs
 ·rename_i hw
  simp only [Option.some.injEq] at hs
  refine ⟨⟨.undef,none,none⟩,hs.symm,fun v hv => (by cases hv),fun t h1 _ _ => ?_⟩
  unfold dstep
  rw [h1,hw]
  rfl
 ·rename_i hw
  simp only [hq,cond_true,quiet1] at hs
  split at hs
  ·rename_i q hqe
   simp only [Option.some.injEq] at hs
   refine ⟨q,hs.symm,fun v hv => ?_,fun t h1 h2 h3 => ?_⟩
   ·unfold qeff at hqe
    dsimp only at hqe
    split at hqe
    ·simp only [Option.some.injEq] at hqe; rw [← hqe] at hv; cases hv
    ·split at hqe
     ·simp only [Option.some.injEq] at hqe; rw [← hqe] at hv; cases hv
     ·split at hqe
      ·rename_i u hu
       simp only [Option.some.injEq] at hqe
       rw [← hqe] at hv
       simp only [Option.some.injEq,AV.lcons.injEq,true_and] at hv
       rw [← hv]; exact hu
      ·cases hqe
   ·unfold dstep
    rw [h1,hw]
    simp only [hq,cond_true,quiet1]
    rw [h2,qeff_h hqe h3]
  ·cases hs
theorem diamond {s s1 s2 : D} {i j : Nat} {oi oj : Oper} (hn : C.n ≤ 2 ^ C.d) (hii : C.ops[i]? = some oi) (hjj : C.ops[j]? = some oj) (hpd : C.ops.size ≤ 2 ^ C.pd) (hne : i ≠ j) (hc : Clean C s i) (hq : quietK oi = true) (hap : oi.apart C.ops oj = true) (hanc : i ∉ ancN C.ops C.ops.size j)
  (h1 : dstep C s i oi = some s1) (h2 : dstep C s1 j oj = some s2) : ∃ s',dstep C s j oj = some s' ∧ dstep C s' i oi = some s2 := by
 obtain ⟨a1,a2,a3⟩ := Oper.apart_spec hap
 have hin : i < C.ops.size := (Array.getElem?_eq_some_iff.1 hii).1
 have hjn : j < C.ops.size := (Array.getElem?_eq_some_iff.1 hjj).1
 have hi : i < 2 ^ C.pd := by omega
 have hj : j < 2 ^ C.pd := by omega
 have hrange : ∀ k ∈ others C j,k < 2 ^ C.pd := fun k hk => by have := (mem_others.1 hk).1; omega
 obtain ⟨q,rfl,hread0,hQ⟩ := dstep_quiet hq h1
 have hwant : wantA C.n C.d C.ops (q.app C s i oi).tm oj = wantA C.n C.d C.ops s.tm oj := wantA_put hn a1
 have hsnap : snap C.n C.d (q.app C s i oi).tm (oj.looksAt C.ops) = snap C.n C.d s.tm (oj.looksAt C.ops) := snap_put hn a1
 have hback : ∀ (t : D) (y : AV),t.tm = putA C.n C.d s.tm oj.dst y → (∀ v,q.w = some (.lcons (ofList (snap C.n C.d s.tm (oi.looksAt C.ops))) v) → aread C.P (opndS C.G (oi.looksAt C.ops) (snap C.n C.d s.tm (oi.looksAt C.ops))) t.h oi = some v) → dstep C t i oi = some (q.app C t i oi) := by
  intro t y ht hr
  refine hQ t ?_ ?_ hr
  ·rw [ht]; exact wantA_put hn a3
  ·rw [ht]; exact snap_put hn a3
 cases hqj : quietK oj with
 | true =>
  obtain ⟨r,rfl,hrj,hR⟩ := dstep_quiet hqj h2
  rw [hsnap] at hR hrj
  have hs' : dstep C s j oj = some (r.app C s j oj) := hR s hwant.symm rfl hrj
  refine ⟨_,hs',?_⟩
  rw [hback (r.app C s j oj) r.v rfl hread0,app_comm hn hi hj hne a2]
 | false =>
  unfold dstep at h2 ⊢
  rw [hwant] at h2
  split at h2
  ·cases h2
  ·rename_i hw
   simp only [Option.some.injEq] at h2
   refine ⟨put1 C s oj .undef,rfl,?_⟩
   have := hback (put1 C s oj .undef) .undef rfl hread0
   unfold dstep at this
   rw [this,← h2]
   simp only [QE.app,put1]
   rw [putA_comm hn (fun d hd he => a2 d he hd)]
  ·rename_i hw
   simp only [hqj,cond_false,eff1] at h2
   rw [hsnap] at h2
   have hm : merge C.pd C.nx0 (ancN C.ops C.ops.size j) (q.app C s i oi).h (q.app C s i oi).pt = ((merge C.pd C.nx0 (ancN C.ops C.ops.size j) s.h s.pt).1,optput C.pd i (merge C.pd C.nx0 (ancN C.ops C.ops.size j) s.h s.pt).2 q.p) := by
    simp only [QE.app]
    cases q.p with
    | none => rfl
    | some x => simp only [optput]; exact merge_put hi hanc
   rw [hm] at h2
   split at h2
   ·rename_i v h' nx' hr
    cases hk : chkW C h' (q.app C s i oi).wt (others C j) with
    | false => simp [hk] at h2
    | true =>
     simp only [hk,cond_true,Option.some.injEq] at h2
     have hk' : chkW C h' s.wt (others C j) = true := by
      cases hqw : q.w with
      | none => simp only [QE.app,hqw,optput] at hk; exact hk
      | some e => simp only [QE.app,hqw,optput] at hk; exact chkW_put hi hc.1 hrange hk
     refine ⟨{ tm := putA C.n C.d s.tm oj.dst v,h := h',nx := nx',pt := (merge C.pd C.nx0 (ancN C.ops C.ops.size j) s.h s.pt).2,wt := s.wt },?_,?_⟩
     ·simp only [hqj,cond_false,eff1]
      have hr' := hr
      simp only [QE.app] at hr'
      rw [hr']
      simp only [hk',cond_true]
     ·have := hback { tm := putA C.n C.d s.tm oj.dst v,h := h',nx := nx',pt := (merge C.pd C.nx0 (ancN C.ops C.ops.size j) s.h s.pt).2,wt := s.wt } v rfl (fun u hu => by
       have hg : cget C.pd (q.app C s i oi).wt i = .lcons (ofList (snap C.n C.d s.tm (oi.looksAt C.ops))) u := by
        simp only [QE.app,hu,optput]
        rw [cget_cput C.pd _ i i _ hi hi,if_pos rfl]
       obtain ⟨o',ho',hrd⟩ := chkW_get (mem_others.2 ⟨hin,hanc⟩) hg hk
       rw [hii] at ho'
       simp only [Option.some.injEq] at ho'
       subst ho'
       rw [toList_ofList] at hrd
       exact hrd)
      unfold dstep at this
      rw [this,← h2]
      simp only [QE.app]
      rw [putA_comm hn (fun d hd he => a2 d he hd)]
   ·cases h2
end
end I
end Go.Proofs.YtojefiolcedigaaGreatDoor
namespace Go.Proofs.YtojefiolcedigaaGreatDoor
namespace I
open K (one aggB run_underlying' run_sizeOf' add_none run_v cell_cells)
set_option linter.unusedVariables false
section
variable {σ σ' : Sg} {h h' : AV} {nx nx' : Nat} {w0 w w' : World} {B : Fr}
theorem HS.more (H : HS σ h nx w0 B w) (hk : ∀ k,k < w.heap.size → w'.heap[k]? = w.heap[k]?) (hs : w.heap.size ≤ w'.heap.size) (h1 : w'.os = w.os) (h2 : w'.tape = w.tape) (h3 : w'.output = w.output) : HS σ h nx w0 B w' :=
 ⟨h1.trans H.os,h2.trans H.tape,h3.trans H.output,Nat.le_trans H.size hs,fun k hlt hB => (hk k (Nat.lt_of_lt_of_le hlt H.size)).trans (H.block k hlt hB),
  fun b hb => (H.blk b hb).mono (fun _ _ h => h) (fun p hp hl => hk _ (H.real_lt hp hl)),H.dom,H.nxle,H.dist,H.acc⟩
theorem HS.bind (H : HS σ h nx w0 B w) {b0 : Nat} {p : Pl} (h0 : σ b0 = none) (hlt : b0 < nx) : Sub σ (ext σ b0 p) ∧ HS (ext σ b0 p) h nx w0 B w := by
 have hsub : Sub σ (ext σ b0 p) := fun b q hb => by
  unfold ext
  rw [if_neg (fun e => by rw [e,h0] at hb; cases hb)]; exact hb
 have hnl : live (cget HD h b0) = false := by
  cases hl : live (cget HD h b0) with
  | false => rfl
  | true =>
   obtain ⟨q,hq⟩ := (H.blk b0 (Nat.lt_of_lt_of_le hlt H.nxle)).name hl
   rw [h0] at hq; cases hq
 have hback : ∀ b q,live (cget HD h b) = true → ext σ b0 p b = some q → σ b = some q := fun b q hl hb => by
  unfold ext at hb
  rw [if_neg (fun e => by rw [e,hnl] at hl; cases hl)] at hb; exact hb
 refine ⟨hsub,H.os,H.tape,H.output,H.size,H.block,fun b hb => (H.blk b hb).mono hsub (fun _ _ _ => rfl),fun b q hb => ?_,H.nxle,fun b b' q q' hne hb hb' hl hl' => ?_,fun b q hb hl => ?_⟩
 ·unfold ext at hb
  by_cases hbb : b = b0
  ·rw [hbb]; exact hlt
  ·rw [if_neg hbb] at hb; exact H.dom b q hb
 ·exact H.dist b b' q q' hne (hback b q (live_of hl) hb) (hback b' q' hl' hb') hl hl'
 ·exact H.acc b q (hback b q hl hb) hl
theorem HS.lay (H : HS σ h nx w0 B w) {b0 : Nat} {p : Pl} {x : AV} (hb0 : σ b0 = some p) (hx : BlkRel σ w0 B w b0 x) (hm : w0.heap.size ≤ p.1) (hd : ∀ b q,b ≠ b0 → σ b = some q → live (cget HD h b) = true → q.1 ≠ p.1) :
  HS σ (cput HD h b0 x) nx w0 B w := by
 have hlt := H.lt hb0
 have hget : ∀ c,c < 2 ^ HD → cget HD (cput HD h b0 x) c = if c = b0 then x else cget HD h c := fun c hc => cget_cput HD h b0 c x hlt hc
 refine ⟨H.os,H.tape,H.output,H.size,H.block,fun c hc => ?_,H.dom,H.nxle,fun c c' q q' hne hc hc' hlc hlc' => ?_,fun c q hc hlc => ?_⟩
 ·rw [hget c hc]
  by_cases hcb : c = b0
  ·rw [if_pos hcb,hcb]; exact hx
  ·rw [if_neg hcb]; exact H.blk c hc
 ·rw [hget c (H.lt hc)] at hlc
  rw [hget c' (H.lt hc')] at hlc'
  by_cases hcb : c = b0
  ·have hcb' : c' ≠ b0 := fun e => hne (hcb.trans e.symm)
   rw [if_neg hcb'] at hlc'
   rw [hcb,hb0] at hc
   simp only [Option.some.injEq] at hc
   rw [← hc]; exact fun e => hd c' q' hcb' hc' hlc' e.symm
  ·rw [if_neg hcb] at hlc
   by_cases hcb' : c' = b0
   ·rw [hcb',hb0] at hc'
    simp only [Option.some.injEq] at hc'
    rw [← hc']; exact hd c q hcb hc (live_of hlc)
   ·rw [if_neg hcb'] at hlc'
    exact H.dist c c' q q' hne hc hc' hlc hlc'
 ·rw [hget c (H.lt hc)] at hlc
  by_cases hcb : c = b0
  ·rw [hcb,hb0] at hc
   simp only [Option.some.injEq] at hc
   rw [← hc]; exact .inr hm
  ·rw [if_neg hcb] at hlc
   exact H.acc c q hc hlc
def img (σ : Sg) (h : AV) : Fr := ⟨fun r => ∃ b p,σ b = some p ∧ liveW (cget HD h b) = true ∧ p.1 = r,fun r => ∃ b p,σ b = some p ∧ live (cget HD h b) = true ∧ p.1 = r⟩
theorem HS.mine (H : HS σ h nx w0 B w) {b : Nat} {p : Pl} (hb : σ b = some p) (hl : liveW (cget HD h b) = true) : B.wr p.1 ∨ w0.heap.size ≤ p.1 := (H.blk b (H.lt hb)).wr hl hb
theorem HS.rebase (H : HS σ h nx w0 B w) : HS σ h nx w (img σ h) w :=
 ⟨rfl,rfl,rfl,Nat.le_refl _,fun _ _ _ => rfl,fun b hb => (H.blk b hb).rebase (fun p hp hl => .inl ⟨b,p,hp,hl,rfl⟩),H.dom,H.nxle,H.dist,fun b p hb hl => .inl ⟨b,p,hb,hl,rfl⟩⟩
theorem HS.compose (H : HS σ h nx w0 B w) (H' : HS σ' h' nx' w (img σ h) w') : HS σ' h' nx' w0 B w' := by
 have hwr : ∀ r,((img σ h).wr r ∨ w.heap.size ≤ r) → (B.wr r ∨ w0.heap.size ≤ r) := by
  rintro r (⟨b,p,hb,hl,rfl⟩ | hr)
  ·exact H.mine hb hl
  ·exact .inr (Nat.le_trans H.size hr)
 refine ⟨H'.os.trans H.os,H'.tape.trans H.tape,H'.output.trans H.output,Nat.le_trans H.size H'.size,fun k hk hB => ?_,fun b hb => ?_,H'.dom,H'.nxle,H'.dist,fun b p hb hl => ?_⟩
 ·rw [H'.block k (Nat.lt_of_lt_of_le hk H.size) (fun hw => by
   rcases hwr k (.inl hw) with h1 | h1
   ·exact hB h1
   ·omega)]
  exact H.block k hk hB
 ·exact (H'.blk b hb).rebase (fun p hp hl => hwr _ ((H'.blk b hb).wr hl hp))
 ·rcases H'.acc b p hb hl with ⟨c,q,hc,hlc,hq⟩ | hr
  ·rw [← hq]; exact H.acc c q hc hlc
  ·exact .inr (Nat.le_trans H.size hr)
theorem HS.skip (H : HS σ h nx w0 B w) (hle : nx ≤ nx') (hm : nx' ≤ 2 ^ HD) : HS σ h nx' w0 B w :=
 ⟨H.os,H.tape,H.output,H.size,H.block,H.blk,fun b p hb => Nat.lt_of_lt_of_le (H.dom b p hb) hle,hm,H.dist,H.acc⟩
end
structure MSim (C : DC) (w0 : World) (B : Fr) (σ : Sg) (h : AV) (nx : Nat) (pt : AV) (w : World) : Prop where
 hs : HS σ h nx w0 B w
 nx : C.nx0 + C.ops.size ≤ nx
 pend : ∀ k,k < C.ops.size → live (cget C.pd pt k) = true → ∃ p,σ (C.nx0 + k) = some p ∧ BlkRel σ w0 B w (C.nx0 + k) (cget C.pd pt k) ∧ w0.heap.size ≤ p.1 ∧ p.1 < w.heap.size ∧ live (cget HD h (C.nx0 + k)) = false ∧ (∀ b q,b ≠ C.nx0 + k → σ b = some q → live (cget HD h b) = true → q.1 ≠ p.1)
 pdist : ∀ k k' p p',k < C.ops.size → k' < C.ops.size → k ≠ k' → live (cget C.pd pt k) = true → live (cget C.pd pt k') = true → σ (C.nx0 + k) = some p → σ (C.nx0 + k') = some p' → p.1 ≠ p'.1
section
variable {C : DC} {w0 w w' : World} {B : Fr} {σ σ' : Sg}
theorem MSim.merge (hpd : C.ops.size ≤ 2 ^ C.pd) : ∀ {l : List Nat} {h : AV} {nx : Nat} {pt : AV},(∀ j ∈ l,j < C.ops.size) → MSim C w0 B σ h nx pt w → MSim C w0 B σ (merge C.pd C.nx0 l h pt).1 nx (I.merge C.pd C.nx0 l h pt).2 w
 | [],h,nx,pt,_,M => M
 | j :: l,h,nx,pt,hl,M => by
  have hj := hl j (List.mem_cons_self ..)
  simp only [I.merge]
  cases hb : (live (cget C.pd pt j) && Nat.blt j (2 ^ C.pd)) with
  | false => exact MSim.merge hpd (fun k hk => hl k (List.mem_cons_of_mem _ hk)) M
  | true =>
   simp only [Bool.and_eq_true] at hb
   simp only [cond_true]
   refine MSim.merge hpd (fun k hk => hl k (List.mem_cons_of_mem _ hk)) ?_
   obtain ⟨p,p1,p2,p3,p4,p6,p5⟩ := M.pend j hj hb.1
   have hget : ∀ k,k < C.ops.size → cget C.pd (cput C.pd pt j .undef) k = if k = j then .undef else cget C.pd pt k := fun k hk => cget_cput C.pd pt j k .undef (by omega) (by omega)
   have hlive : ∀ k,k < C.ops.size → live (cget C.pd (cput C.pd pt j .undef) k) = true → k ≠ j ∧ live (cget C.pd pt k) = true := fun k hk hlk => by
    rw [hget k hk] at hlk
    by_cases hkj : k = j
    ·rw [if_pos hkj] at hlk; simp [live] at hlk
    ·rw [if_neg hkj] at hlk; exact ⟨hkj,hlk⟩
   refine ⟨M.hs.lay p1 p2 p3 p5,M.nx,fun k hk hlk => ?_,fun k k' q q' hk hk' hne hlk hlk' hq hq' => ?_⟩
   ·obtain ⟨hkj,hlk'⟩ := hlive k hk hlk
    obtain ⟨q,q1,q2,q3,q4,q6,q5⟩ := M.pend k hk hlk'
    rw [hget k hk,if_neg hkj]
    refine ⟨q,q1,q2,q3,q4,by rw [cget_cput HD h (C.nx0 + j) (C.nx0 + k) _ (M.hs.lt p1) (M.hs.lt q1),if_neg (by omega)]; exact q6,fun b u hbk hbu hlb => ?_⟩
    rw [cget_cput HD h (C.nx0 + j) b _ (M.hs.lt p1) (M.hs.lt hbu)] at hlb
    by_cases hbj : b = C.nx0 + j
    ·rw [hbj,p1] at hbu
     simp only [Option.some.injEq] at hbu
     rw [← hbu]
     exact M.pdist j k p q hj hk (fun e => hkj e.symm) hb.1 hlk' p1 q1
    ·rw [if_neg hbj] at hlb
     exact q5 b u hbk hbu hlb
   ·exact M.pdist k k' q q' hk hk' hne (hlive k hk hlk).2 (hlive k' hk' hlk').2 hq hq'
theorem MSim.behind {h h' pt : AV} {nx nx' : Nat} (M : MSim C w0 B σ h nx pt w) (hx : SubX nx σ σ') (hdk : Dk nx h h') (hle : nx ≤ nx') (H' : HS σ' h' nx' w (img σ h) w') : MSim C w0 B σ' h' nx' pt w' := by
 refine ⟨M.hs.compose H',Nat.le_trans M.nx hle,fun k hk hlk => ?_,fun k k' p p' hk hk' hne hlk hlk' hp hp' => ?_⟩
 ·obtain ⟨p,p1,p2,p3,p4,p6,p5⟩ := M.pend k hk hlk
  have hsame : w'.heap[p.1]? = w.heap[p.1]? := H'.block p.1 p4 (fun ⟨b,q,hb,hl,he⟩ => by
   by_cases hbk : b = C.nx0 + k
   ·rw [hbk] at hl; rw [live_of hl] at p6; cases p6
   ·exact p5 b q hbk hb (live_of hl) he)
  refine ⟨p,hx.1 _ _ p1,p2.mono hx.1 (fun q hq _ => by rw [p1] at hq; simp only [Option.some.injEq] at hq; rw [← hq]; exact hsame),p3,Nat.lt_of_lt_of_le p4 H'.size,?_,fun b q hbk hb hl => ?_⟩
  ·cases hl : live (cget HD h' (C.nx0 + k)) with
   | false => rfl
   | true => have := hdk (C.nx0 + k) (by have := M.nx; omega) hl; rw [this] at p6; cases p6
  ·rcases H'.acc b q hb hl with ⟨c,u,hc,hlc,he⟩ | hr
   ·by_cases hck : c = C.nx0 + k
    ·rw [hck,p6] at hlc; cases hlc
    ·rw [← he]; exact p5 c u hck hc hlc
   ·omega
 ·rw [hx.2 (C.nx0 + k) (by have := M.nx; omega)] at hp
  rw [hx.2 (C.nx0 + k') (by have := M.nx; omega)] at hp'
  exact M.pdist k k' p p' hk hk' hne hlk hlk' hp hp'
end
end I
end Go.Proofs.YtojefiolcedigaaGreatDoor
namespace Go.Proofs.YtojefiolcedigaaGreatDoor
namespace I
open K (one aggB run_underlying' run_sizeOf' add_none run_v cell_cells)
set_option linter.unusedVariables false
def CallOk (P : Program) (G : Nat) (f : Nat) (args : List AV) (h : AV) (nx : Nat) (v h' : AV) (nx' : Nat) : Prop :=
 ∀ (σ : Sg) (w0 : World) (B : Fr) (w : World) (vs : List Value),HS σ h nx w0 B w → GRel σ G → RelL σ args vs →
  CalleeOk P σ f vs w fun e w' => ∃ σ' v',SubX nx σ σ' ∧ Dk nx h h' ∧ nx ≤ nx' ∧ e = .returned v' ∧ Rel σ' v v' ∧ HS σ' h' nx' w0 B w'
structure DSim (ds : List Deferred) (C : DC) (w0 : World) (B : Fr) (h0 : AV) (σ : Sg) (s : D) (l : Array Bool) (a : Act) (w : World) : Prop where
 sl : SlotRel ds σ C.n C.d s.tm a
 g : GRel σ C.G
 m : MSim C w0 B σ s.h s.nx s.pt w
 free : ∀ k,k < C.ops.size → l.getD k true = false → σ (C.nx0 + k) = none
 dk : Dk C.nx0 h0 s.h
def KOk (C : DC) : Prop := ∀ f args h nx v h' nx',C.K f args h nx = some (v,h',nx') → CallOk C.P C.G f args h nx v h' nx'
theorem getD_set (l : Array Bool) (i k : Nat) : (l.setIfInBounds i true).getD k true = false → k ≠ i ∧ l.getD k true = false := by
 intro h
 by_cases hki : i = k
 ·subst hki
  by_cases hlt : i < l.size
  ·simp [hlt] at h
  ·simp [hlt] at h
 ·refine ⟨fun e => hki e.symm,?_⟩
  rwa [getD_set_ne true hki] at h
section
variable {ds : List Deferred} {ro : Option Nat} {C : DC} {w0 w : World} {B : Fr} {hb : AV} {σ : Sg} {a : Act} {s s' : D} {l : Array Bool} {Q : Exit → Act → World → Prop}
theorem ancN_lt : ∀ (k j : Nat),(∀ (j : Nat) o,C.ops[j]? = some o → ∀ e ∈ o.after,e.on < C.ops.size) → ∀ x ∈ ancN C.ops k j,x < C.ops.size
 | 0,j,_,x,hx => by simp [ancN] at hx
 | k + 1,j,h,x,hx => by
  unfold ancN at hx
  split at hx
  ·simp at hx
  ·rename_i o ho
   obtain ⟨e,he,hx⟩ := List.mem_flatMap.1 hx
   cases hb : Region.binds .any e with
   | false => simp [hb] at hx
   | true =>
    simp only [hb,cond_true] at hx
    rcases List.mem_cons.1 hx with rfl | hx
    ·exact h j o ho e (by simpa using he)
    ·exact ancN_lt k e.on h x hx
theorem merge_dk {pd nx0 m : Nat} (hm : nx0 + m ≤ 2 ^ HD) : ∀ {l : List Nat} {h pt : AV},(∀ j ∈ l,j < m) → Dk nx0 h (I.merge pd nx0 l h pt).1
 | [],h,pt,_ => Dk.refl _ _
 | j :: l,h,pt,hl => by
  have hj := hl j (List.mem_cons_self ..)
  simp only [I.merge]
  cases hb : (live (cget pd pt j) && Nat.blt j (2 ^ pd)) with
  | false => exact merge_dk hm (fun k hk => hl k (List.mem_cons_of_mem _ hk))
  | true =>
   simp only [cond_true]
   refine Dk.trans ?_ (merge_dk hm (fun k hk => hl k (List.mem_cons_of_mem _ hk))) (Nat.le_refl _)
   intro c hc hlc
   rw [cget_cput HD h (nx0 + j) c _ (by omega) (by omega),if_neg (by omega)] at hlc
   exact hlc
theorem dstep_ok (hK : KOk C) (hpd : C.ops.size ≤ 2 ^ C.pd) (hed : ∀ (j : Nat) o,C.ops[j]? = some o → ∀ e ∈ o.after,e.on < C.ops.size) (S : DSim ds C w0 B hb σ s l a w) {i : Nat} {o : Oper} (ho : C.ops[i]? = some o) (hun : l.getD i true = false) (hs : dstep C s i o = some s')
  {Kt : Act → World → Prop} (hKt : ∀ σ' a' w',SubX C.nx0 σ σ' → DSim ds C w0 B hb σ' s' (l.setIfInBounds i true) a' w' → Kt a' w') : wpOpIn (fen ro) 0 C.P C.ops Q i Kt a w := by
 have hi : i < C.ops.size := (Array.getElem?_eq_some_iff.1 ho).1
 unfold wpOpIn
 simp only [ho]
 have hfree : ∀ k,k < C.ops.size → (l.setIfInBounds i true).getD k true = false → σ (C.nx0 + k) = none := fun k hk hl => S.free k hk (getD_set l i k hl).2
 have hnx := S.m.nx
 have hρ := opndS_ok S.sl S.g (o.looksAt C.ops)
 unfold dstep at hs
 split at hs
 ·cases hs
 ·rename_i hw
  rw [wantA_ok S.sl hw]
  simp only [Bool.false_eq_true,if_false]
  simp only [Option.some.injEq] at hs
  subst hs
  exact ⟨fun _ _ => trivial,hKt σ _ w (SubX.refl _ σ) ⟨put_ok S.sl .undef,S.g,S.m,hfree,S.dk⟩⟩
 ·rename_i hw
  rw [wantA_ok S.sl hw]
  simp only [if_true]
  cases hq : quietK o with
  | true =>
   simp only [hq,cond_true,quiet1] at hs
   split at hs
   ·rename_i q hqe
    simp only [Option.some.injEq] at hs
    subst hs
    unfold qeff at hqe
    dsimp only at hqe
    split at hqe
    ·rename_i v hv
     simp only [Option.some.injEq] at hqe
     subst hqe
     obtain ⟨u,h1,h2⟩ := apure_ok (P := C.P) (w := w) hρ hv
     exact wpIn_value h2 (hKt σ _ w (SubX.refl _ σ) ⟨put_ok S.sl h1,S.g,S.m,hfree,S.dk⟩)
    ·split at hqe
     ·rename_i nv x hv
      simp only [Option.some.injEq] at hqe
      subst hqe
      obtain ⟨p,u,w',ob,h1,h2,h3,h4,h5,h6,h7,h8⟩ := anew_core (P := C.P) (w := w) (w0 := w0) (B := B) S.m.hs.size hρ hv
      have h0 := S.free i hi hun
      have hmore : ∀ k,k < w.heap.size → w'.heap[k]? = w.heap[k]? := fun k hk => by rw [h2,Array.getElem?_push,if_neg (by omega)]
      have hsz : w'.heap.size = w.heap.size + 1 := by rw [h2]; simp
      have H1 := S.m.hs.more hmore (by omega) h3 h4 h5
      obtain ⟨hsub,H2⟩ := H1.bind (p := p) h0 (show C.nx0 + i < s.nx by omega)
      obtain ⟨h9,h10⟩ := h8 (C.nx0 + i) (ext σ (C.nx0 + i) p) hsub (by simp [ext])
      have hother : ∀ k,k ≠ i → ext σ (C.nx0 + i) p (C.nx0 + k) = σ (C.nx0 + k) := fun k hk => by unfold ext; rw [if_neg (by omega)]
      have hgp : ∀ k,k < C.ops.size → cget C.pd (cput C.pd s.pt i x) k = if k = i then x else cget C.pd s.pt k := fun k hk => cget_cput C.pd s.pt i k x (by omega) (by omega)
      refine wpIn_value h1 ?_
      refine hKt (ext σ (C.nx0 + i) p) _ w' ⟨hsub,fun b hb => by unfold ext; rw [if_neg (by omega)]⟩ ⟨put_ok (S.sl.mono hsub) h9,S.g.mono hsub,⟨H2,hnx,fun k hk hlk => ?_,fun k k' q q' hk hk' hne hlk hlk' hq' hq'' => ?_⟩,fun k hk hl => ?_,S.dk⟩
      ·by_cases hki : k = i
       ·subst hki
        show ∃ p',_
        refine ⟨p,by simp [ext],?_,by rw [h6]; exact S.m.hs.size,by rw [h6]; omega,?_,fun b q hbk hb hl => ?_⟩
        ·show BlkRel _ _ _ _ _ (cget C.pd (cput C.pd s.pt k x) k)
         rw [hgp k hk,if_pos rfl]; exact h10
        ·cases hl : live (cget HD s.h (C.nx0 + k)) with
         | false => exact hl
         | true =>
          obtain ⟨q,hq⟩ := (S.m.hs.blk (C.nx0 + k) (Nat.lt_of_lt_of_le (show C.nx0 + k < s.nx by omega) S.m.hs.nxle)).name hl
          rw [h0] at hq; cases hq
        ·unfold ext at hb
         rw [if_neg hbk] at hb
         have := S.m.hs.real_lt hb hl
         rw [h6]; omega
       ·have hlk' : live (cget C.pd s.pt k) = true := by
         have := hlk
         simp only [QE.app,optput] at this
         rw [hgp k hk,if_neg hki] at this; exact this
        obtain ⟨q,q1,q2,q3,q4,q6,q5⟩ := S.m.pend k hk hlk'
        refine ⟨q,by rw [hother k hki]; exact q1,?_,q3,by omega,q6,fun b u hbk hb hl => ?_⟩
        ·show BlkRel _ _ _ _ _ (cget C.pd (cput C.pd s.pt i x) k)
         rw [hgp k hk,if_neg hki]
         exact q2.mono hsub (fun r hr _ => by rw [q1] at hr; simp only [Option.some.injEq] at hr; rw [← hr]; exact hmore _ q4)
        ·by_cases hbi : b = C.nx0 + i
         ·have hnl : live (cget HD s.h b) = true := hl
          rw [hbi] at hnl
          obtain ⟨q,hq⟩ := (S.m.hs.blk (C.nx0 + i) (Nat.lt_of_lt_of_le (show C.nx0 + i < s.nx by omega) S.m.hs.nxle)).name hnl
          rw [h0] at hq; cases hq
         ·unfold ext at hb
          rw [if_neg hbi] at hb
          exact q5 b u hbk hb hl
      ·have key : ∀ k,k < C.ops.size → k ≠ i → live (cget C.pd (cput C.pd s.pt i x) k) = true → live (cget C.pd s.pt k) = true := fun k hk hki hl => by rw [hgp k hk,if_neg hki] at hl; exact hl
       simp only [QE.app,optput] at hlk hlk'
       by_cases hki : k = i
       ·have hki' : k' ≠ i := fun e => hne (hki.trans e.symm)
        rw [hki] at hq'
        simp only [ext,if_true,Option.some.injEq] at hq'
        rw [hother k' hki'] at hq''
        obtain ⟨u',q1,q2,q3,q4,q6,q5⟩ := S.m.pend k' hk' (key k' hk' hki' hlk')
        rw [q1] at hq''
        simp only [Option.some.injEq] at hq''
        rw [← hq',← hq'',h6]; omega
       ·rw [hother k hki] at hq'
        by_cases hki' : k' = i
        ·rw [hki'] at hq''
         simp only [ext,if_true,Option.some.injEq] at hq''
         obtain ⟨u',q1,q2,q3,q4,q6,q5⟩ := S.m.pend k hk (key k hk hki hlk)
         rw [q1] at hq'
         simp only [Option.some.injEq] at hq'
         rw [← hq',← hq'',h6]; omega
        ·rw [hother k' hki'] at hq''
         exact S.m.pdist k k' q q' hk hk' hne (key k hk hki hlk) (key k' hk' hki' hlk') hq' hq''
      ·have hki := (getD_set l i k hl).1
       rw [hother k hki]; exact hfree k hk hl
     ·split at hqe
      ·rename_i v hv
       simp only [Option.some.injEq] at hqe
       subst hqe
       obtain ⟨u,h1,h2⟩ := aread_ok (P := C.P) S.m.hs hρ hv
       exact wpIn_value h2 (hKt σ _ w (SubX.refl _ σ) ⟨put_ok S.sl h1,S.g,S.m,hfree,S.dk⟩)
      ·cases hqe
   ·cases hs
  | false =>
   simp only [hq,cond_false,eff1] at hs
   have M := S.m.merge hpd (l := ancN C.ops C.ops.size i) (ancN_lt _ _ hed)
   have hR := M.hs.rebase
   have hmd : Dk C.nx0 s.h (I.merge C.pd C.nx0 (ancN C.ops C.ops.size i) s.h s.pt).1 := merge_dk (by have := M.hs.nxle; omega) (ancN_lt _ _ hed)
   split at hs
   ·rename_i v h' nx' hr
    cases hk : chkW C h' s.wt (others C i) with
    | false => simp [hk] at hs
    | true =>
     simp only [hk,cond_true,Option.some.injEq] at hs
     subst hs
     have hnx0 : ∀ {σ' : Sg},SubX s.nx σ σ' → SubX C.nx0 σ σ' := fun h => ⟨h.1,fun b hb => h.2 b (by omega)⟩
     split at hr
     ·rename_i r hr'
      simp only [Option.some.injEq] at hr
      rw [hr] at hr'
      obtain ⟨σ',u,w',g1,g2,g3,g4,g5,g6⟩ := aeff_ok (P := C.P) hR (fun _ => rfl) hρ hr'
      have hD : DSim ds C w0 B hb σ' { tm := putA C.n C.d s.tm o.dst v,h := h',nx := nx',pt := (I.merge C.pd C.nx0 (ancN C.ops C.ops.size i) s.h s.pt).2,wt := s.wt } (l.setIfInBounds i true) (a.put o.dst u) w' :=
       ⟨put_ok (S.sl.mono g1.1) g5,S.g.mono g1.1,M.behind g1 g2 g3 g6,fun k hk hl => by rw [g1.2 (C.nx0 + k) (by omega)]; exact hfree k hk hl,(S.dk.trans hmd (Nat.le_refl _)).trans g2 (by omega)⟩
      rcases g4 with g4 | ⟨g4,rfl⟩
      ·exact wpIn_value g4 (hKt σ' _ w' (hnx0 g1) hD)
      ·exact wpIn_skipOp g4 (hKt σ' _ w' (hnx0 g1) hD)
     ·split at hr
      ·rename_i f args hcal
       refine wpIn_callOp hρ hcal (fun vs g1 => hK f args _ _ v h' nx' hr σ w (img σ _) w vs hR S.g g1) ?_
       rintro e w' ⟨σ',v',k1,k2,k3,rfl,k5,k6⟩
       exact ⟨v',rfl,hKt σ' _ w' (hnx0 k1) ⟨put_ok (S.sl.mono k1.1) k5,S.g.mono k1.1,M.behind k1 k2 k3 k6,fun k hk hl => by rw [k1.2 (C.nx0 + k) (by omega)]; exact hfree k hk hl,(S.dk.trans hmd (Nat.le_refl _)).trans k2 (by omega)⟩⟩
      ·cases hr
   ·cases hs
end
end I
end Go.Proofs.YtojefiolcedigaaGreatDoor
namespace Go.Proofs.YtojefiolcedigaaGreatDoor
namespace I
open K (one aggB run_underlying' run_sizeOf' add_none run_v cell_cells)
set_option linter.unusedVariables false
def Good (C : DC) (F : D) : Nat → Array Bool → D → Prop
 | 0,l,s => Region.ready .any C.ops l = [] ∧ s = F
 | f + 1,l,s => (Region.ready .any C.ops l = [] → s = F) ∧ ∀ i ∈ Region.ready .any C.ops l,∃ o s',C.ops[i]? = some o ∧ dstep C s i o = some s' ∧ Good C F f (l.setIfInBounds i true) s'
def Closed (ops : Array Oper) (l : Array Bool) : Prop := ∀ k,l.getD k false = true → ∀ o,ops[k]? = some o → ∀ e ∈ o.after,Region.binds .any e = true → l.getD e.on false = true
def CleanAll (C : DC) (l : Array Bool) (s : D) : Prop := ∀ i,i < C.ops.size → l.getD i true = false → Clean C s i
structure Inf where
 idx : Nat
 dst : Option Nat
 looks : List Nat
 preds : List Nat
 quiet : Bool
def predsOf (o : Oper) : List Nat := (o.after.toList.filter (Region.binds .any)).map (·.on)
def infOf (ops : Array Oper) (i : Nat) (o : Oper) : Inf := ⟨i,o.dst,o.looksAt ops,predsOf o,quietK o⟩
def infsOf (ops : Array Oper) : List Oper → Nat → List Inf
 | [],_ => []
 | o :: l,i => infOf ops i o :: infsOf ops l (i + 1)
def apartI (x y : Inf) : Bool :=
  (match x.dst with
   | some d => !(y.looks.any (Nat.beq d)) && (match y.dst with
     | some e => !(Nat.beq d e)
     | none => true)
   | none => true) &&
  (match y.dst with
   | some d => !(x.looks.any (Nat.beq d))
   | none => true)
def pairI (ops : Array Oper) (x y : Inf) : Bool := Nat.beq x.idx y.idx || (apartI x y || (y.preds.any (Nat.beq x.idx) || (x.preds.any (Nat.beq y.idx) || (ancN ops ops.size x.idx).any (Nat.beq y.idx))))
def readyI (done : List Nat) (x : Inf) : Bool := x.preds.all fun p => done.any (Nat.beq p)
def greedy : Nat → List Nat → List Inf → Option (List Nat)
 | _,_,[] => some []
 | 0,_,_ :: _ => none
 | f + 1,done,x0 :: rest0 => match (x0 :: rest0).find? (fun x => x.quiet && readyI done x) with
  | some x => match greedy f (x.idx :: done) ((x0 :: rest0).filter fun y => !(Nat.beq y.idx x.idx)) with
   | some is => some (x.idx :: is)
   | none => none
  | none => match (x0 :: rest0).filter (readyI done) with
   | [x] => match greedy f (x.idx :: done) ((x0 :: rest0).filter fun y => !(Nat.beq y.idx x.idx)) with
    | some is => some (x.idx :: is)
    | none => none
   | _ => none
def pairsOk (ops : Array Oper) (xs : List Inf) : Bool := xs.all fun x => !x.quiet || xs.all fun y => pairI ops x y
def schedF (ops : Array Oper) : Option (List Nat) := bif pairsOk ops (infsOf ops ops.toList 0) then greedy ops.size [] (infsOf ops ops.toList 0) else none
def runS (C : DC) : List Nat → D → Option D
 | [],s => some s
 | i :: is,s => match C.ops[i]? with
  | some o => match dstep C s i o with
   | some s' => runS C is s'
   | none => none
  | none => none
section
variable {C : DC} {F : D} {l : Array Bool}
theorem getD_true_false {i : Nat} (h : l.getD i true = false) : l.getD i false = false := by
 rcases Nat.lt_or_ge i l.size with hlt | hge
 ·simp [hlt] at h ⊢; exact h
 ·simp [hge] at h
theorem closed_add {i : Nat} (hc : Closed C.ops l) (hr : i ∈ Region.ready .any C.ops l) : Closed C.ops (l.setIfInBounds i true) := by
 intro k hk o ho e he hb
 apply getD_set_true
 by_cases hki : k = i
 ·subst hki
  obtain ⟨_,o',ho',hall⟩ := mem_ready.1 hr
  rw [ho] at ho'; simp only [Option.some.injEq] at ho'; subst ho'
  exact hall e he hb
 ·rw [getD_set_ne false (fun h => hki h.symm)] at hk
  exact hc k hk o ho e he hb
theorem anc_listed (hc : Closed C.ops l) : ∀ (k j : Nat),(∀ o,C.ops[j]? = some o → ∀ e ∈ o.after,Region.binds .any e = true → l.getD e.on false = true) → ∀ x ∈ ancN C.ops k j,l.getD x false = true
 | 0,j,_,x,hx => by simp [ancN] at hx
 | k + 1,j,h,x,hx => by
  unfold ancN at hx
  split at hx
  ·simp at hx
  ·rename_i o ho
   obtain ⟨e,he,hx⟩ := List.mem_flatMap.1 hx
   cases hb : Region.binds .any e with
   | false => simp [hb] at hx
   | true =>
    simp only [hb,cond_true] at hx
    have he' : e ∈ o.after := by simpa using he
    have h1 := h o ho e he' hb
    rcases List.mem_cons.1 hx with rfl | hx
    ·exact h1
    ·exact anc_listed hc k e.on (fun o' ho' e' he'' hb' => hc e.on h1 o' ho' e' he'' hb') x hx
theorem good_first (hn : C.n ≤ 2 ^ C.d) (hpd : C.ops.size ≤ 2 ^ C.pd) {i : Nat} {oi : Oper} (hi : C.ops[i]? = some oi) (hq : quietK oi = true) : ∀ (f : Nat) (l : Array Bool) (s s1 : D),
  (∀ j oj,C.ops[j]? = some oj → j ≠ i → l.getD j true = false → (∀ e ∈ oj.after,Region.binds .any e = true → e.on ≠ i) → oi.apart C.ops oj = true) →
  Closed C.ops l → CleanAll C l s → i ∈ Region.ready .any C.ops l → dstep C s i oi = some s1 → Good C F f (l.setIfInBounds i true) s1 → Good C F (f + 1) l s := by
 have hin : i < C.ops.size := (Array.getElem?_eq_some_iff.1 hi).1
 intro f
 induction f with
 | zero =>
  intro l s s1 _ hc hcl hr h1 H
  refine ⟨fun h => (by rw [h] at hr; cases hr),fun j hj => ?_⟩
  by_cases hji : j = i
  ·subst hji; exact ⟨oi,s1,hi,h1,H⟩
  ·have := ready_mono hj hji
   rw [H.1] at this
   cases this
 | succ f ih =>
  intro l s s1 hfree hc hcl hr h1 H
  refine ⟨fun h => (by rw [h] at hr; cases hr),fun j hj => ?_⟩
  by_cases hji : j = i
  ·subst hji; exact ⟨oi,s1,hi,h1,H⟩
  ·obtain ⟨oj,s2,hoj,h2,H2⟩ := H.2 j (ready_mono hj hji)
   have hjn : j < C.ops.size := (Array.getElem?_eq_some_iff.1 hoj).1
   obtain ⟨hjun,oj',hoj',hall⟩ := mem_ready.1 hj
   rw [hoj] at hoj'; simp only [Option.some.injEq] at hoj'; subst hoj'
   have hiun := (mem_ready.1 hr).1
   have hif := getD_true_false hiun
   have hnot : ∀ e ∈ oj.after,Region.binds .any e = true → e.on ≠ i := fun e he hb heq => by
    have := hall e he hb
    rw [heq,hif] at this; cases this
   have hanc : i ∉ ancN C.ops C.ops.size j := fun hm => by
    have := anc_listed hc C.ops.size j (fun o ho e he hb => by rw [hoj] at ho; simp only [Option.some.injEq] at ho; subst ho; exact hall e he hb) i hm
    rw [hif] at this; cases this
   obtain ⟨s',d1,d2⟩ := diamond hn hi hoj hpd (fun e => hji e.symm) (hcl i hin hiun) hq (hfree j oj hoj hji hjun hnot) hanc h1 h2
   refine ⟨oj,s',hoj,d1,ih (l.setIfInBounds j true) s' s2 ?_ (closed_add hc hj) ?_ (ready_mono hr (Ne.symm hji)) d2 ?_⟩
   ·intro k ok hk hki hun hno
    refine hfree k ok hk hki ?_ hno
    exact (getD_set l j k hun).2
   ·intro k hk hun
    obtain ⟨hkj,hun'⟩ := getD_set l j k hun
    exact dstep_clean (by omega) (by omega) (fun e => hkj e.symm) (hcl k hk hun') d1
   ·rw [Array.setIfInBounds_comm _ _ hji]
    exact H2
theorem infsOf_mem {ops : Array Oper} : ∀ {l : List Oper} {i : Nat} {x : Inf},x ∈ infsOf ops l i → ∃ j o,l[j]? = some o ∧ x = infOf ops (i + j) o
 | [],i,x,h => by simp [infsOf] at h
 | o :: l,i,x,h => by
  rcases List.mem_cons.1 h with rfl | h
  ·exact ⟨0,o,rfl,rfl⟩
  ·obtain ⟨j,o',h1,h2⟩ := infsOf_mem h
   exact ⟨j + 1,o',by simpa using h1,by rw [h2]; congr 1; omega⟩
theorem infsOf_get {ops : Array Oper} : ∀ {l : List Oper} {i j : Nat} {o : Oper},l[j]? = some o → infOf ops (i + j) o ∈ infsOf ops l i
 | [],i,j,o,h => by simp at h
 | o' :: l,i,0,o,h => by
  simp only [List.getElem?_cons_zero,Option.some.injEq] at h
  subst h
  exact List.mem_cons_self ..
 | o' :: l,i,j + 1,o,h => by
  have := infsOf_get (ops := ops) (i := i + 1) (show l[j]? = some o by simpa using h)
  rw [show i + 1 + j = i + (j + 1) by omega] at this
  exact List.mem_cons_of_mem _ this
theorem any_beq {l : List Nat} {d : Nat} : l.any (Nat.beq d) = true ↔ d ∈ l := by
 rw [List.any_eq_true]
 constructor
 ·rintro ⟨x,hx,hb⟩
  have : d = x := Nat.eq_of_beq_eq_true hb
  rw [this]; exact hx
 ·exact fun h => ⟨d,h,Nat.beq_refl d⟩
theorem apartI_ok {ops : Array Oper} {i j : Nat} {x y : Oper} (h : apartI (infOf ops i x) (infOf ops j y) = true) : x.apart ops y = true := by
 have hc : ∀ (l : List Nat) (d : Nat),l.any (Nat.beq d) = l.contains d := fun l d => by
  rw [Bool.eq_iff_iff,any_beq,List.contains_iff_mem]
 unfold apartI at h
 unfold Oper.apart
 simp only [infOf,Bool.and_eq_true] at h ⊢
 obtain ⟨h1,h2⟩ := h
 refine ⟨?_,?_⟩
 ·cases hx : x.dst with
  | none => rfl
  | some d =>
   rw [hx] at h1
   simp only [Bool.and_eq_true] at h1 ⊢
   refine ⟨by rw [← hc]; exact h1.1,?_⟩
   cases hy : y.dst with
   | none => rfl
   | some e =>
    have h3 := h1.2
    rw [hy] at h3
    simp only [Bool.not_eq_true'] at h3
    simp only [bne_iff_ne,ne_eq,Option.some.injEq]
    intro he
    rw [he,Nat.beq_refl] at h3
    cases h3
 ·cases hy : y.dst with
  | none => rfl
  | some d =>
   rw [hy] at h2
   simp only at h2 ⊢
   rw [← hc]; exact h2
theorem mem_preds {o : Oper} {p : Nat} : p ∈ predsOf o ↔ ∃ e ∈ o.after,Region.binds .any e = true ∧ e.on = p := by
 unfold predsOf
 simp only [List.mem_map,List.mem_filter,Array.mem_toList_iff]
 constructor
 ·rintro ⟨e,⟨h1,h2⟩,h3⟩; exact ⟨e,h1,h2,h3⟩
 ·rintro ⟨e,h1,h2,h3⟩; exact ⟨e,⟨h1,h2⟩,h3⟩
structure Inv (C : DC) (l : Array Bool) (done : List Nat) (rest : List Inf) : Prop where
 dn : ∀ k,l.getD k false = true ↔ k ∈ done
 inf : ∀ x ∈ rest,∃ o,C.ops[x.idx]? = some o ∧ x = infOf C.ops x.idx o ∧ l.getD x.idx true = false
 all : ∀ k,l.getD k true = false → ∃ x ∈ rest,x.idx = k
 cl : Closed C.ops l
 size : l.size = C.ops.size
theorem Inv.ready {done : List Nat} {rest : List Inf} (I : Inv C l done rest) {x : Inf} (hx : x ∈ rest) : readyI done x = true ↔ x.idx ∈ Region.ready .any C.ops l := by
 obtain ⟨o,ho,hxo,hun⟩ := I.inf x hx
 have hp : x.preds = predsOf o := by rw [hxo]; rfl
 rw [mem_ready]
 unfold readyI
 rw [List.all_eq_true,hp]
 constructor
 ·intro h
  refine ⟨hun,o,ho,fun e he hb => ?_⟩
  exact (I.dn e.on).2 (any_beq.1 (h e.on (mem_preds.2 ⟨e,he,hb,rfl⟩)))
 ·rintro ⟨_,o',ho',h⟩ p hp
  rw [ho] at ho'; simp only [Option.some.injEq] at ho'; subst ho'
  obtain ⟨e,he,hb,rfl⟩ := mem_preds.1 hp
  exact any_beq.2 ((I.dn e.on).1 (h e he hb))
theorem Inv.step {done : List Nat} {rest : List Inf} (I : Inv C l done rest) {x : Inf} (hx : x ∈ rest) (hr : x.idx ∈ Region.ready .any C.ops l) :
  Inv C (l.setIfInBounds x.idx true) (x.idx :: done) (rest.filter fun y => !(Nat.beq y.idx x.idx)) := by
 obtain ⟨o,ho,hxo,hun⟩ := I.inf x hx
 have hlt : x.idx < l.size := by rw [I.size]; exact (Array.getElem?_eq_some_iff.1 ho).1
 refine ⟨fun k => ?_,fun y hy => ?_,fun k hk => ?_,closed_add I.cl hr,by simp [I.size]⟩
 ·by_cases hki : x.idx = k
  ·subst hki
   simp [hlt]
  ·rw [getD_set_ne false hki,I.dn k]
   simp only [List.mem_cons]
   exact ⟨.inr,fun h => h.resolve_left (fun e => hki e.symm)⟩
 ·obtain ⟨h1,h2⟩ := List.mem_filter.1 hy
  obtain ⟨o',g1,g2,g3⟩ := I.inf y h1
  refine ⟨o',g1,g2,?_⟩
  have hne : x.idx ≠ y.idx := fun e => by rw [e,Nat.beq_refl] at h2; cases h2
  rw [getD_set_ne true hne]; exact g3
 ·obtain ⟨hne,hun'⟩ := getD_set l x.idx k hk
  obtain ⟨y,hy,rfl⟩ := I.all k hun'
  refine ⟨y,List.mem_filter.2 ⟨hy,?_⟩,rfl⟩
  cases hb : Nat.beq y.idx x.idx with
  | false => rfl
  | true => exact absurd (Nat.eq_of_beq_eq_true hb) hne
theorem pair_free {xs : List Inf} (hp : pairsOk C.ops xs = true) {done : List Nat} {rest : List Inf} (I : Inv C l done rest) (hsub : ∀ y ∈ rest,y ∈ xs) {x : Inf} (hx : x ∈ rest) (hq : x.quiet = true) (hr : x.idx ∈ Region.ready .any C.ops l) {oi : Oper} (hi : C.ops[x.idx]? = some oi) :
  ∀ j oj,C.ops[j]? = some oj → j ≠ x.idx → l.getD j true = false → (∀ e ∈ oj.after,Region.binds .any e = true → e.on ≠ x.idx) → oi.apart C.ops oj = true := by
 intro j oj hj hne hun hno
 obtain ⟨y,hy,rfl⟩ := I.all j hun
 obtain ⟨ox,ho,hxo,_⟩ := I.inf x hx
 rw [hi] at ho; simp only [Option.some.injEq] at ho; subst ho
 obtain ⟨oy,hoy,hyo,_⟩ := I.inf y hy
 rw [hj] at hoy; simp only [Option.some.injEq] at hoy; subst hoy
 have h1 := List.all_eq_true.1 hp x (hsub x hx)
 rw [hq] at h1
 simp only [Bool.not_true,Bool.false_or] at h1
 have h2 := List.all_eq_true.1 h1 y (hsub y hy)
 unfold pairI at h2
 simp only [Bool.or_eq_true] at h2
 have hnl : l.getD y.idx false = false := getD_true_false hun
 obtain ⟨_,o',ho',hall⟩ := mem_ready.1 hr
 rw [hi] at ho'; simp only [Option.some.injEq] at ho'; subst ho'
 rcases h2 with h2 | h2 | h2 | h2 | h2
 ·exact absurd (Nat.eq_of_beq_eq_true h2).symm hne
 ·rw [hxo,hyo] at h2; exact apartI_ok h2
 ·have : x.idx ∈ predsOf oj := by
   have := any_beq.1 h2
   rw [hyo] at this; exact this
  obtain ⟨e,he,hb,heq⟩ := mem_preds.1 this
  exact absurd heq (hno e he hb)
 ·have : y.idx ∈ predsOf oi := by
   have := any_beq.1 h2
   rw [hxo] at this; exact this
  obtain ⟨e,he,hb,heq⟩ := mem_preds.1 this
  have := hall e he hb
  rw [heq,hnl] at this; cases this
 ·have := anc_listed I.cl C.ops.size x.idx (fun o ho e he hb => by rw [hi] at ho; simp only [Option.some.injEq] at ho; subst ho; exact hall e he hb) _ (any_beq.1 h2)
  rw [hnl] at this; cases this
theorem greedy_good (hn : C.n ≤ 2 ^ C.d) (hpd : C.ops.size ≤ 2 ^ C.pd) {xs : List Inf} (hp : pairsOk C.ops xs = true) : ∀ (f : Nat) (l : Array Bool) (done : List Nat) (rest : List Inf) (is : List Nat) (s : D),greedy f done rest = some is → Inv C l done rest → (∀ y ∈ rest,y ∈ xs) → CleanAll C l s →
  runS C is s = some F → Good C F f l s := by
 have hnil : ∀ (f : Nat) (l : Array Bool) (done : List Nat) (s : D),Inv C l done [] → s = F → Good C F f l s := by
  intro f l done s I hs
  have hr : Region.ready .any C.ops l = [] := by
   cases h : Region.ready .any C.ops l with
   | nil => rfl
   | cons i r =>
    have hi : i ∈ Region.ready .any C.ops l := by rw [h]; exact List.mem_cons_self ..
    obtain ⟨x,hx,_⟩ := I.all i (mem_ready.1 hi).1
    cases hx
  cases f with
  | zero => exact ⟨hr,hs⟩
  | succ f => exact ⟨fun _ => hs,fun i hi => by rw [hr] at hi; cases hi⟩
 intro f
 induction f with
 | zero =>
  intro l done rest is s hg I hsub hcl hrun
  cases rest with
  | nil =>
   simp only [greedy,Option.some.injEq] at hg
   subst hg
   simp only [runS,Option.some.injEq] at hrun
   exact hnil 0 l done s I hrun
  | cons x r => simp [greedy] at hg
 | succ f ih =>
  intro l done rest is s hg I hsub hcl hrun
  cases rest with
  | nil =>
   simp only [greedy,Option.some.injEq] at hg
   subst hg
   simp only [runS,Option.some.injEq] at hrun
   exact hnil (f + 1) l done s I hrun
  | cons x0 r0 =>
   have step : ∀ (x : Inf) (is' : List Nat),x ∈ x0 :: r0 → x.idx ∈ Region.ready .any C.ops l → greedy f (x.idx :: done) ((x0 :: r0).filter fun y => !(Nat.beq y.idx x.idx)) = some is' → is = x.idx :: is' →
     ∃ o s',C.ops[x.idx]? = some o ∧ dstep C s x.idx o = some s' ∧ Good C F f (l.setIfInBounds x.idx true) s' := by
    intro x is' hx hr hg' his
    subst his
    unfold runS at hrun
    split at hrun
    ·rename_i o ho
     split at hrun
     ·rename_i s' hs
      have hin : x.idx < C.ops.size := (Array.getElem?_eq_some_iff.1 ho).1
      refine ⟨o,s',ho,hs,ih _ _ _ _ s' hg' (I.step hx hr) (fun y hy => hsub y (List.mem_filter.1 hy).1) (fun k hk hun => ?_) hrun⟩
      obtain ⟨hki,hun'⟩ := getD_set l x.idx k hun
      exact dstep_clean (by omega) (by omega) (fun e => hki e.symm) (hcl k hk hun') hs
     ·cases hrun
    ·cases hrun
   unfold greedy at hg
   split at hg
   ·rename_i x hfx
    have hx := List.mem_of_find?_eq_some hfx
    have hb := List.find?_some hfx
    simp only [Bool.and_eq_true] at hb
    have hr := (I.ready hx).1 hb.2
    split at hg
    ·rename_i is' hg'
     simp only [Option.some.injEq] at hg
     obtain ⟨o,s',ho,hs,G'⟩ := step x is' hx hr hg' hg.symm
     obtain ⟨o2,ho2,hxo,_⟩ := I.inf x hx
     rw [ho] at ho2; simp only [Option.some.injEq] at ho2; subst ho2
     have hq : quietK o = true := by have := hb.1; rw [hxo] at this; exact this
     exact good_first hn hpd ho hq f l s s' (pair_free hp I hsub hx hb.1 hr ho) I.cl hcl hr hs G'
    ·cases hg
   ·split at hg
    ·rename_i x hfl
     have hxm : x ∈ (x0 :: r0).filter (readyI done) := by rw [hfl]; exact List.mem_cons_self ..
     obtain ⟨hx,hb⟩ := List.mem_filter.1 hxm
     have hr := (I.ready hx).1 hb
     split at hg
     ·rename_i is' hg'
      simp only [Option.some.injEq] at hg
      obtain ⟨o,s',ho,hs,G'⟩ := step x is' hx hr hg' hg.symm
      refine ⟨fun h0 => (by rw [h0] at hr; cases hr),fun j hj => ?_⟩
      obtain ⟨y,hy,rfl⟩ := I.all j (mem_ready.1 hj).1
      have hym : y ∈ (x0 :: r0).filter (readyI done) := List.mem_filter.2 ⟨hy,(I.ready hy).2 hj⟩
      rw [hfl] at hym
      simp only [List.mem_cons,List.not_mem_nil,or_false] at hym
      subst hym
      exact ⟨o,s',ho,hs,G'⟩
     ·cases hg
    ·cases hg
theorem sched_good (hn : C.n ≤ 2 ^ C.d) (hpd : C.ops.size ≤ 2 ^ C.pd) {is : List Nat} {s : D} (hs : schedF C.ops = some is) (hcl : CleanAll C (Array.replicate C.ops.size false) s) (hrun : runS C is s = some F) : Good C F C.ops.size (Array.replicate C.ops.size false) s := by
 unfold schedF at hs
 cases hb : pairsOk C.ops (infsOf C.ops C.ops.toList 0) with
 | false => simp [hb] at hs
 | true =>
  simp only [hb,cond_true] at hs
  refine greedy_good hn hpd hb _ _ _ _ _ _ hs ⟨fun k => ?_,fun x hx => ?_,fun k hk => ?_,fun k hk => ?_,by simp⟩ (fun y hy => hy) hcl hrun
  ·by_cases hlt : k < C.ops.size <;> simp [hlt]
  ·obtain ⟨j,o,h1,h2⟩ := infsOf_mem hx
   have hlt : j < C.ops.size := by have := (List.getElem?_eq_some_iff.1 h1).1; simpa using this
   subst h2
   refine ⟨o,by simpa [infOf] using h1,rfl,by simp [infOf,hlt]⟩
  ·by_cases hlt : k < C.ops.size
   ·have h1 : C.ops.toList[k]? = some C.ops[k] := by simp [hlt]
    refine ⟨_,infsOf_get (i := 0) h1,by simp [infOf]⟩
   ·simp [hlt] at hk
  ·by_cases hlt : k < C.ops.size
   ·simp [hlt] at hk
   ·simp [hlt] at hk
variable {ds : List Deferred} {ro : Option Nat} {w0 : World} {B : Fr} {hb : AV} {Q : Exit → Act → World → Prop}
theorem good_wp (hK : KOk C) (hpd : C.ops.size ≤ 2 ^ C.pd) (hed : ∀ (j : Nat) o,C.ops[j]? = some o → ∀ e ∈ o.after,e.on < C.ops.size) : ∀ (f : Nat) (l : Array Bool) (s : D) (σ : Sg) (a : Act) (w : World),Good C F f l s → DSim ds C w0 B hb σ s l a w →
  (∀ σ' l' a' w',SubX C.nx0 σ σ' → DSim ds C w0 B hb σ' F l' a' w' → Q .normal a' w') → wpAnyIn (fen ro) 0 C.P .any C.ops Q f l a w
 | 0,l,s,σ,a,w,hg,S,hQ => ⟨hg.1,hQ σ l a w (SubX.refl _ σ) (hg.2 ▸ S)⟩
 | f + 1,l,s,σ,a,w,hg,S,hQ => by
  refine ⟨fun h0 => hQ σ l a w (SubX.refl _ σ) (hg.1 h0 ▸ S),fun i hi => ?_⟩
  obtain ⟨o,s',ho,hs,hg'⟩ := hg.2 i hi
  refine dstep_ok hK hpd hed S ho (mem_ready.1 hi).1 hs (fun σ' a' w' hx S' => ?_)
  exact good_wp hK hpd hed f _ s' σ' a' w' hg' S' (fun σ'' l' a'' w'' hx' S'' => hQ σ'' l' a'' w'' (hx.trans hx' (Nat.le_refl _)) S'')
end
end I
end Go.Proofs.YtojefiolcedigaaGreatDoor
namespace Go.Proofs.YtojefiolcedigaaGreatDoor
namespace I
open K (one aggB run_underlying' run_sizeOf' add_none run_v cell_cells run_callFunc)
set_option linter.unusedVariables false
abbrev St := AV × AV × Nat
inductive Ex where
 | normal
 | exit (id : Nat)
 | ret
def Ex.to : Ex → Exit
 | .normal => .normal
 | .exit id => .exit id
 | .ret => .ret
def opsA (P : Program) (G n d : Nat) (K : KF) (ops : Array Oper) : List Oper → AV → AV → Nat → Option St
 | [],tm,h,nx => some (tm,h,nx)
 | o :: l,tm,h,nx => match wantA n d ops tm o with
  | none => none
  | some false => opsA P G n d K ops l (putA n d tm o.dst .undef) h nx
  | some true => match astep P (opndA G n d tm) h nx o with
   | some (.val v h' nx') => opsA P G n d K ops l (putA n d tm o.dst v) h' nx'
   | some (.call f args) => match K f args h nx with
    | some (v,h',nx') => opsA P G n d K ops l (putA n d tm o.dst v) h' nx'
    | none => none
   | none => none
def edgesOk (ops : Array Oper) : Bool := ops.all fun o => o.after.all fun e => Nat.blt e.on ops.size
def regA (P : Program) (G n d : Nat) (K : KF) (ops : Array Oper) (tm h : AV) (nx : Nat) : Option St :=
 bif P.follows .mixedOrders && (edgesOk ops && Nat.ble (nx + ops.size) (2 ^ HD)) then
  match schedF ops with
  | some is => match runS ⟨P,G,n,d,K,ops,nx,lg ops.size⟩ is ⟨tm,h,nx + ops.size,unid (lg ops.size) .undef,unid (lg ops.size) .undef⟩ with
   | some s => some (s.tm,(merge (lg ops.size) nx (List.range ops.size) s.h s.pt).1,s.nx)
   | none => none
  | none => none
 else none
abbrev SD := List Nat × St
def loopI (f : SD → Option (Ex × SD)) : Nat → SD → Option (Ex × SD)
 | 0,_ => none
 | k + 1,st => match f st with
  | some (.normal,st') => loopI f k st'
  | r => r
def enterA (n rd : Nat) (ps : List Nat) (assign body : Code) (tm h : AV) (nx : Nat) : Option (Nat × List Nat × AV × Nat) :=
 match rd with
 | 0 => bif Nat.blt (nx + 1) (2 ^ HD) then some (nx + 1,[nx],cput HD (cput HD h nx .df) (nx + 1) (.lp n ps assign body tm 0 0 nx),nx + 2) else none
 | b + 1 => match cget HD h b with
  | .lp _ _ _ _ _ _ _ db => bif Nat.blt nx (2 ^ HD) then some (nx,[],cput HD h nx (.lp n ps assign body tm 0 0 db),nx + 1) else none
  | _ => none
def exOf : Nat → Ex
 | 0 => .normal
 | 1 => .ret
 | id + 2 => .exit id
def execC (P : Program) (G n d : Nat) (K : KF) (N rd : Nat) : Code → SD → Option (Ex × SD)
 | .skip,st => some (.normal,st)
 | .label _,st => some (.normal,st)
 | .region _ ops draw,st => bif draw then
   match regA P G n d K ops st.2.1 st.2.2.1 st.2.2.2 with
   | some st' => some (.normal,st.1,st')
   | none => none
  else match opsA P G n d K ops ops.toList st.2.1 st.2.2.1 st.2.2.2 with
   | some st' => some (.normal,st.1,st')
   | none => none
 | .seq a b,st => match execC P G n d K N rd a st with
  | some (.normal,st') => execC P G n d K N rd b st'
  | r => r
 | .cond c a b,st => match opndA G n d st.2.1 c with
  | .bool true => execC P G n d K N rd a st
  | .bool false => execC P G n d K N rd b st
  | _ => none
 | .block id b,st => match execC P G n d K N rd b st with
  | some (.exit j,st') => bif Nat.beq j id then some (.normal,st') else some (.exit j,st')
  | r => r
 | .loop b,st => loopI (fun s => execC P G n d K N rd b s) N st
 | .exit id,st => some (.exit id,st)
 | .ret,st => some (.ret,st)
 | .rangeFunc g ps assign body,st => match opndA G n d st.2.1 g with
  | .fn f first caps => match enterA n rd ps.toList assign body st.2.1 st.2.2.1 st.2.2.2 with
   | some (b,dl,h1,nx1) => match K (2 * f) (toList first ++ (.yld b :: toList caps)) h1 nx1 with
    | some (_,h2,nx2) => match cget HD h2 b with
     | .lp _ _ _ _ _ st' pend _ => bif Nat.beq st' 1 then none else some (exOf pend,dl ++ st.1,st.2.1,cput HD h2 b .dead,nx2)
     | _ => none
    | none => none
   | none => none
  | _ => none
 | _,_ => none
section
variable {P : Program} {ds : List Deferred} {ro : Option Nat} {G n d N rd : Nat} {K : KF} {w0 : World} {B : Fr}
def KOk' (P : Program) (G : Nat) (K : KF) : Prop := ∀ f args h nx v h' nx',K f args h nx = some (v,h',nx') → CallOk P G f args h nx v h' nx'
structure Sim (ds : List Deferred) (n d G : Nat) (w0 : World) (B : Fr) (σ : Sg) (st : St) (a : Act) (w : World) : Prop where
 sl : SlotRel ds σ n d st.1 a
 g : GRel σ G
 hs : HS σ st.2.1 st.2.2 w0 B w
def Then (σ : Sg) (st st' : St) (σ' : Sg) : Prop := SubX st.2.2 σ σ' ∧ Dk st.2.2 st.2.1 st'.2.1 ∧ st.2.2 ≤ st'.2.2
theorem Then.refl (σ : Sg) (st : St) : Then σ st st σ := ⟨SubX.refl _ _,Dk.refl _ _,Nat.le_refl _⟩
theorem Then.trans {σ σ1 σ2 : Sg} {s s1 s2 : St} (a : Then σ s s1 σ1) (b : Then σ1 s1 s2 σ2) : Then σ s s2 σ2 := ⟨a.1.trans b.1 a.2.2,a.2.1.trans b.2.1 a.2.2,Nat.le_trans a.2.2 b.2.2⟩
theorem opsA_ok (hK : KOk' P G K) {ops : Array Oper} {Q : Exit → Act → World → Prop} : ∀ (l : List Oper) (tm h : AV) (nx : Nat) (st' : St) (σ : Sg) (a : Act) (w : World),opsA P G n d K ops l tm h nx = some st' → Sim ds n d G w0 B σ (tm,h,nx) a w →
  (∀ σ' a' w',Then σ (tm,h,nx) st' σ' → Sim ds n d G w0 B σ' st' a' w' → Q .normal a' w') → wpListIn (fen ro) 0 P ops Q l a w
 | [],tm,h,nx,st',σ,a,w,hh,S,hQ => by
  simp only [opsA,Option.some.injEq] at hh
  subst hh
  exact hQ σ a w (Then.refl _ _) S
 | o :: l,tm,h,nx,st',σ,a,w,hh,S,hQ => by
  unfold opsA at hh
  unfold wpListIn
  split at hh
  ·cases hh
  ·rename_i hw
   rw [wantA_ok S.sl hw]
   simp only [Bool.false_eq_true,if_false]
   exact ⟨fun _ _ => trivial,opsA_ok hK l _ h nx st' σ _ w hh ⟨put_ok S.sl .undef,S.g,S.hs⟩ (fun σ' a' w' ht S' => hQ σ' a' w' ht S')⟩
  ·rename_i hw
   rw [wantA_ok S.sl hw]
   simp only [if_true]
   have hρ := opnd_ok S.sl S.g
   split at hh
   ·rename_i v h' nx' hs
    obtain ⟨σ1,u,w1,g1,g2,g3,g4,g5,g6⟩ := astep_ok S.hs (fun _ => rfl) hρ hs
    have S1 : Sim ds n d G w0 B σ1 (putA n d tm o.dst v,h',nx') (a.put o.dst u) w1 := ⟨put_ok (S.sl.mono g1.1) g5,S.g.mono g1.1,g6⟩
    have T1 : Then σ (tm,h,nx) (putA n d tm o.dst v,h',nx') σ1 := ⟨g1,g2,g3⟩
    have := opsA_ok hK l _ h' nx' st' σ1 _ w1 hh S1 (fun σ' a' w' ht S' => hQ σ' a' w' (T1.trans ht) S')
    rcases g4 with g4 | ⟨g4,rfl⟩
    ·exact wpIn_value g4 this
    ·exact wpIn_skipOp g4 this
   ·rename_i f args hs
    split at hh
    ·rename_i v h' nx' hk
     refine wpIn_callOp hρ (astep_call hs) (fun vs g1 => hK f args h nx v h' nx' hk σ w0 B w vs S.hs S.g g1) ?_
     rintro e w1 ⟨σ1,u,k1,k2,k3,rfl,k5,k6⟩
     have S1 : Sim ds n d G w0 B σ1 (putA n d tm o.dst v,h',nx') (a.put o.dst u) w1 := ⟨put_ok (S.sl.mono k1.1) k5,S.g.mono k1.1,k6⟩
     have T1 : Then σ (tm,h,nx) (putA n d tm o.dst v,h',nx') σ1 := ⟨k1,k2,k3⟩
     exact ⟨u,rfl,opsA_ok hK l _ h' nx' st' σ1 _ w1 hh S1 (fun σ' a' w' ht S' => hQ σ' a' w' (T1.trans ht) S')⟩
    ·cases hh
   ·cases hh
theorem regA_ok (hK : KOk' P G K) (hn : n ≤ 2 ^ d) {id : Nat} {ops : Array Oper} {Q : Exit → Act → World → Prop} {tm h : AV} {nx : Nat} {st' : St} {σ : Sg} {a : Act} {w : World} (hh : regA P G n d K ops tm h nx = some st') (S : Sim ds n d G w0 B σ (tm,h,nx) a w)
  (hQ : ∀ σ' a' w',Then σ (tm,h,nx) st' σ' → Sim ds n d G w0 B σ' st' a' w' → Q .normal a' w') : (Code.region id ops true).wpIn (fen ro) 0 P Q a w := by
 unfold regA at hh
 cases hb : (P.follows .mixedOrders && (edgesOk ops && Nat.ble (nx + ops.size) (2 ^ HD))) with
 | false => simp [hb] at hh
 | true =>
  simp only [hb,cond_true] at hh
  simp only [Bool.and_eq_true] at hb
  obtain ⟨hm,hed,hle⟩ := hb
  have hle := ble_iff.1 hle
  split at hh
  ·rename_i is his
   split at hh
   case h_2 => cases hh
   rename_i F hF
   simp only [Option.some.injEq] at hh
   subst hh
   let C : DC := ⟨P,G,n,d,K,ops,nx,lg ops.size⟩
   have hpd : C.ops.size ≤ 2 ^ C.pd := lg_le _
   have hedge : ∀ (j : Nat) o,C.ops[j]? = some o → ∀ e ∈ o.after,e.on < C.ops.size := fun j o ho e he => by
    have h1 := Array.all_eq_true_iff_forall_mem.1 hed o (Array.mem_of_getElem? ho)
    exact blt_iff.1 (Array.all_eq_true_iff_forall_mem.1 h1 e he)
   have hclean : CleanAll C (Array.replicate ops.size false) ⟨tm,h,nx + ops.size,unid (lg ops.size) .undef,unid (lg ops.size) .undef⟩ := fun k hk _ => ⟨cget_unid _ _ _,cget_unid _ _ _⟩
   have hgood := sched_good (C := C) (F := F) hn hpd his hclean hF
   have hH := (S.hs.skip (Nat.le_add_right nx ops.size) hle).drew
   have S0 : DSim ds C w0 B h σ ⟨tm,h,nx + ops.size,unid (lg ops.size) .undef,unid (lg ops.size) .undef⟩ (Array.replicate ops.size false) a { w with drawn := w.drawn + 1 } := by
    refine ⟨S.sl,S.g,⟨hH,Nat.le_refl _,fun k hk hl => ?_,fun k k' p p' hk hk' hne hl => ?_⟩,fun k hk _ => ?_,Dk.refl _ _⟩
    ·rw [cget_unid] at hl; simp [live] at hl
    ·rw [cget_unid] at hl; simp [live] at hl
    ·cases hx : σ (nx + k) with
     | none => rfl
     | some p => have := S.hs.dom _ p hx; simp only at this; omega
   refine wpIn_region_any hm (good_wp (C := C) (F := F) hK hpd hedge ops.size _ _ σ a _ hgood S0 ?_)
   intro σ' l' a' w' hx SF
   have M := SF.m.merge hpd (l := List.range ops.size) (fun j hj => List.mem_range.1 hj)
   refine hQ σ' a' w' ⟨⟨hx.1,fun b hb => hx.2 b hb⟩,?_,?_⟩ ⟨SF.sl,SF.g,M.hs⟩
   ·exact SF.dk.trans (merge_dk hle (fun j hj => List.mem_range.1 hj)) (Nat.le_refl _)
   ·have := SF.m.nx
    show nx ≤ F.nx
    have h2 : nx + ops.size ≤ F.nx := this
    omega
  ·cases hh
def MarksRel (σ : Sg) (dl : List Nat) (ds : List Deferred) : Prop := dl.length = ds.length ∧ ∀ (i : Nat) b x,dl[i]? = some b → ds[i]? = some x → ∃ r base size,σ b = some (r,base,size) ∧ x = { target := .collected r,args := #[] }
theorem MarksRel.mono {σ σ' : Sg} {dl : List Nat} {ds : List Deferred} (h : MarksRel σ dl ds) (hs : Sub σ σ') : MarksRel σ' dl ds := ⟨h.1,fun i b x hb hx => by
 obtain ⟨r,base,size,h1,h2⟩ := h.2 i b x hb hx
 exact ⟨r,base,size,hs _ _ h1,h2⟩⟩
theorem MarksRel.nil (σ : Sg) : MarksRel σ [] [] := ⟨rfl,fun i b x hb => by simp at hb⟩
theorem MarksRel.app {σ : Sg} {dl dl' : List Nat} {ds ds' : List Deferred} (h : MarksRel σ dl ds) (h' : MarksRel σ dl' ds') : MarksRel σ (dl ++ dl') (ds ++ ds') := by
 refine ⟨by simp [h.1,h'.1],fun i b x hb hx => ?_⟩
 by_cases hi : i < dl.length
 ·rw [List.getElem?_append_left hi] at hb
  rw [List.getElem?_append_left (by rw [← h.1]; exact hi)] at hx
  exact h.2 i b x hb hx
 ·rw [List.getElem?_append_right (by omega)] at hb
  rw [List.getElem?_append_right (by rw [← h.1]; omega),← h.1] at hx
  exact h'.2 _ b x hb hx
def RoRel (σ : Sg) : Nat → Option Nat → Prop
 | 0,ro => ro = none
 | b + 1,ro => ∃ l base size,σ b = some (l,base,size) ∧ ro = some l
theorem RoRel.mono {σ σ' : Sg} {rd : Nat} {ro : Option Nat} (h : RoRel σ rd ro) (hs : Sub σ σ') : RoRel σ' rd ro := by
 cases rd with
 | zero => exact h
 | succ b => obtain ⟨l,base,size,h1,h2⟩ := h; exact ⟨l,base,size,hs _ _ h1,h2⟩
structure SimD (rd : Nat) (ro : Option Nat) (n d G : Nat) (w0 : World) (B : Fr) (σ : Sg) (st : SD) (a : Act) (w : World) : Prop where
 ro : RoRel σ rd ro
 sm : ∃ ds,MarksRel σ st.1 ds ∧ Sim ds n d G w0 B σ st.2 a w
def Post (rd : Nat) (ro : Option Nat) (n d G : Nat) (w0 : World) (B : Fr) (σ : Sg) (st : SD) (e : Ex) (st' : SD) : Exit → Act → World → Prop :=
 fun e' a' w' => e' = e.to ∧ ∃ σ',Then σ st.2 st'.2 σ' ∧ SimD rd ro n d G w0 B σ' st' a' w'
theorem loopI_ok {b : Code} {f : SD → Option (Ex × SD)} (hb : ∀ st e st' σ a w,f st = some (e,st') → SimD rd ro n d G w0 B σ st a w → b.wpIn (fen ro) 0 P (Post rd ro n d G w0 B σ st e st') a w) :
  ∀ (k : Nat) (st : SD) (e : Ex) (st' : SD) (σ : Sg) (a : Act) (w : World),loopI f k st = some (e,st') → SimD rd ro n d G w0 B σ st a w → (Code.loop b).wpIn (fen ro) 0 P (Post rd ro n d G w0 B σ st e st') a w := by
 intro k st e st' σ a w hh S
 refine wpIn_loop_ghost (fun m a1 w1 => ∃ st1 σ1,loopI f m st1 = some (e,st') ∧ Then σ st.2 st1.2 σ1 ∧ SimD rd ro n d G w0 B σ1 st1 a1 w1) k ⟨st,σ,hh,Then.refl _ _,S⟩ ?_
 rintro m a1 w1 ⟨st1,σ1,h1,T1,S1⟩
 cases m with
 | zero => simp [loopI] at h1
 | succ m =>
  unfold loopI at h1
  split at h1
  ·rename_i st2 h2
   refine wpIn_mono (hb st1 .normal st2 σ1 a1 w1 h2 S1) ?_
   rintro e2 a2 w2 ⟨rfl,σ2,T2,S2⟩
   exact ⟨m,Nat.lt_succ_self m,st2,σ2,h1,T1.trans T2,S2⟩
  ·rename_i r hne
   refine wpIn_mono (hb st1 e st' σ1 a1 w1 h1 S1) ?_
   rintro e2 a2 w2 ⟨rfl,σ2,T2,S2⟩
   have hnn : e.to ≠ .normal := by
    cases e with
    | normal => exact absurd h1 (hne st')
    | exit id => simp [Ex.to]
    | ret => simp [Ex.to]
   cases e with
   | normal => exact absurd rfl hnn
   | exit id => exact ⟨rfl,σ2,T1.trans T2,S2⟩
   | ret => exact ⟨rfl,σ2,T1.trans T2,S2⟩
theorem tmps_rel {a : Act} {σ : Sg} {tm : AV} (hd : d = lg n) (S : SlotRel ds σ n d tm a) : ∀ t,t < n → Rel σ (cget (lg n) tm t) (a.tmps.getD t Go.undef) := fun t ht => hd ▸ S.sl t ht
theorem HS.lp {σ : Sg} {h : AV} {nx : Nat} {w : World} (H : HS σ h nx w0 B w) {b r base size m : Nat} {ps : List Nat} {assign body : Code} {tm : AV} {st pend db : Nat} (hb : σ b = some (r,base,size)) (hc : cget HD h b = .lp m ps assign body tm st pend db) :
  ∃ rc dr dbase dsize,w.heap[r]? = some (.loop rc) ∧ σ db = some (dr,dbase,dsize) ∧ (rc.state = stOf st ∧ rc.pending = pendOf pend ∧ rc.params = ps.toArray ∧ rc.assign = assign ∧ rc.body = body ∧ rc.defers = dr ∧ rc.tmps.size = m) ∧
   (∀ t,t < m → Rel σ (cget (lg m) tm t) (rc.tmps.getD t Go.undef)) ∧ (B.wr r ∨ w0.heap.size ≤ r) := by
 have := H.blk b (H.lt hb)
 rw [hc] at this
 obtain ⟨r',base',size',rc,dr,dbase,dsize,h1,h2,h3,h4,h5,h6⟩ := this
 rw [hb] at h1
 simp only [Option.some.injEq,Prod.mk.injEq] at h1
 obtain ⟨rfl,rfl,rfl⟩ := h1
 exact ⟨rc,dr,dbase,dsize,h2,h3,h4,h5,h6⟩
theorem enterA_ok {σ : Sg} {tm h : AV} {nx : Nat} {a : Act} {w : World} {ps : Array Nat} {assign body : Code} {b : Nat} {dl : List Nat} {h1 : AV} {nx1 : Nat} (hd : d = lg n) (hro : RoRel σ rd ro) (S : Sim ds n d G w0 B σ (tm,h,nx) a w)
  (he : enterA n rd ps.toList assign body tm h nx = some (b,dl,h1,nx1)) (fn : FuncId) :
  ∃ σ1 l base size mark w1,(Instr.enterLoop fn a.tmps ps assign body ro).run P w = .ok (l,mark) w1 ∧ σ1 b = some (l,base,size) ∧ MarksRel σ1 dl mark ∧ Then σ (tm,h,nx) (tm,h1,nx1) σ1 ∧ HS σ1 h1 nx1 w0 B w1 := by
 unfold enterA at he
 have H : HS σ h nx w0 B w := S.hs
 split at he
 ·cases hb : Nat.blt (nx + 1) (2 ^ HD) with
  | false => simp [hb] at he
  | true =>
   simp only [hb,cond_true,Option.some.injEq,Prod.mk.injEq] at he
   obtain ⟨rfl,rfl,rfl,rfl⟩ := he
   have hlt := blt_iff.1 hb
   have hro' : ro = none := hro
   subst hro'
   have H1 : HS (ext σ nx (w.heap.size,0,0)) (cput HD h nx .df) (nx + 1) w0 B (w.alloc (.deferred (some []))) :=
    H.new (by omega) (p := (w.heap.size,0,0)) rfl rfl rfl rfl rfl ⟨w.heap.size,0,0,by simp [ext],K.get_alloc w _,.inr H.size⟩
   have hs1 : Sub σ (ext σ nx (w.heap.size,0,0)) := H.sub_ext _
   have hr1 := tmps_rel hd (S.sl.mono hs1)
   have hs2 := H1.sub_ext ((w.alloc (.deferred (some []))).heap.size,0,0)
   let rc : Loop := { state := .ready,pending := none,fn,tmps := a.tmps,params := ps,assign,body,defers := w.heap.size }
   have H2 : HS _ (cput HD (cput HD h nx .df) (nx + 1) (.lp n ps.toList assign body tm 0 0 nx)) (nx + 2) w0 B ((w.alloc (.deferred (some []))).alloc (.loop rc)) :=
    H1.new (by omega) (p := ((w.alloc (.deferred (some []))).heap.size,0,0)) rfl rfl rfl rfl rfl
     ⟨_,0,0,rc,w.heap.size,0,0,by simp [ext],K.get_alloc _ _,hs2 _ _ (by simp [ext]),⟨rfl,rfl,by simp [rc],rfl,rfl,rfl,S.sl.size⟩,fun t ht => (hr1 t ht).mono hs2,.inr H1.size⟩
   refine ⟨_,(w.alloc (.deferred (some []))).heap.size,0,0,[{ target := .collected w.heap.size,args := #[] }],_,?_,by simp [ext],⟨rfl,fun i c x hc hx => ?_⟩,⟨⟨fun c q hc => hs2 _ _ (hs1 _ _ hc),fun c hc => ?_⟩,fun c hc hlc => ?_,by simp⟩,H2⟩
   ·simp [Instr.enterLoop,newObj,Sem.run,rc]
   ·cases i with
    | zero =>
     simp only [List.getElem?_cons_zero,Option.some.injEq] at hc hx
     subst hc; subst hx
     exact ⟨w.heap.size,0,0,hs2 _ _ (by simp [ext]),rfl⟩
    | succ i => simp at hc
   ·simp only at hc
    unfold ext
    rw [if_neg (by omega),if_neg (by omega)]
   ·simp only at hc hlc ⊢
    rw [cget_cput HD _ (nx + 1) c _ hlt (by omega),if_neg (by omega),cget_cput HD h nx c _ (by omega) (by omega),if_neg (by omega)] at hlc
    exact hlc
 ·rename_i b0
  split at he
  ·rename_i m0 ps0 as0 bo0 tm0 st0 pe0 db hlp
   cases hb : Nat.blt nx (2 ^ HD) with
   | false => simp [hb] at he
   | true =>
    simp only [hb,cond_true,Option.some.injEq,Prod.mk.injEq] at he
    obtain ⟨rfl,rfl,rfl,rfl⟩ := he
    have hlt := blt_iff.1 hb
    obtain ⟨l0,lbase,lsize,hl0,rfl⟩ := hro
    obtain ⟨rc0,dr,dbase,dsize,q1,q2,⟨_,_,_,_,_,q3,_⟩,_,_⟩ := H.lp hl0 hlp
    let rc : Loop := { state := .ready,pending := none,fn,tmps := a.tmps,params := ps,assign,body,defers := dr }
    have hs1 : Sub σ (ext σ nx (w.heap.size,0,0)) := H.sub_ext _
    have hr1 := tmps_rel hd (S.sl.mono hs1)
    have H1 : HS (ext σ nx (w.heap.size,0,0)) (cput HD h nx (.lp n ps.toList assign body tm 0 0 db)) (nx + 1) w0 B (w.alloc (.loop rc)) :=
     H.new hlt (p := (w.heap.size,0,0)) rfl rfl rfl rfl rfl ⟨w.heap.size,0,0,rc,dr,dbase,dsize,by simp [ext],K.get_alloc w _,hs1 _ _ q2,⟨rfl,rfl,by simp [rc],rfl,rfl,rfl,S.sl.size⟩,hr1,.inr H.size⟩
    refine ⟨_,w.heap.size,0,0,[],_,?_,by simp [ext],MarksRel.nil _,⟨H.subX _,fun c hc hlc => ?_,Nat.le_succ _⟩,H1⟩
    ·have hgo : (getObj l0).run P w = .ok (.loop rc0) w := by simp [getObj,Sem.run,q1]
     simp only [Instr.enterLoop,Instr.getLoop,Sem.run_bind,hgo,Result.andThen_ok,Sem.run_pure]
     simp [newObj,Sem.run,rc,q3]
    ·simp only at hc hlc ⊢
     rw [cget_cput HD h nx c _ hlt (by omega),if_neg (by omega)] at hlc
     exact hlc
  ·cases he
theorem Then.sub {σ σ' : Sg} {st st' : St} (h : Then σ st st' σ') : Sub σ σ' := h.1.1
theorem range_args {σ : Sg} {f b l base size : Nat} {first caps : AV} {gv : Value} (hg : Rel σ (.fn f first caps) gv) (hb : σ b = some (l,base,size)) :
  ∃ ys zs : Array Value,gv = .func (.func f) ys zs ∧ RelL σ (toList first ++ (.yld b :: toList caps)) (ys.toList ++ (.func (.yield l) #[] #[] :: zs.toList)) := by
 cases hg with
 | fn _ _ _ ys zs q1 q2 q3 q4 =>
 refine ⟨ys,zs,rfl,RelL.app ⟨by simpa using q1,fun i a v ha hv => q3 i a v ha (by simpa using hv)⟩ ⟨by simpa using q2,fun i a v ha hv => ?_⟩⟩
 cases i with
 | zero =>
  simp only [List.getElem?_cons_zero,Option.some.injEq] at ha hv
  subst ha; subst hv; exact .yld b l base size hb
 | succ i =>
  simp only [List.getElem?_cons_succ] at ha hv
  exact q4 i a v ha (by simpa using hv)
theorem range_resolve {a : Act} {g : Operand} {f l : Nat} {ys zs : Array Value} {w : World} (hg : a.eval g = .func (.func f) ys zs) :
  (resolve a.eval (rangeCall g l) 0).run P w = .ok { target := .fn (.func f) zs,args := ys ++ #[Value.func (.yield l) #[] #[]] } w := by
 show Sem.run P (Deferred.ofValue (a.eval g) _) w = _
 rw [hg]
 simp [Deferred.ofValue,Act.eval]
theorem end_loop {l : Nat} {w : World} {rc : Loop} (g1 : w.heap[l]? = some (.loop rc)) (hb : (rc.state == LoopState.busy) = false) :
  (Instr.endLoop l).run P w = .ok rc.pending { w with heap := w.heap.setIfInBounds l (.loop { rc with state := .exhausted }) } := by
 have hgo : (getObj l).run P w = .ok (.loop rc) w := by simp [getObj,Sem.run,g1]
 have hso : ∀ o,(setObj l o).run P w = .ok () { w with heap := w.heap.setIfInBounds l o } := fun o => by simp [setObj,Sem.run,g1]
 simp only [Instr.endLoop,Instr.getLoop,Sem.run_bind,hgo,Result.andThen_ok,Sem.run_pure,hb,Bool.false_eq_true,if_false,hso]
theorem not_busy {st : Nat} (hb : Nat.beq st 1 = false) : (stOf st == LoopState.busy) = false := by
 match st,hb with
 | 0,_ => rfl
 | 2,_ => rfl
 | k + 3,_ => rfl
set_option maxHeartbeats 1000000 in
theorem rangeFunc_ok (hK : KOk' P G K) (hd : d = lg n) {g : Operand} {ps : Array Nat} {assign body : Code} {st : SD} {e : Ex} {st' : SD} {σ : Sg} {a : Act} {w : World}
  (hh : execC P G n d K N rd (.rangeFunc g ps assign body) st = some (e,st')) (S : SimD rd ro n d G w0 B σ st a w) : (Code.rangeFunc g ps assign body).wpIn (fen ro) 0 P (Post rd ro n d G w0 B σ st e st') a w := by
 obtain ⟨dl0,tm,h,nx⟩ := st
 obtain ⟨hro,ds,hM,S⟩ := S
 simp only [execC] at hh
 split at hh
 ·rename_i f first caps hg
  split at hh
  ·rename_i b dl h1 nx1 he
   split at hh
   ·rename_i v h2' nx2 hk
    split at hh
    ·rename_i m ps' as' bo' tm' st2 pend db hlp
     cases hb : Nat.beq st2 1 with
     | true => simp [hb] at hh
     | false =>
      simp only [hb,cond_false,Option.some.injEq,Prod.mk.injEq] at hh
      obtain ⟨rfl,rfl⟩ := hh
      refine wpIn_rangeFunc fun fn _ => ?_
      obtain ⟨σ1,l,base,size,mark,w1,e1,e2,e3,T1,H1⟩ := enterA_ok (P := P) hd hro S he fn
      have hgv := opnd_ok S.sl S.g g
      rw [show (dl0,tm,h,nx).2.1 = tm from rfl,hg] at hgv
      obtain ⟨ys,zs,hgv',hrel⟩ := range_args (hgv.mono T1.sub) e2
      have hcall := hK _ _ _ _ _ _ _ hk σ1 w0 B w1 _ H1 (S.g.mono T1.sub) hrel
      unfold CalleeOk at hcall
      rw [if_pos (by omega),show 2 * f / 2 = f by omega] at hcall
      obtain ⟨⟨fn',c,c1,c2,c3⟩,hcall⟩ := hcall
      have earr : ys ++ #[Value.func (.yield l) #[] #[]] ++ zs = (ys.toList ++ (.func (.yield l) #[] #[] :: zs.toList)).toArray := by
       apply Array.ext'
       simp
      have hinv : (invoke (.fn (.func f) zs) (ys ++ #[Value.func (.yield l) #[] #[]])).run P w1 = .ok (.enter f (ys.toList ++ (.func (.yield l) #[] #[] :: zs.toList)).toArray) w1 := by
       show (callFunc f (ys ++ #[Value.func (.yield l) #[] #[]] ++ zs)).run P w1 = _
       rw [earr]
       exact run_callFunc c1 c2 c3
      refine ⟨l,mark,w1,_,w1,f,_,w1,e1,range_resolve hgv',fun _ _ => trivial,hinv,fun h => (by cases h),?_⟩
      have h1 : CallsIn Fence.wide 0 P f _ w1 _ := callsIn_wide.2 hcall
      have h2 : CallsIn (fen ro) 0 P f _ w1 _ := h1
      refine h2.mono ?_
      rintro e w2 ⟨σ2,u,k1,k2,k3,rfl,k5,k6⟩
      have hl2 := k1.1 _ _ e2
      obtain ⟨rc,dr,dbase,dsize,g1,g2,⟨g3,g4,_⟩,_,g5⟩ := k6.lp hl2 hlp
      have hbusy : (rc.state == LoopState.busy) = false := by rw [g3]; exact not_busy hb
      have T2 : Then σ (tm,h,nx) (tm,cput HD h2' b .dead,nx2) σ2 := by
       refine T1.trans ⟨k1,?_,k3⟩
       exact fun c hc hlc => k2 c hc (k6.dkPut hl2 (by rw [hlp]; rfl) c (Nat.lt_of_lt_of_le hc k3) hlc)
      have H2 : HS σ2 (cput HD h2' b .dead) nx2 w0 B { w2 with heap := w2.heap.setIfInBounds l (.loop { rc with state := .exhausted }) } :=
       k6.upd hl2 (by rw [hlp]; rfl) g5 rfl rfl rfl rfl trivial
      have S2 : SimD rd ro n d G w0 B σ2 (dl ++ dl0,tm,cput HD h2' b .dead,nx2) { a with defers := mark ++ a.defers } { w2 with heap := w2.heap.setIfInBounds l (.loop { rc with state := .exhausted }) } := by
       refine ⟨hro.mono T2.sub,mark ++ ds,(e3.mono k1.1).app (hM.mono T2.sub),⟨⟨S.sl.size,?_,S.sl.le,fun t ht => (S.sl.sl t ht).mono T2.sub⟩,S.g.mono T2.sub,H2⟩⟩
       show mark ++ a.defers = mark ++ ds
       rw [S.sl.dfr]
      refine ⟨pendOf pend,_,by rw [← g4]; exact end_loop g1 hbusy,?_⟩
      match pend with
      | 0 => exact ⟨rfl,σ2,T2,S2⟩
      | 1 => exact wpIn_ret ⟨rfl,σ2,T2,S2⟩
      | id + 2 => exact wpIn_exit ⟨rfl,σ2,T2,S2⟩
    ·cases hh
   ·cases hh
  ·cases hh
 ·cases hh
theorem execC_ok (hK : KOk' P G K) (hn : n ≤ 2 ^ d) (hd : d = lg n) : ∀ (c : Code) (st : SD) (e : Ex) (st' : SD) (σ : Sg) (a : Act) (w : World),execC P G n d K N rd c st = some (e,st') → SimD rd ro n d G w0 B σ st a w → c.wpIn (fen ro) 0 P (Post rd ro n d G w0 B σ st e st') a w := by
 intro c
 induction c with
 | skip =>
  intro st e st' σ a w hh S
  simp only [execC,Option.some.injEq,Prod.mk.injEq] at hh
  obtain ⟨rfl,rfl⟩ := hh
  exact wpIn_skip ⟨rfl,σ,Then.refl _ _,S⟩
 | label l =>
  intro st e st' σ a w hh S
  simp only [execC,Option.some.injEq,Prod.mk.injEq] at hh
  obtain ⟨rfl,rfl⟩ := hh
  exact wpIn_label ⟨rfl,σ,Then.refl _ _,S⟩
 | region id ops draw =>
  intro st e st' σ a w hh S
  obtain ⟨dl,tm,h,nx⟩ := st
  obtain ⟨hro,ds,hM,S⟩ := S
  simp only [execC] at hh
  cases draw with
  | true =>
   simp only [cond_true] at hh
   split at hh
   ·rename_i st1 h1
    simp only [Option.some.injEq,Prod.mk.injEq] at hh
    obtain ⟨rfl,rfl⟩ := hh
    exact regA_ok hK hn h1 S (fun σ' a' w' T S' => ⟨rfl,σ',T,hro.mono T.sub,ds,hM.mono T.sub,S'⟩)
   ·cases hh
  | false =>
   simp only [cond_false] at hh
   split at hh
   ·rename_i st1 h1
    simp only [Option.some.injEq,Prod.mk.injEq] at hh
    obtain ⟨rfl,rfl⟩ := hh
    exact wpIn_region_list (opsA_ok hK _ tm h nx st1 σ a w h1 S (fun σ' a' w' T S' => ⟨rfl,σ',T,hro.mono T.sub,ds,hM.mono T.sub,S'⟩))
   ·cases hh
 | seq x y ihx ihy =>
  intro st e st' σ a w hh S
  simp only [execC] at hh
  refine wpIn_seq ?_
  split at hh
  ·rename_i st1 h1
   refine wpIn_mono (ihx st .normal st1 σ a w h1 S) ?_
   rintro e1 a1 w1 ⟨rfl,σ1,T1,S1⟩
   refine wpIn_mono (ihy st1 e st' σ1 a1 w1 hh S1) ?_
   rintro e2 a2 w2 ⟨rfl,σ2,T2,S2⟩
   exact ⟨rfl,σ2,T1.trans T2,S2⟩
  ·rename_i r hne
   refine wpIn_mono (ihx st e st' σ a w hh S) ?_
   rintro e1 a1 w1 ⟨rfl,σ1,T1,S1⟩
   cases e with
   | normal => exact absurd hh (hne st')
   | exit id => exact ⟨rfl,σ1,T1,S1⟩
   | ret => exact ⟨rfl,σ1,T1,S1⟩
 | cond c x y ihx ihy =>
  intro st e st' σ a w hh S
  simp only [execC] at hh
  obtain ⟨ds,hM,S'⟩ := S.sm
  have hc := opnd_ok S'.sl S'.g c
  split at hh
  ·rename_i he
   rw [he] at hc
   generalize hcv : a.eval c = cv at hc
   cases hc
   exact wpIn_cond_true hcv (ihx st e st' σ a w hh S)
  ·rename_i he
   rw [he] at hc
   generalize hcv : a.eval c = cv at hc
   cases hc
   exact wpIn_cond_false hcv (ihy st e st' σ a w hh S)
  ·cases hh
 | block id b ih =>
  intro st e st' σ a w hh S
  simp only [execC] at hh
  refine wpIn_block ?_
  split at hh
  ·rename_i j st1 h1
   refine wpIn_mono (ih st (.exit j) st1 σ a w h1 S) ?_
   rintro e1 a1 w1 ⟨rfl,σ1,T1,S1⟩
   cases hb : Nat.beq j id with
   | true =>
    simp only [hb,cond_true,Option.some.injEq,Prod.mk.injEq] at hh
    obtain ⟨rfl,rfl⟩ := hh
    show (if j = id then _ else _)
    rw [if_pos (beqn_iff.1 hb)]
    exact ⟨rfl,σ1,T1,S1⟩
   | false =>
    simp only [hb,cond_false,Option.some.injEq,Prod.mk.injEq] at hh
    obtain ⟨rfl,rfl⟩ := hh
    show (if j = id then _ else _)
    rw [if_neg (fun e => by rw [beqn_iff.2 e] at hb; cases hb)]
    exact ⟨rfl,σ1,T1,S1⟩
  ·rename_i r hne
   refine wpIn_mono (ih st e st' σ a w hh S) ?_
   rintro e1 a1 w1 ⟨rfl,σ1,T1,S1⟩
   cases e with
   | normal => exact ⟨rfl,σ1,T1,S1⟩
   | exit j => exact absurd hh (hne j st')
   | ret => exact ⟨rfl,σ1,T1,S1⟩
 | loop b ih =>
  intro st e st' σ a w hh S
  simp only [execC] at hh
  exact loopI_ok ih N st e st' σ a w hh S
 | exit id =>
  intro st e st' σ a w hh S
  simp only [execC,Option.some.injEq,Prod.mk.injEq] at hh
  obtain ⟨rfl,rfl⟩ := hh
  exact wpIn_exit ⟨rfl,σ,Then.refl _ _,S⟩
 | ret =>
  intro st e st' σ a w hh S
  simp only [execC,Option.some.injEq,Prod.mk.injEq] at hh
  obtain ⟨rfl,rfl⟩ := hh
  exact wpIn_ret ⟨rfl,σ,Then.refl _ _,S⟩
 | rangeFunc g ps assign body _ _ =>
  intro st e st' σ a w hh S
  exact rangeFunc_ok hK hd hh S
 | _ => intro st e st' σ a w hh S; simp [execC] at hh
end
end I
end Go.Proofs.YtojefiolcedigaaGreatDoor
namespace Go.Proofs.YtojefiolcedigaaGreatDoor
namespace I
open K (one aggB run_underlying' run_sizeOf' add_none run_v cell_cells)
set_option linter.unusedVariables false
def fullA : Nat → AV
 | 0 => .undef
 | d + 1 => .node (fullA d) (fullA d)
theorem cget_fullA : ∀ (d i : Nat),cget d (fullA d) i = .undef
 | 0,_ => rfl
 | d + 1,i => by
  simp only [fullA,cget]
  cases Nat.blt i (2 ^ d)
  ·exact cget_fullA d _
  ·exact cget_fullA d _
def argsA (d : Nat) : List AV → Nat → AV → AV
 | [],_,t => t
 | a :: l,i,t => argsA d l (i + 1) (cput d t i a)
def resA (P : Program) (n d : Nat) (tm h : AV) : List ResultVar → Option (List AV)
 | [] => some []
 | .tmp t :: l => match resA P n d tm h l with
  | some vs => some ((bif Nat.blt t n then cget d tm t else .undef) :: vs)
  | none => none
 | .cell t ty :: l => match (bif Nat.blt t n then cget d tm t else .undef) with
  | .ptr b off => match cget HD h b with
   | .cells _ m _ t => match apartA P ty m t off,resA P n d tm h l with
    | some v,some vs => some (v :: vs)
    | _,_ => none
   | _ => none
  | _ => none
def resOfA : List AV → AV
 | [v] => v
 | vs => .tup (ofList vs)
def takeA : List Nat → AV → Option AV
 | [],h => some h
 | b :: l,h => match cget HD h b with
  | .df => takeA l (cput HD h b .dead)
  | _ => none
def putPs (n d : Nat) : List Nat → List AV → AV → AV
 | t :: ts,a :: asx,tm => putPs n d ts asx (putA n d tm (some t) a)
 | _,_,tm => tm
def Ex.goes : Ex → Bool
 | .normal => true
 | _ => false
def Ex.stn : Ex → Nat
 | .normal => 0
 | _ => 2
def Ex.pend : Ex → Nat
 | .normal => 0
 | .ret => 1
 | .exit id => id + 2
def roundA (P : Program) (G : Nat) (K : KF) (N b : Nat) (args : List AV) (h : AV) (nx : Nat) : Option (AV × AV × Nat) :=
 match cget HD h b with
 | .lp n ps assign body tm st _ _ => bif Nat.beq st 0 && Nat.beq args.length ps.length then
   match execC P G n (lg n) K N (b + 1) assign ([],putPs n (lg n) ps args tm,h,nx) with
   | some (.normal,([],tm1,h1,nx1)) => match cget HD h1 b with
    | .lp n' ps' as' bo' tm' st' pe' db' => bif Nat.beq st' 0 then
      match execC P G n (lg n) K N (b + 1) body ([],tm1,cput HD h1 b (.lp n' ps' as' bo' tm' 1 pe' db'),nx1) with
      | some (e,(_,_,h2,nx2)) => match cget HD h2 b with
       | .lp n2 ps2 as2 bo2 tm2 _ _ db2 => some (.bool e.goes,cput HD h2 b (.lp n2 ps2 as2 bo2 tm2 e.stn e.pend db2),nx2)
       | _ => none
      | none => none
     else none
    | _ => none
   | _ => none
  else none
 | _ => none
def callA (P : Program) (G : Nat) (X : KF) (N : Nat) : Nat → KF
 | 0,_,_,_,_ => none
 | k + 1,f,args,h,nx => bif Nat.beq (f % 2) 1 then roundA P G (callA P G X N k) N (f / 2) args h nx else match X (f / 2) args h nx with
  | some r => some r
  | none => match P.funcs[f / 2]? with
   | none => none
   | some fn => bif fn.name == "runtime.NumGoroutine" || !(Nat.ble args.length fn.ntmps) then none else
    match fn.body with
    | none => none
    | some c => match execC P G fn.ntmps (lg fn.ntmps) (callA P G X N k) N 0 c ([],argsA (lg fn.ntmps) args 0 (fullA (lg fn.ntmps)),h,nx) with
     | some (.exit _,_) => none
     | some (_,(dl,tm,h',nx')) => match takeA dl h' with
      | some h'' => match resA P fn.ntmps (lg fn.ntmps) tm h'' fn.results.toList with
       | some vs => some (resOfA vs,h'',nx')
       | none => none
      | none => none
     | none => none
section
variable {P : Program} {G N : Nat} {X : KF}
theorem argsA_get {d n : Nat} (hn : n ≤ 2 ^ d) : ∀ (l : List AV) (i : Nat) (t : AV) (j : Nat),i + l.length ≤ n → j < n → cget d (argsA d l i t) j = if i ≤ j ∧ j < i + l.length then l.getD (j - i) .undef else cget d t j
 | [],i,t,j,_,_ => by rw [if_neg (by simp)]; rfl
 | a :: l,i,t,j,h,hj => by
  simp only [List.length_cons] at h
  rw [argsA,argsA_get hn l (i + 1) _ j (by omega) hj,cget_cput d t i j a (by omega) (by omega)]
  by_cases hji : j = i
  ·subst hji
   rw [if_neg (by omega),if_pos rfl,if_pos (by simp)]
   simp
  ·rw [if_neg hji]
   by_cases hin : i + 1 ≤ j ∧ j < i + 1 + l.length
   ·rw [if_pos hin,if_pos (by simp; omega),show j - i = (j - (i + 1)) + 1 by omega,List.getD_cons_succ]
   ·rw [if_neg hin,if_neg (by simp; omega)]
theorem slots_args {σ : Sg} {n : Nat} {args : List AV} {vs : List Value} (hr : RelL σ args vs) (hle : args.length ≤ n) :
  SlotRel [] σ n (lg n) (argsA (lg n) args 0 (fullA (lg n))) { tmps := vs.toArray ++ Array.replicate (n - vs.toArray.size) Go.undef,defers := [] } := by
 have hl := hr.1
 have hn := lg_le n
 refine ⟨by simp; omega,rfl,hn,fun t ht => ?_⟩
 rw [argsA_get hn args 0 _ t (by omega) ht,Array.getD_eq_getD_getElem?]
 by_cases hlt : t < args.length
 ·rw [if_pos (by omega),Nat.sub_zero,Array.getElem?_append_left (by simp; omega)]
  have h1 : args[t]? = some args[t] := List.getElem?_eq_getElem hlt
  have h2 : vs[t]? = some (vs[t]'(by omega)) := List.getElem?_eq_getElem _
  rw [List.getD_eq_getElem?_getD,h1,List.getElem?_toArray,h2]
  exact hr.2 t _ _ h1 h2
 ·rw [if_neg (by omega),cget_fullA,Array.getElem?_append_right (by simp; omega)]
  have : (Array.replicate (n - vs.toArray.size) Go.undef)[t - vs.toArray.size]? = some Go.undef := by
   rw [Array.getElem?_replicate,if_pos (by simp only [List.size_toArray]; omega)]
  rw [this]
  exact .undef
theorem resA_ok {n d : Nat} {w0 w : World} {B : Fr} {σ : Sg} {tm h : AV} {nx : Nat} {a : Act} {ds : List Deferred} (S : Sim ds n d G w0 B σ (tm,h,nx) a w) : ∀ (rs : List ResultVar) (vs : List AV),resA P n d tm h rs = some vs →
  ∃ us : List Value,RelL σ vs us ∧ (rs.mapM (K.resF a.tmps)).run P w = .ok us w
 | [],vs,hh => by
  simp only [resA,Option.some.injEq] at hh
  subst hh
  exact ⟨[],⟨rfl,fun i a v ha => by simp at ha⟩,rfl⟩
 | .tmp t :: rs,vs,hh => by
  unfold resA at hh
  split at hh
  ·rename_i vs' hv
   simp only [Option.some.injEq] at hh
   subst hh
   obtain ⟨us,h1,h2⟩ := resA_ok S rs vs' hv
   have h3 := opnd_ok S.sl S.g (.tmp t)
   refine ⟨a.tmps.getD t Go.undef :: us,⟨by simp [h1.1],fun i x v hx hv => ?_⟩,?_⟩
   ·cases i with
    | zero =>
     simp only [List.getElem?_cons_zero,Option.some.injEq] at hx hv
     subst hx; subst hv; exact h3
    | succ i => simp only [List.getElem?_cons_succ] at hx hv; exact h1.2 i x v hx hv
   ·rw [List.mapM_cons]
    simp only [K.resF,Sem.run_bind,Sem.run_pure,Result.andThen_ok,h2]
  ·cases hh
 | .cell t ty :: rs,vs,hh => by
  unfold resA at hh
  have h3 := opnd_ok S.sl S.g (.tmp t)
  simp only [opndA] at h3
  split at hh
  ·rename_i b off he
   rw [he] at h3
   simp only [Act.eval] at h3
   generalize hev : a.tmps.getD t Go.undef = tv at h3
   cases h3 with
   | ptr _ _ r base size o hs ho =>
   split at hh
   ·rename_i ety m ro t' hc
    split at hh
    ·rename_i v vs' hv hvs
     simp only [Option.some.injEq] at hh
     subst hh
     obtain ⟨cs,fr,tt,g1,g2,g3,g4,g5⟩ := S.hs.cells hs hc
     obtain ⟨u,h6,h7⟩ := run_loadVar (P := P) (σ := σ) g1 (by omega) g4 ho hv
     obtain ⟨us,h1,h2⟩ := resA_ok S rs vs' hvs
     refine ⟨u :: us,⟨by simp [h1.1],fun i x v hx hv => ?_⟩,?_⟩
     ·cases i with
      | zero =>
       simp only [List.getElem?_cons_zero,Option.some.injEq] at hx hv
       subst hx; subst hv; exact h6
      | succ i => simp only [List.getElem?_cons_succ] at hx hv; exact h1.2 i x v hx hv
     ·rw [List.mapM_cons]
      have hA : (asAddr (.pointer (some ⟨r,o,none⟩))).run P w = .ok ⟨r,o,none⟩ w := rfl
      simp only [K.resF,Sem.run_bind,hev,hA,Result.andThen_ok,h7,h2,Sem.run_pure]
    ·cases hh
   ·cases hh
  ·cases hh
theorem resOf_ok {σ : Sg} {vs : List AV} {us : List Value} (h : RelL σ vs us) : Rel σ (resOfA vs) (K.resOf us) := by
 match vs,us with
 | [],[] => exact .tup _ _ rfl (fun i a v ha => by simp [ofList,toList] at ha)
 | [v],[u] => exact h.2 0 v u rfl rfl
 | v :: v' :: vs,u :: u' :: us =>
  refine .tup _ _ ?_ (fun i a x ha hx => ?_)
  ·rw [toList_ofList]; simpa using h.1
  ·rw [toList_ofList] at ha
   exact h.2 i a x ha (by simpa using hx)
 | [],_ :: _ => exact absurd h.1 (by simp)
 | _ :: _,[] => exact absurd h.1 (by simp)
 | [_],_ :: _ :: _ => exact absurd h.1 (by simp)
 | _ :: _ :: _,[_] => exact absurd h.1 (by simp)
def XOk (P : Program) (G : Nat) (X : KF) : Prop := ∀ f args h nx v h' nx',X f args h nx = some (v,h',nx') → CallOk P G (2 * f) args h nx v h' nx'
theorem HS.df {σ : Sg} {h : AV} {nx : Nat} {w0 w : World} {B : Fr} (H : HS σ h nx w0 B w) {b r base size : Nat} (hb : σ b = some (r,base,size)) (hc : cget HD h b = .df) : w.heap[r]? = some (.deferred (some [])) ∧ (B.wr r ∨ w0.heap.size ≤ r) := by
 have := H.blk b (H.lt hb)
 rw [hc] at this
 obtain ⟨r',base',size',h1,h2,h3⟩ := this
 rw [hb] at h1
 simp only [Option.some.injEq,Prod.mk.injEq] at h1
 obtain ⟨rfl,rfl,rfl⟩ := h1
 exact ⟨h2,h3⟩
theorem takeA_ok {σ : Sg} {nx : Nat} {w0 : World} {B : Fr} {fn : Func} {tmps : Array Value} {R : Ending → World → Prop} : ∀ (dl : List Nat) (ds : List Deferred) (h h' : AV) (w : World),takeA dl h = some h' → HS σ h nx w0 B w → MarksRel σ dl ds →
  (∀ w',Dk nx h h' → HS σ h' nx w0 B w' → LeavesIn Fence.wide 0 P fn tmps R [] .returning w') → LeavesInM Fence.wide 0 P fn tmps R ds .returning w
 | [],ds,h,h',w,ht,H,hM,hL => by
  simp only [takeA,Option.some.injEq] at ht
  subst ht
  have : ds = [] := List.eq_nil_of_length_eq_zero hM.1.symm
  subst this
  exact hL w (Dk.refl _ _) H
 | b :: dl,ds,h,h',w,ht,H,hM,hL => by
  unfold takeA at ht
  split at ht
  ·rename_i hdf
   match ds,hM with
   | [],hM => exact absurd hM.1 (by simp)
   | x :: ds,hM =>
    obtain ⟨r,base,size,h1,rfl⟩ := hM.2 0 b x rfl rfl
    obtain ⟨g1,g2⟩ := H.df h1 hdf
    have hgo : (getObj r).run P w = .ok (.deferred (some [])) w := by simp [getObj,Sem.run,g1]
    have hso : ∀ o,(setObj r o).run P w = .ok () { w with heap := w.heap.setIfInBounds r o } := fun o => by simp [setObj,Sem.run,g1]
    have H2 : HS σ (cput HD h b .dead) nx w0 B { w with heap := w.heap.setIfInBounds r (.deferred none) } := H.upd h1 (by rw [hdf]; rfl) g2 rfl rfl rfl rfl trivial
    have hdk : Dk nx h (cput HD h b .dead) := H.dkKill h1
    refine ⟨by simp,.inl ⟨r,_,rfl,?_,takeA_ok dl ds _ h' _ ht H2 ⟨by have := hM.1; simpa using this,fun i c y hc hy => hM.2 (i + 1) c y (by simpa using hc) (by simpa using hy)⟩ (fun w' d H' => hL w' (hdk.trans d (Nat.le_refl _)) H')⟩⟩
    simp only [Instr.takeDeferred,Sem.run_bind,hgo,Result.andThen_ok,hso,Sem.run_pure]
  ·cases ht
theorem putPs_ok {n d : Nat} {σ : Sg} : ∀ (ps : List Nat) (args : List AV) (vs : List Value) (tm : AV) (T : Array Value),RelL σ args vs → SlotRel [] σ n d tm { tmps := T,defers := [] } →
  SlotRel [] σ n d (putPs n d ps args tm) { tmps := (ps.zip vs).foldl (fun tmps x => tmps.setIfInBounds x.1 x.2) T,defers := [] }
 | [],_,_,_,_,_,S => by simpa [putPs] using S
 | _ :: _,[],vs,_,_,hr,S => by
  have : vs = [] := List.eq_nil_of_length_eq_zero hr.1.symm
  subst this
  simpa [putPs] using S
 | t :: ps,x :: args,[],_,_,hr,S => absurd hr.1 (by simp)
 | t :: ps,x :: args,v :: vs,tm,T,hr,S => by
  have h1 := hr.2 0 x v rfl rfl
  have h2 : RelL σ args vs := ⟨by have := hr.1; simpa using this,fun i a u ha hu => hr.2 (i + 1) a u (by simpa using ha) (by simpa using hu)⟩
  exact putPs_ok ps args vs _ _ h2 (put_ok (dst := some t) S h1)
theorem run_yield {r : Nat} {w : World} {rc : Loop} {ps : List Nat} {vs : List Value} (g1 : w.heap[r]? = some (.loop rc)) (hp : rc.params = ps.toArray) (hl : vs.length = ps.length) :
  (Instr.yield r vs.toArray).run P w = .ok (.round r rc.fn ((ps.zip vs).foldl (fun tmps x => tmps.setIfInBounds x.1 x.2) rc.tmps) rc.assign rc.body) w := by
 have hgo : (getObj r).run P w = .ok (.loop rc) w := by simp [getObj,Sem.run,g1]
 simp only [Instr.yield,Instr.getLoop,Sem.run_bind,hgo,Result.andThen_ok,Sem.run_pure,hp,List.size_toArray,hl,ne_eq,not_true,if_false]
 rw [← Array.foldl_toList]
 simp
theorem run_begin {r : Nat} {w : World} {rc : Loop} (g1 : w.heap[r]? = some (.loop rc)) (hs : rc.state = .ready) :
  (Instr.beginRound r).run P w = .ok () { w with heap := w.heap.setIfInBounds r (.loop { rc with state := .busy }) } := by
 have hgo : (getObj r).run P w = .ok (.loop rc) w := by simp [getObj,Sem.run,g1]
 have hso : ∀ o,(setObj r o).run P w = .ok () { w with heap := w.heap.setIfInBounds r o } := fun o => by simp [setObj,Sem.run,g1]
 simp only [Instr.beginRound,Instr.getLoop,Sem.run_bind,hgo,Result.andThen_ok,Sem.run_pure,hso,hs]
theorem run_end {r : Nat} {w : World} {rc : Loop} {j : Option Code} (g1 : w.heap[r]? = some (.loop rc)) :
  (Instr.endRound r j).run P w = .ok (.bool j.isNone) { w with heap := w.heap.setIfInBounds r (.loop { rc with state := if j.isNone then .ready else .done,pending := j }) } := by
 have hgo : (getObj r).run P w = .ok (.loop rc) w := by simp [getObj,Sem.run,g1]
 have hso : ∀ o,(setObj r o).run P w = .ok () { w with heap := w.heap.setIfInBounds r o } := fun o => by simp [setObj,Sem.run,g1]
 simp only [Instr.endRound,Instr.getLoop,Sem.run_bind,hgo,Result.andThen_ok,Sem.run_pure,hso]
theorem HS.setLp {σ : Sg} {h : AV} {nx : Nat} {w0 w : World} {B : Fr} (H : HS σ h nx w0 B w) {b r base size m : Nat} {ps : List Nat} {assign body : Code} {tm : AV} {st pend db : Nat} (hb : σ b = some (r,base,size)) (hc : cget HD h b = .lp m ps assign body tm st pend db) {rc : Loop}
  (g1 : w.heap[r]? = some (.loop rc)) {st' pend' : Nat} {s' : LoopState} {p' : Option Code} (hs : s' = stOf st') (hp : p' = pendOf pend') :
  HS σ (cput HD h b (.lp m ps assign body tm st' pend' db)) nx w0 B { w with heap := w.heap.setIfInBounds r (.loop { rc with state := s',pending := p' }) } := by
 obtain ⟨rc',dr,dbase,dsize,q1,q2,⟨e1,e2,e3,e4,e5,e6,e7⟩,q4,q5⟩ := H.lp hb hc
 rw [g1] at q1
 simp only [Option.some.injEq,Obj.loop.injEq] at q1
 subst q1
 exact H.upd hb (by rw [hc]; rfl) q5 rfl rfl rfl rfl ⟨r,base,size,{ rc with state := s',pending := p' },dr,dbase,dsize,hb,by simp [lt_of_get g1],q2,⟨hs,hp,e3,e4,e5,e6,e7⟩,q4,q5⟩
theorem roundA_ok {K : KF} (hK : KOk' P G K) {b : Nat} {args : List AV} {h : AV} {nx : Nat} {v h' : AV} {nx' : Nat} (hh : roundA P G K N b args h nx = some (v,h',nx')) : CallOk P G (2 * b + 1) args h nx v h' nx' := by
 intro σ w0 B w vs H hG hr
 unfold CalleeOk
 rw [if_neg (by omega),show (2 * b + 1) / 2 = b by omega]
 intro r base size hb
 unfold roundA at hh
 split at hh
 ·rename_i n ps assign body tm st pe db hlp
  cases hq : (Nat.beq st 0 && Nat.beq args.length ps.length) with
  | false => simp [hq] at hh
  | true =>
   simp only [hq,cond_true] at hh
   simp only [Bool.and_eq_true] at hq
   have hst := beqn_iff.1 hq.1
   have hlen := beqn_iff.1 hq.2
   obtain ⟨rc,dr,dbase,dsize,g1,g2,⟨e1,e2,e3,e4,e5,e6,e7⟩,g4,g5⟩ := H.lp hb hlp
   have hy := run_yield (P := P) (vs := vs) g1 e3 (by rw [← hr.1]; exact hlen)
   rw [e4,e5] at hy
   refine ⟨rc.fn,_,assign,body,hy,roundIn_of_wpIn (F := Fence.wide) trivial ?_⟩
   split at hh
   ·rename_i tm1 h1 nx1 hx1
    split at hh
    ·rename_i n' ps' as' bo' tm' st' pe' db' hlp1
     cases hq1 : Nat.beq st' 0 with
     | false => simp [hq1] at hh
     | true =>
      simp only [hq1,cond_true] at hh
      have hst1 := beqn_iff.1 hq1
      split at hh
      ·rename_i e dl2 tm2 h2 nx2 hx2
       split at hh
       ·rename_i n2 ps2 as2 bo2 tm2' st2 pe2 db2 hlp2
        simp only [Option.some.injEq,Prod.mk.injEq] at hh
        obtain ⟨rfl,rfl,rfl⟩ := hh
        have S0 : SimD (b + 1) (some r) n (lg n) G w0 B σ ([],putPs n (lg n) ps args tm,h,nx) { tmps := (ps.zip vs).foldl (fun tmps x => tmps.setIfInBounds x.1 x.2) rc.tmps,defers := [] } w :=
         ⟨⟨r,base,size,hb,rfl⟩,[],MarksRel.nil _,⟨putPs_ok ps args vs tm rc.tmps hr ⟨e7,rfl,lg_le _,g4⟩,hG,H⟩⟩
        refine wpIn_mono (execC_ok (ro := some r) hK (lg_le _) rfl assign _ .normal _ σ _ w hx1 S0) ?_
        rintro ex a1 w1 ⟨rfl,σ1,T1,S1⟩
        obtain ⟨hro1,ds1,hM1,S1⟩ := S1
        have hb1 := T1.sub _ _ hb
        have H1 : HS σ1 h1 nx1 w0 B w1 := S1.hs
        obtain ⟨rc1,_,_,_,f1,_,⟨f2,_⟩,_,_⟩ := H1.lp hb1 hlp1
        have hds1 : ds1 = [] := List.eq_nil_of_length_eq_zero hM1.1.symm
        subst hds1
        refine ⟨_,run_begin f1 (by rw [f2,hst1]; rfl),?_⟩
        have H1' := H1.setLp hb1 hlp1 f1 (st' := 1) (pend' := pe') (s' := .busy) (p' := rc1.pending) rfl (by
         obtain ⟨rc1',_,_,_,z1,_,⟨_,z2,_⟩,_,_⟩ := H1.lp hb1 hlp1
         rw [f1] at z1; simp only [Option.some.injEq,Obj.loop.injEq] at z1; subst z1; exact z2)
        have S1' : SimD (b + 1) (some r) n (lg n) G w0 B σ1 ([],tm1,cput HD h1 b (.lp n' ps' as' bo' tm' 1 pe' db'),nx1) a1 { w1 with heap := w1.heap.setIfInBounds r (.loop { rc1 with state := .busy }) } :=
         ⟨hro1,[],MarksRel.nil _,⟨S1.sl,S1.g,H1'⟩⟩
        refine wpIn_mono (execC_ok (ro := some r) hK (lg_le _) rfl body _ e _ σ1 _ _ hx2 S1') ?_
        rintro ex a2 w2 ⟨rfl,σ2,T2,S2⟩
        obtain ⟨hro2,ds2,hM2,S2⟩ := S2
        have hb2 := T2.sub _ _ hb1
        have H2 : HS σ2 h2 nx2 w0 B w2 := S2.hs
        obtain ⟨rc2,_,_,_,y1,_⟩ := H2.lp hb2 hlp2
        have hdk : ∀ s p,Dk nx h (cput HD h2 b (.lp n2 ps2 as2 bo2 tm2' s p db2)) := fun s p c hc hlc => by
         have hc1 : c < nx1 := Nat.lt_of_lt_of_le hc T1.2.2
         have hc2 : c < nx2 := Nat.lt_of_lt_of_le hc1 T2.2.2
         have k1 := H2.dkPut hb2 (by rw [hlp2]; rfl) c hc2 hlc
         have k2 := T2.2.1 c hc1 k1
         have k3 := H1.dkPut hb1 (by rw [hlp1]; rfl) c hc1 k2
         exact T1.2.1 c hc k3
        have hsub : SubX nx σ σ2 := T1.1.trans T2.1 T1.2.2
        have hnx : nx ≤ nx2 := Nat.le_trans T1.2.2 T2.2.2
        cases e with
        | normal => exact ⟨_,_,run_end y1,σ2,_,hsub,hdk _ _,hnx,rfl,.bool _,H2.setLp hb2 hlp2 y1 rfl rfl⟩
        | ret => exact ⟨_,_,run_end y1,σ2,_,hsub,hdk _ _,hnx,rfl,.bool _,H2.setLp hb2 hlp2 y1 rfl rfl⟩
        | exit id => exact ⟨_,_,run_end y1,σ2,_,hsub,hdk _ _,hnx,rfl,.bool _,H2.setLp hb2 hlp2 y1 rfl rfl⟩
       ·cases hh
      ·cases hh
    ·cases hh
   ·cases hh
 ·cases hh
theorem callA_ok (hX : XOk P G X) : ∀ (k : Nat),KOk' P G (callA P G X N k)
 | 0,f,args,h,nx,v,h',nx',hh => by simp [callA] at hh
 | k + 1,f,args,h,nx,v,h',nx',hh => by
  unfold callA at hh
  cases hodd : Nat.beq (f % 2) 1 with
  | true =>
   simp only [hodd,cond_true] at hh
   have h1 := beqn_iff.1 hodd
   have h2 := roundA_ok (callA_ok hX k) hh
   rwa [show 2 * (f / 2) + 1 = f by omega] at h2
  | false =>
   simp only [hodd,cond_false] at hh
   have h0 : f % 2 = 0 := by
    have : f % 2 ≠ 1 := fun e => by rw [beqn_iff.2 e] at hodd; cases hodd
    omega
   have hf2 : 2 * (f / 2) = f := by omega
   split at hh
   ·rename_i r hr
    simp only [Option.some.injEq] at hh
    rw [hh] at hr
    have := hX (f / 2) args h nx v h' nx' hr
    rwa [hf2] at this
   ·split at hh
    ·cases hh
    ·rename_i fn hf
     cases hb : (fn.name == "runtime.NumGoroutine" || !(Nat.ble args.length fn.ntmps)) with
     | true => simp [hb] at hh
     | false =>
      simp only [hb,cond_false] at hh
      simp only [Bool.or_eq_false_iff,Bool.not_eq_false'] at hb
      have hle := ble_iff.1 hb.2
      split at hh
      ·cases hh
      ·rename_i c hc
       split at hh
       ·cases hh
       ·rename_i e dl tm h1 nx1 hne hex
        split at hh
        ·rename_i h2 ht
         split at hh
         ·rename_i vs hvs
          simp only [Option.some.injEq,Prod.mk.injEq] at hh
          obtain ⟨rfl,rfl,rfl⟩ := hh
          intro σ w0 B w us H hg hr
          unfold CalleeOk
          rw [if_pos h0]
          refine ⟨⟨fn,c,hf,hb.1,hc⟩,(callsIn_wide (n := 0)).1 (callsIn_of_wp_marks (F := Fence.wide) hf hc trivial ?_)⟩
          have S0 : SimD 0 none fn.ntmps (lg fn.ntmps) G w0 B σ ([],argsA (lg fn.ntmps) args 0 (fullA (lg fn.ntmps)),h,nx) { tmps := us.toArray ++ Array.replicate (fn.ntmps - us.toArray.size) Go.undef,defers := [] } w :=
           ⟨rfl,[],MarksRel.nil _,⟨slots_args hr hle,hg,H⟩⟩
          refine wpIn_mono (execC_ok (ro := none) (callA_ok hX k) (lg_le _) rfl c _ e (dl,tm,h1,nx1) σ _ w hex S0) ?_
          rintro e' a' w' ⟨rfl,σ',T,S'⟩
          obtain ⟨_,ds',hM',S'⟩ := S'
          have hpost : LeavesInM Fence.wide 0 P fn a'.tmps (fun e w' => ∃ σ' v',SubX nx σ σ' ∧ Dk nx h h2 ∧ nx ≤ nx1 ∧ e = .returned v' ∧ Rel σ' (resOfA vs) v' ∧ HS σ' h2 nx1 w0 B w') a'.defers .returning w' := by
           rw [S'.sl.dfr]
           refine takeA_ok (σ := σ') (nx := nx1) (w0 := w0) (B := B) dl ds' h1 h2 w' ht S'.hs hM' (fun w2 hdk H2 => ?_)
           have S2 : Sim ds' fn.ntmps (lg fn.ntmps) G w0 B σ' (tm,h2,nx1) a' w2 := ⟨S'.sl,S'.g,H2⟩
           obtain ⟨xs,r1,r2⟩ := resA_ok (P := P) S2 _ vs hvs
           have hres : (Go.results fn a'.tmps).run P w2 = .ok (K.resOf xs) w2 := by
            rw [K.results_eq,← Array.toArray_toList (xs := fn.results),List.mapM_toArray]
            simp only [Sem.run_bind,map_eq_pure_bind,r2,Result.andThen_ok,Sem.run_pure]
            match xs with
            | [] => rfl
            | [v] => rfl
            | _ :: _ :: _ => simp [K.resOf]
           exact ⟨_,hres,σ',_,T.1,T.2.1.trans hdk T.2.2,T.2.2,rfl,resOf_ok r1,H2⟩
          cases e with
          | normal => exact hpost
          | exit j => exact (hne j rfl).elim
          | ret => exact hpost
         ·cases hh
        ·cases hh
       ·cases hh
def H0 : AV := .uni .dead
def isTrue : Option (AV × AV × Nat) → Bool
 | some (.bool true,_,_) => true
 | _ => false
end
end I
end Go.Proofs.YtojefiolcedigaaGreatDoor
namespace Go.Proofs.YtojefiolcedigaaGreatDoor
namespace I
set_option linter.unusedVariables false
noncomputable def fN {β : Type} (n : Nat) (c : Nat → β) : β := @Nat.rec (fun _ => β) (c 0) (fun m _ => c (Nat.succ m)) n
theorem fN_eq {β : Type} (n : Nat) (c : Nat → β) : fN n c = c n := by cases n <;> rfl
noncomputable def fI {β : Type} (n : Int) (c : Int → β) : β := @Int.rec (fun _ => β) (fun m => fN m fun m => c (.ofNat m)) (fun m => fN m fun m => c (.negSucc m)) n
noncomputable def fB {β : Type} (b : Bool) (c : Bool → β) : β := @Bool.rec (fun _ => β) (c false) (c true) b
noncomputable def forceV {β : Type} (v : AV) (c : AV → β) : β :=
 match v with
 | .bool b => fB b fun b => c (.bool b)
 | .int k n => fI n fun n => c (.int k n)
 | .str n x => fN n fun n => fN x fun x => c (.str n x)
 | .ptr b o => fN b fun b => fN o fun o => c (.ptr b o)
 | .sl b o l lb sz => fN b fun b => fN o fun o => fN l fun l => fN lb fun lb => fN sz fun sz => c (.sl b o l lb sz)
 | v => c v
noncomputable def optE (x : Option AV) (k : AV → Bool) : Bool := @Option.rec AV (fun _ => Bool) false (fun v => forceV v k) x
noncomputable def ptrE (v : AV) (f : Nat → Nat → Bool) : Bool := @AV.rec (fun _ => Bool) false false (fun _ => false) (fun _ _ => false) (fun _ _ => false) false f false (fun _ _ _ _ _ => false) false (fun _ => false) false (fun _ _ _ _ _ => false) false (fun _ _ _ => false) (fun _ _ _ => false) (fun _ _ => false) false (fun _ _ _ _ => false) (fun _ _ _ _ => false) (fun _ _ => false) false (fun _ _ _ _ _ => false) (fun _ _ => false) (fun _ => false) (fun _ _ _ _ _ _ _ _ _ => false) false v
noncomputable def aggE (v : AV) (f : Nat → AV → Bool) : Bool := @AV.rec (fun _ => Bool) false false (fun _ => false) (fun _ _ => false) (fun _ _ => false) false (fun _ _ => false) false (fun _ _ _ _ _ => false) false (fun _ => false) false (fun _ _ _ _ _ => false) false (fun _ _ _ => false) (fun x0 x1 _ => f x0 x1) (fun _ _ => false) false (fun _ _ _ _ => false) (fun _ _ _ _ => false) (fun _ _ => false) false (fun _ _ _ _ _ => false) (fun _ _ => false) (fun _ => false) (fun _ _ _ _ _ _ _ _ _ => false) false v
noncomputable def cellsE (v : AV) (f : Nat → Nat → Bool → AV → Bool) : Bool := @AV.rec (fun _ => Bool) false false (fun _ => false) (fun _ _ => false) (fun _ _ => false) false (fun _ _ => false) false (fun _ _ _ _ _ => false) false (fun _ => false) false (fun _ _ _ _ _ => false) false (fun _ _ _ => false) (fun _ _ _ => false) (fun _ _ => false) false (fun _ _ _ _ => false) (fun _ _ _ _ => false) (fun _ _ => false) false (fun x0 x1 x2 x3 _ => f x0 x1 x2 x3) (fun _ _ => false) (fun _ => false) (fun _ _ _ _ _ _ _ _ _ => false) false v
noncomputable def nuE (v : AV) (fn : AV → AV → Bool) (fu : AV → Bool) : Bool := @AV.rec (fun _ => Bool) false false (fun _ => false) (fun _ _ => false) (fun _ _ => false) false (fun _ _ => false) false (fun _ _ _ _ _ => false) false (fun _ => false) false (fun _ _ _ _ _ => false) false (fun _ _ _ => false) (fun _ _ _ => false) (fun _ _ => false) false (fun _ _ _ _ => false) (fun x0 x1 _ _ => fn x0 x1) (fun x0 _ => fu x0) false (fun _ _ _ _ _ => false) (fun _ _ => false) (fun _ => false) (fun _ _ _ _ _ _ _ _ _ => false) false v
noncomputable def cgetK (d : Nat) : AV → Nat → (AV → Bool) → Bool :=
 @Nat.rec (fun _ => AV → Nat → (AV → Bool) → Bool) (fun t _ k => k t)
  (fun d ih t i k => nuE t (fun l r => bif Nat.blt i (Nat.pow 2 d) then ih l i k else ih r (Nat.sub i (Nat.pow 2 d)) k) k) d
noncomputable def cputK (d : Nat) : AV → Nat → AV → (AV → Bool) → Bool :=
 @Nat.rec (fun _ => AV → Nat → AV → (AV → Bool) → Bool) (fun _ _ v k => k v)
  (fun d ih t i v k => nuE t
   (fun l r => bif Nat.blt i (Nat.pow 2 d) then ih l i v (fun l' => k (.node l' r)) else ih r (Nat.sub i (Nat.pow 2 d)) v (fun r' => k (.node l r')))
   (fun u => bif Nat.blt i (Nat.pow 2 d) then ih (unid d u) i v (fun l' => k (.node l' (unid d u))) else ih (unid d u) (Nat.sub i (Nat.pow 2 d)) v (fun r' => k (.node (unid d u) r')))) d
structure Bx where
 v : AV
structure Q (α : Type) where
 a : α
 b : α
 c : α
 d : α
def Tr : Nat → Type
 | 0 => Bx
 | 1 => Bx × Bx
 | d + 2 => Q (Tr d)
structure GC (d : Nat) where
 run : Tr d → (AV → Bool) → Bool
def OcOk {d : Nat} (oc : Operand → GC d) (ρ : Tr d → Operand → AV) : Prop := ∀ x t k,(oc x).run t k = true → k (ρ t x) = true
end I
end Go.Proofs.YtojefiolcedigaaGreatDoor
namespace Go.Proofs.YtojefiolcedigaaGreatDoor
namespace I
set_option linter.unusedVariables false
abbrev VK := AV → AV → Nat → Bool
abbrev KC := Nat → List AV → AV → Nat → VK → Bool
structure XC (d : Nat) where
 run : KC → Tr d → AV → Nat → VK → Bool
section
variable {P : Program} {K : KF} {ρ : Operand → AV} {h : AV} {nx : Nat} {o : Oper}
end
def failC {d : Nat} : XC d := ⟨fun _ _ _ _ _ => false⟩
section
variable {d : Nat} {P : Program} {ρ : Tr d → Operand → AV} {o : Oper}
noncomputable def p1 (g : GC d) (F : AV → Option AV) : XC d := @GC.rec d (fun _ => XC d) (fun g => ⟨fun Kc t h nx k => g t fun a => optE (F a) fun v => k v h nx⟩) g
noncomputable def p2 (g g' : GC d) (F : AV → AV → Option AV) : XC d :=
 @GC.rec d (fun _ => XC d) (fun g => @GC.rec d (fun _ => XC d) (fun g' => ⟨fun Kc t h nx k => g t fun a => g' t fun b => optE (F a b) fun v => k v h nx⟩) g') g
noncomputable def p3 (g g' g'' : GC d) (F : AV → AV → AV → Option AV) : XC d :=
 @GC.rec d (fun _ => XC d) (fun g => @GC.rec d (fun _ => XC d) (fun g' => @GC.rec d (fun _ => XC d) (fun g'' => ⟨fun Kc t h nx k => g t fun a => g' t fun b => g'' t fun c => optE (F a b c) fun v => k v h nx⟩) g'') g') g
variable {oc : Operand → GC d} (hoc : OcOk oc ρ)
include hoc
end
section
variable {d : Nat} {P : Program} {ρ : Tr d → Operand → AV} {o : Oper} {oc : Operand → GC d}
end
end I
end Go.Proofs.YtojefiolcedigaaGreatDoor
namespace Go.Proofs.YtojefiolcedigaaGreatDoor
namespace I
set_option linter.unusedVariables false
section
variable {d : Nat} {P : Program} {ρ : Tr d → Operand → AV} {o : Oper} {oc : Operand → GC d}
noncomputable def rowSt (P : Program) (sz : Nat) (h : AV) (b off m : Nat) (s : AV) (nx : Nat) (k : VK) : Bool :=
 cgetK HD h b fun c => cellsE c fun ety n ro u => bif ro then false else bif Nat.beq m sz && Nat.ble (Nat.add off m) n then cputK HD h b (.cells ety n false (cblit (lg n) u off m s)) fun h' => k .undef h' nx else false
noncomputable def stC (P : Program) (ty : TypeId) (g g' : GC d) : XC d :=
 match P.info? ty with
 | some inf => fN inf.size fun sz =>
   @GC.rec d (fun _ => XC d) (fun g => @GC.rec d (fun _ => XC d) (fun g' => ⟨fun Kc t h nx k => g t fun a => ptrE a fun b off => g' t fun v => bif scalarA v then
    bif Nat.beq 1 sz then cgetK HD h b fun c => cellsE c fun ety n ro u => bif ro then false else bif Nat.ble (Nat.succ off) n then cputK (lg n) u off v fun u' => cputK HD h b (.cells ety n false u') fun h' => k .undef h' nx else false else false
    else aggE v fun m s => rowSt P sz h b off m s nx k⟩) g') g
 | none => failC
end
end I
end Go.Proofs.YtojefiolcedigaaGreatDoor
namespace Go.Proofs.YtojefiolcedigaaGreatDoor
namespace I
set_option linter.unusedVariables false
section
variable {P : Program} {G n d : Nat}
end
end I
end Go.Proofs.YtojefiolcedigaaGreatDoor
namespace Go.Proofs.YtojefiolcedigaaGreatDoor
namespace I
set_option linter.unusedVariables false
section
variable {C : DC}
end
section
variable {P : Program} {G n d : Nat}
end
end I
end Go.Proofs.YtojefiolcedigaaGreatDoor
namespace Go.Proofs.YtojefiolcedigaaGreatDoor
namespace I
set_option linter.unusedVariables false
section
variable {P : Program} {G n d N : Nat} {Kc : KC} {K : KF}
end
end I
end Go.Proofs.YtojefiolcedigaaGreatDoor
namespace Go.Proofs.YtojefiolcedigaaGreatDoor
namespace I
set_option linter.unusedVariables false
def tabH (k : IntKind) (zs : List Int) : AV := cput HD H0 0 (.cells 0 zs.length true (cmk (fun i => .int k (zs.getD i 0)) (lg zs.length) 0 zs.length))
def tabS (n : Nat) : Sg := fun b => if b = 0 then some (0,0,n) else none
def tabB : Fr := ⟨fun _ => False,fun r => r = 0⟩
theorem tab_start {k : IntKind} {zs : List Int} {w : World} {t : TypeId} {fr : Nat × Nat} (hb : w.heap[0]? = some (.cells (zs.map fun z => Value.int k z).toArray t fr)) : HS (tabS zs.length) (tabH k zs) 1 w tabB w := by
 have hget : ∀ b,b < 2 ^ HD → cget HD (tabH k zs) b = if b = 0 then .cells 0 zs.length true (cmk (fun i => .int k (zs.getD i 0)) (lg zs.length) 0 zs.length) else .dead := fun b hlt => by
  unfold tabH
  rw [cget_cput HD H0 0 b _ (by decide) hlt]
  split
  ·rfl
  ·exact cget_unid 18 .dead b
 refine ⟨rfl,rfl,rfl,Nat.le_refl _,fun _ _ _ => rfl,fun b hlt => ?_,fun b p h => ?_,by decide,fun b b' p p' hne h h' hl => ?_,fun b p h hl => ?_⟩
 ·rw [hget b hlt]
  by_cases h0 : b = 0
  ·rw [if_pos h0,h0]
   refine ⟨0,0,zs.length,_,fr,t,rfl,hb,by simp,⟨rfl,by omega,fun h => by omega⟩,fun i hi => ⟨.int k (zs.getD i 0),?_,rfl,?_⟩,(fun h => by cases h),(fun h => by rcases h with h | h <;> simp at h)⟩
   ·simp [hi]
   ·rw [cget_cmk _ _ _ _ _ (lg_le _) hi,Nat.zero_add]; exact .int _ _
  ·rw [if_neg h0]; trivial
 ·unfold tabS at h
  by_cases h0 : b = 0
  ·omega
  ·rw [if_neg h0] at h; cases h
 ·have hlt : b < 2 ^ HD := by
   unfold tabS at h
   by_cases h0 : b = 0
   ·rw [h0]; decide
   ·rw [if_neg h0] at h; cases h
  rw [hget b hlt] at hl
  split at hl <;> simp [liveW] at hl
 ·unfold tabS at h
  by_cases h0 : b = 0
  ·rw [if_pos h0] at h
   simp only [Option.some.injEq] at h
   left
   show p.1 = 0
   rw [← h]
  ·rw [if_neg h0] at h; cases h
end I
end Go.Proofs.YtojefiolcedigaaGreatDoor
namespace Go.Proofs.YtojefiolcedigaaGreatDoor
open K
set_option linter.unusedVariables false
def un8 (L : List Nat) : List UInt8 := L.map UInt8.ofNat
def mixes : Nat → List UInt8 → List Nat → List Nat
 | 0,_,hs => hs
 | k + 1,l,hs => mixes k (l.drop 64) (mixF hs (l.take 64))
theorem lay_all : ∀ (l A B : List UInt8),B.length = l.length → lay (A ++ B) A.length l = A ++ l
 | [],A,B,h => by rw [List.eq_nil_of_length_eq_zero (l := B) (by simpa using h)]; rfl
 | x :: l,A,B,h => by
  match B,h with
  | y :: B,h =>
   have e : (A ++ y :: B).set A.length x = (A ++ [x]) ++ B := by simp
   have := lay_all l (A ++ [x]) B (by simpa using h)
   rw [lay,e]
   rw [List.length_append] at this
   simpa using this
theorem feed_mixes : ∀ (k : Nat) (l : List UInt8) (hs : List Nat) (bl : List UInt8),l.length = 64 * k → bl.length = 64 → (feed ⟨hs,bl,0⟩ l).hs = mixes k l hs
 | 0,l,hs,bl,h,_ => by rw [List.eq_nil_of_length_eq_zero (l := l) (by omega)]; rfl
 | k + 1,l,hs,bl,h,hb => by
  have h1 : (l.take 64).length = 64 := by rw [List.length_take]; omega
  have hf := feed_full (l.take 64) hs bl 0 (by decide) (by omega)
  have hla : lay bl 0 (l.take 64) = l.take 64 := by
   have := lay_all (l.take 64) [] bl (by omega)
   simpa using this
  rw [hla] at hf
  have := feed_app ⟨hs,bl,0⟩ (l.take 64) (l.drop 64)
  rw [List.take_append_drop] at this
  rw [this,hf,feed_mixes k (l.drop 64) _ _ (by rw [List.length_drop]; omega) h1,mixes]
def tailN (N : Nat) : List Nat := 128 :: (List.replicate ((119 - N % 64) % 64) 0 ++ (List.range 8).map fun i => lb (N % 18446744073709551616) / 2 ^ (56 - 8 * i) % 256)
theorem u8_ofmod (m : Nat) : UInt8.ofNat (m % 256) = UInt8.ofNat m := u8mod m
theorem un8_tail (N : Nat) : un8 (tailN N) = 128 :: (List.replicate ((119 - N % 64) % 64) 0 ++ tlr (lb (N % 18446744073709551616)) 8) := by
 unfold un8 tailN tlr tb
 rw [List.map_cons,List.map_append,List.map_replicate,List.map_map]
 congr 2
 simp only [Nat.sub_self,List.replicate_zero,List.append_nil]
 apply List.map_congr_left
 intro i _
 exact u8_ofmod _
theorem shaD_mixes (l : List UInt8) {k : Nat} (hk : l.length + (tailN l.length).length = 64 * k) : shaD l = dgr (mixes k (l ++ un8 (tailN l.length)) H8) 8 := by
 have hh : (feed sh0 l).held = l.length % 64 := by
  have := feed_held l sh0_ok
  rw [this]
  show (0 + l.length) % 64 = _
  rw [Nat.zero_add]
 unfold shaD shaEnd z3 pz padN
 rw [← feed_app,← feed_app,hh]
 have e : l ++ ((128 :: List.replicate ((119 - l.length % 64) % 64) 0) ++ tlr (lb (l.length % 18446744073709551616)) 8) = l ++ un8 (tailN l.length) := by
  rw [un8_tail,List.cons_append]
 rw [e]
 congr 1
 exact feed_mixes k _ H8 _ (by rw [List.length_append]; unfold un8; rw [List.length_map]; exact hk) (by rw [List.length_replicate])
theorem tailN_len (N : Nat) : (N + (tailN N).length) % 64 = 0 := by
 unfold tailN
 rw [List.length_cons,List.length_append,List.length_replicate,List.length_map,List.length_range]
 omega
end Go.Proofs.YtojefiolcedigaaGreatDoor
namespace Go.Proofs.YtojefiolcedigaaGreatDoor
open K
set_option linter.unusedVariables false
theorem row_at (bl : List UInt8) : ∀ (n j : Nat),j < n → n ≤ 64 → rg (row bl n) j = wnext bl (row bl j) j
 | n + 1,j,h,hn => by
  rw [row]
  unfold rg
  rw [List.getD_eq_getElem?_getD,List.getElem?_set]
  by_cases hj : n = j
  ·subst hj
   rw [if_pos rfl,if_pos (by rw [row_len]; omega)]; rfl
  ·rw [if_neg hj,← List.getD_eq_getElem?_getD]
   exact row_at bl n j (by omega) (by omega)
theorem row_low (bl : List UInt8) {t j : Nat} (hj : j < t) (ht : t ≤ 64) : rg (row bl t) j = rg (row bl 64) j := by
 rw [row_at bl t j hj ht,row_at bl 64 j (by omega) (Nat.le_refl _)]
namespace I
noncomputable def goK {β : Type} (c : W8 → β) : List Nat → List Nat → List Nat → W8 → β
 | [],_,_,s => c s
 | k :: ks,bs,win,s =>
  fN (match bs with | b :: _ => b | [] => wn4 (win.getD 1 0) (win.getD 6 0) (win.getD 14 0) (win.getD 15 0)) fun w =>
  fN (frst k w s) fun f1 => fN ((f1 + scnd s) % 4294967296) fun a => fN ((s.d + f1) % 4294967296) fun e =>
  goK c ks bs.tail (w :: win) ⟨a,s.a,s.b,s.c,e,s.e,s.f,s.g⟩
def wds (bl : List UInt8) : List Nat := (List.range 16).map (be bl)
theorem goK_ok {β : Type} (c : W8 → β) (hs : List Nat) (bl : List UInt8) : ∀ (m t : Nat),t + m = 64 → goK c (Kc.drop t) ((wds bl).drop t) (((row bl 64).take t).reverse) (rv hs bl t) = c (rv hs bl 64)
 | 0,t,h => by
  obtain rfl : t = 64 := by omega
  rfl
 | m + 1,t,h => by
  have ht : t < 64 := by omega
  have hk : Kc.drop t = rg Kc t :: Kc.drop (t + 1) := by
   rw [List.drop_eq_getElem_cons (show t < Kc.length from ht)]
   unfold rg
   rw [List.getD_eq_getElem?_getD,List.getElem?_eq_getElem (show t < Kc.length from ht)]; rfl
  have hw : (match (wds bl).drop t with | b :: _ => b | [] => wn4 ((((row bl 64).take t).reverse).getD 1 0) ((((row bl 64).take t).reverse).getD 6 0) ((((row bl 64).take t).reverse).getD 14 0) ((((row bl 64).take t).reverse).getD 15 0)) = rg (row bl 64) t := by
   rw [row_at bl 64 t ht (Nat.le_refl _)]
   unfold wnext
   by_cases h16 : t < 16
   ·rw [if_pos h16,List.drop_eq_getElem_cons (show t < (wds bl).length by simp [wds]; omega)]
    simp [wds]
   ·rw [if_neg h16,List.drop_eq_nil_of_le (show (wds bl).length ≤ t by simp [wds]; omega)]
    have hg : ∀ i,i < 16 → (((row bl 64).take t).reverse).getD i 0 = rg (row bl t) (t - 1 - i) := fun i hi => by
     rw [row_low bl (show t - 1 - i < t by omega) (by omega)]
     unfold rg
     have hl : ((row bl 64).take t).length = t := by rw [List.length_take,row_len]; omega
     rw [List.getD_eq_getElem?_getD,List.getElem?_reverse (by omega),hl,List.getElem?_take,if_pos (by omega),List.getD_eq_getElem?_getD]
    simp only
    rw [hg 1 (by omega),hg 6 (by omega),hg 14 (by omega),hg 15 (by omega),show t - 1 - 1 = t - 2 by omega,show t - 1 - 6 = t - 7 by omega,show t - 1 - 14 = t - 15 by omega,show t - 1 - 15 = t - 16 by omega]
  rw [hk]
  unfold goK
  rw [fN_eq,fN_eq,fN_eq,fN_eq,hw]
  have hr : rg (row bl 64) t :: ((row bl 64).take t).reverse = ((row bl 64).take (t + 1)).reverse := by
   rw [List.take_succ_eq_append_getElem (show t < (row bl 64).length by rw [row_len]; omega),List.reverse_append]
   unfold rg
   rw [List.getD_eq_getElem?_getD,List.getElem?_eq_getElem (show t < (row bl 64).length by rw [row_len]; omega)]; rfl
  have hd : ((wds bl).drop t).tail = (wds bl).drop (t + 1) := by rw [List.tail_drop]
  rw [hr,hd]
  have := goK_ok c hs bl m (t + 1) (by omega)
  rw [rv_succ] at this
  rw [← rnd_def]
  exact this
def addW (x y : W8) : W8 := ⟨(x.a + y.a) % 4294967296,(x.b + y.b) % 4294967296,(x.c + y.c) % 4294967296,(x.d + y.d) % 4294967296,(x.e + y.e) % 4294967296,(x.f + y.f) % 4294967296,(x.g + y.g) % 4294967296,(x.h + y.h) % 4294967296⟩
theorem sm_add (x y : W8) : sm (w8l x) (w8l y) 8 = w8l (addW x y) := rfl
noncomputable def fW {β : Type} (x : W8) (c : W8 → β) : β :=
 fN x.a fun a => fN x.b fun b => fN x.c fun c' => fN x.d fun d => fN x.e fun e => fN x.f fun f => fN x.g fun g => fN x.h fun h => c ⟨a,b,c',d,e,f,g,h⟩
theorem fW_eq {β : Type} (x : W8) (c : W8 → β) : fW x c = c x := by simp only [fW,fN_eq]
noncomputable def wordsK {β : Type} (c : List Nat → List Nat → β) : Nat → List Nat → List Nat → β
 | 0,bs,acc => c acc bs
 | m + 1,bs,acc => match bs with
  | x :: y :: z :: v :: bs => fN (be4 x y z v) fun w => wordsK c m bs (acc ++ [w])
  | _ => c acc bs
theorem wordsK_ok {β : Type} (c : List Nat → List Nat → β) : ∀ (m : Nat) (bs acc : List Nat),4 * m ≤ bs.length → wordsK c m bs acc = c (acc ++ (List.range m).map fun i => be4 (bs.getD (4 * i) 0) (bs.getD (4 * i + 1) 0) (bs.getD (4 * i + 2) 0) (bs.getD (4 * i + 3) 0)) (bs.drop (4 * m))
 | 0,bs,acc,_ => by simp [wordsK]
 | m + 1,bs,acc,h => by
  match bs,h with
  | x :: y :: z :: v :: bs,h =>
   simp only [List.length_cons] at h
   rw [wordsK,fN_eq,wordsK_ok c m bs _ (by omega),List.range_succ_eq_map,List.map_cons,List.map_map,List.append_assoc]
   have e5 : (x :: y :: z :: v :: bs).drop (4 * (m + 1)) = bs.drop (4 * m) := by rw [show 4 * (m + 1) = 4 * m + 4 by omega]; rfl
   rw [e5]
   congr 2
noncomputable def blkK {β : Type} (c : W8 → β) : Nat → List Nat → W8 → β
 | 0,_,s => c s
 | k + 1,bs,s => wordsK (fun ws rest => goK (fun v => fW (addW s v) fun s' => blkK c k rest s') Kc ws [] s) 16 bs []
theorem un8_get {L : List Nat} (hL : ∀ b ∈ L,b < 256) {i : Nat} (h : i < 64) (hl : 64 ≤ L.length) : L.getD i 0 = bt4 (un8 (L.take 64)) i := by
 have h1 : i < L.length := by omega
 unfold bt4 un8
 rw [List.getD_eq_getElem?_getD,List.getD_eq_getElem?_getD,List.getElem?_map,List.getElem?_take,if_pos h,List.getElem?_eq_getElem h1]
 have := hL _ (List.getElem_mem h1)
 simp only [Option.map_some,Option.getD_some]
 simp
 omega
theorem blkK_ok {β : Type} (c : W8 → β) : ∀ (k : Nat) (L : List Nat) (s : W8),(∀ b ∈ L,b < 256) → L.length = 64 * k → ∃ v,blkK c k L s = c v ∧ w8l v = mixes k (un8 L) (w8l s)
 | 0,L,s,_,_ => ⟨s,rfl,rfl⟩
 | k + 1,L,s,hL,hl => by
  have hw : (List.range 16).map (fun i => be4 (L.getD (4 * i) 0) (L.getD (4 * i + 1) 0) (L.getD (4 * i + 2) 0) (L.getD (4 * i + 3) 0)) = wds (un8 (L.take 64)) := by
   unfold wds
   apply List.map_congr_left
   intro i hi
   have := List.mem_range.1 hi
   unfold be
   rw [un8_get hL (by omega) (by omega),un8_get hL (by omega) (by omega),un8_get hL (by omega) (by omega),un8_get hL (by omega) (by omega)]
  have hg := goK_ok (fun v => fW (addW s v) fun s' => blkK c k (L.drop 64) s') (w8l s) (un8 (L.take 64)) 64 0 rfl
  obtain ⟨v,h1,h2⟩ := blkK_ok c k (L.drop 64) (addW s (rv (w8l s) (un8 (L.take 64)) 64)) (fun b hb => hL b (List.mem_of_mem_drop hb)) (by rw [List.length_drop]; omega)
  refine ⟨v,?_,?_⟩
  ·unfold blkK
   rw [wordsK_ok _ 16 L [] (by omega),hw,List.nil_append]
   have e0 : rv (w8l s) (un8 (L.take 64)) 0 = s := rfl
   rw [List.drop_zero,List.drop_zero,List.take_zero,e0] at hg
   refine Eq.trans hg ?_
   rw [fW_eq]; exact h1
  ·rw [h2,mixes]
   have e1 : (un8 L).drop 64 = un8 (L.drop 64) := by unfold un8; rw [List.map_drop]
   have e2 : (un8 L).take 64 = un8 (L.take 64) := by unfold un8; rw [List.map_take]
   rw [e1,e2]
   unfold mixF
   rw [sm_add]
noncomputable def bytesK {β : Type} (c : List Nat → β) : Nat → Nat → List Nat → β
 | 0,_,acc => c acc
 | n + 1,x,acc => fN (x % 256) fun b => fN (x / 256) fun y => bytesK c n y (b :: acc)
theorem val_snoc (l : List UInt8) (b : UInt8) : val (l ++ [b]) = val l * 256 + b.toNat := by
 have h : ∀ (l : List UInt8) (a : Nat),strOf (l ++ [b]) a = strOf l a * 256 + b.toNat := by
  intro l
  induction l with
  | nil => intro a; rfl
  | cons x l ih => intro a; exact ih _
 exact h l 0
theorem bytesK_ok {β : Type} (c : List Nat → β) : ∀ (n : Nat) (l : List UInt8) (acc : List Nat),l.length = n → bytesK c n (val l) acc = c (l.map UInt8.toNat ++ acc)
 | 0,l,acc,h => by rw [List.eq_nil_of_length_eq_zero h]; rfl
 | n + 1,l,acc,h => by
  obtain ⟨l',b,rfl⟩ : ∃ l' b,l = l' ++ [b] := by
   rcases List.eq_nil_or_concat l with h0 | ⟨l',b,h0⟩
   ·rw [h0] at h; cases h
   ·exact ⟨l',b,by rw [h0]; simp⟩
  have hb : b.toNat < 256 := UInt8.toNat_lt b
  rw [bytesK,fN_eq,fN_eq,val_snoc,show (val l' * 256 + b.toNat) % 256 = b.toNat by omega,show (val l' * 256 + b.toNat) / 256 = val l' by omega,bytesK_ok c n l' _ (by rw [List.length_append] at h; simpa using h)]
  simp
noncomputable def catK {β : Type} : List (Nat × Nat) → List Nat → (List Nat → β) → β
 | [],acc,c => c acc
 | p :: r,acc,c => catK r acc fun acc' => bytesK c p.1 p.2 acc'
theorem catK_ok {β : Type} : ∀ (ss : List ByteArray) (acc : List Nat) (c : List Nat → β),catK (ss.map fun s => (s.size,val s.data.toList)) acc c = c ((cat ss).map UInt8.toNat ++ acc)
 | [],acc,c => rfl
 | s :: ss,acc,c => by
  rw [List.map_cons,catK,catK_ok ss acc]
  rw [bytesK_ok c s.size s.data.toList _ (by simp)]
  rw [← List.append_assoc,← List.map_append]
  rfl
def totK (l : List (Nat × Nat)) : Nat := l.foldr (fun p n => p.1 + n) 0
theorem totK_ok : ∀ (ss : List ByteArray),totK (ss.map fun s => (s.size,val s.data.toList)) = (cat ss).length
 | [] => rfl
 | s :: ss => by
  have ih := totK_ok ss
  unfold totK at *
  rw [List.map_cons,List.foldr_cons,ih]
  have : cat (s :: ss) = s.data.toList ++ cat ss := rfl
  rw [this,List.length_append]
  simp
def W0 : W8 := ⟨1779033703,3144134277,1013904242,2773480762,1359893119,2600822924,528734635,1541459225⟩
noncomputable def fB4 {β : Type} (x : Nat) (c : AV → β) : β :=
 fN (x / 16777216 % 256) fun p => fN (x / 65536 % 256) fun q => fN (x / 256 % 256) fun r => fN (x % 256) fun s => c (.node (.node (.int .u8 (.ofNat p)) (.int .u8 (.ofNat q))) (.node (.int .u8 (.ofNat r)) (.int .u8 (.ofNat s))))
def t4 (x : Nat) : AV := .node (.node (.int .u8 (.ofNat (x / 16777216 % 256))) (.int .u8 (.ofNat (x / 65536 % 256)))) (.node (.int .u8 (.ofNat (x / 256 % 256))) (.int .u8 (.ofNat (x % 256))))
theorem fB4_eq {β : Type} (x : Nat) (c : AV → β) : fB4 x c = c (t4 x) := by simp only [fB4,fN_eq,t4]
def t32 (v : W8) : AV := .node (.node (.node (t4 v.a) (t4 v.b)) (.node (t4 v.c) (t4 v.d))) (.node (.node (t4 v.e) (t4 v.f)) (.node (t4 v.g) (t4 v.h)))
noncomputable def outK {β : Type} (c : AV → β) (v : W8) : β :=
 fB4 v.a fun a => fB4 v.b fun b => fB4 v.c fun c' => fB4 v.d fun d => fB4 v.e fun e => fB4 v.f fun f => fB4 v.g fun g => fB4 v.h fun h =>
 c (.node (.node (.node a b) (.node c' d)) (.node (.node e f) (.node g h)))
theorem outK_eq {β : Type} (c : AV → β) (v : W8) : outK c v = c (t32 v) := by simp only [outK,fB4_eq,t32]
noncomputable def shaK {β : Type} (l : List (Nat × Nat)) (c : AV → β) : β := fN (totK l) fun N => catK l (tailN N) fun L => blkK (outK c) (L.length / 64) L W0
theorem shaK_ok {β : Type} (ss : List ByteArray) (c : AV → β) : ∃ v,shaK (ss.map fun s => (s.size,val s.data.toList)) c = c (t32 v) ∧ shaD (cat ss) = dgr (w8l v) 8 := by
 have hl : ((cat ss).map UInt8.toNat ++ tailN (cat ss).length).length = 64 * (((cat ss).map UInt8.toNat ++ tailN (cat ss).length).length / 64) := by
  have := tailN_len (cat ss).length
  rw [List.length_append,List.length_map]; omega
 have hb : ∀ b ∈ (cat ss).map UInt8.toNat ++ tailN (cat ss).length,b < 256 := by
  intro b hb
  rcases List.mem_append.1 hb with hb | hb
  ·obtain ⟨x,_,rfl⟩ := List.mem_map.1 hb
   exact UInt8.toNat_lt x
  ·unfold tailN at hb
   rcases List.mem_cons.1 hb with rfl | hb
   ·decide
   ·rcases List.mem_append.1 hb with hb | hb
    ·rw [(List.mem_replicate.1 hb).2]; decide
    ·obtain ⟨i,_,rfl⟩ := List.mem_map.1 hb
     exact Nat.mod_lt _ (by decide)
 obtain ⟨v,h1,h2⟩ := blkK_ok (outK c) _ _ W0 hb hl
 refine ⟨v,?_,?_⟩
 ·unfold shaK
  rw [fN_eq,totK_ok,catK_ok,h1,outK_eq]
 ·have hu : un8 ((cat ss).map UInt8.toNat ++ tailN (cat ss).length) = cat ss ++ un8 (tailN (cat ss).length) := by
   unfold un8
   rw [List.map_append,List.map_map]
   congr 1
   conv => rhs; rw [← List.map_id (cat ss)]
   apply List.map_congr_left
   intro b _
   simp
  rw [hu] at h2
  have hk : (cat ss).length + (tailN (cat ss).length).length = 64 * (((cat ss).map UInt8.toNat ++ tailN (cat ss).length).length / 64) := by
   rw [List.length_append,List.length_map] at hl ⊢; exact hl
  rw [shaD_mixes (cat ss) hk,h2]
  rfl
noncomputable def tabL (t : AV) : List Nat → Nat → Bool
 | [],_ => true
 | k :: ks,i => (match cget 6 t i with | .int .u32 (.ofNat m) => Nat.beq m k | _ => false) && tabL t ks (i + 1)
theorem tabL_ok (t : AV) : ∀ (ks : List Nat) (i : Nat),tabL t ks i = true → ∀ j,j < ks.length → cget 6 t (i + j) = .int .u32 (.ofNat (rg ks j))
 | k :: ks,i,h,j,hj => by
  rw [tabL,Bool.and_eq_true] at h
  cases j with
  | zero =>
   have h1 := h.1
   split at h1
   ·rename_i m hm
    rw [Nat.add_zero,hm,beqn_iff.1 h1]; rfl
   ·cases h1
  | succ j =>
   have := tabL_ok t ks (i + 1) h.2 j (by simpa using hj)
   rw [show i + (j + 1) = i + 1 + j by omega,this]; rfl
noncomputable def strsK (d : Nat) (t : AV) : Nat → Nat → Option (List (Nat × Nat))
 | 0,_ => some []
 | k + 1,off => match cget d t off with
  | .str m x => match strsK d t k (off + 1) with
   | some l => some ((m,x) :: l)
   | none => none
  | _ => none
theorem strsK_ok {σ : Sg} {d : Nat} {t : AV} {cs : Array Value} : ∀ (k off : Nat) (l : List (Nat × Nat)),(∀ i,i < k → ∃ v,cs[off + i]? = some v ∧ Rel σ (cget d t (off + i)) v) → strsK d t k off = some l →
  ∃ ss : List ByteArray,ss.length = k ∧ l = ss.map (fun s => (s.size,val s.data.toList)) ∧ ∀ i,i < k → cs[off + i]? = some (.string (sat ss i))
 | 0,off,l,_,h => by
  simp only [strsK,Option.some.injEq] at h
  exact ⟨[],rfl,by rw [← h]; rfl,fun i hi => absurd hi (Nat.not_lt_zero i)⟩
 | k + 1,off,l,hc,h => by
  unfold strsK at h
  split at h
  ·rename_i m x hm
   split at h
   ·rename_i l' hl
    simp only [Option.some.injEq] at h
    obtain ⟨v,h1,h2⟩ := hc 0 (Nat.succ_pos k)
    rw [Nat.add_zero] at h1 h2
    rw [hm] at h2
    cases h2 with
    | str s _ _ hn hx =>
    obtain ⟨ss,e1,e2,e3⟩ := strsK_ok k (off + 1) l' (fun i hi => by
     have := hc (i + 1) (by omega)
     rw [show off + (i + 1) = off + 1 + i by omega] at this; exact this) hl
    refine ⟨s :: ss,by rw [List.length_cons,e1],by rw [← h,e2,hn,hx]; rfl,fun i hi => ?_⟩
    cases i with
    | zero => exact h1
    | succ i => rw [show off + (i + 1) = off + 1 + i by omega]; exact e3 i (by omega)
   ·cases h
  ·cases h
noncomputable def sumX (fn : Nat) : KF := fun f args h nx =>
 bif Nat.beq f fn then match cget HD h 0 with
  | .cells _ n0 _ t0 => bif Nat.beq n0 64 && tabL t0 Kc 0 then match args with
   | [.nils] => shaK [] fun d => some (.agg 32 d,h,nx)
   | [.sl b off len lb 1] => match cget HD h b with
    | .cells _ n _ t => bif Nat.ble (off + len) n && Nat.ble len 1000000 then match strsK (lg n) t len off with
     | some l => shaK l fun d => some (.agg 32 d,h,nx)
     | none => none
     else none
    | _ => none
   | _ => none
   else none
  | _ => none
 else none
structure ShaSum (P : Program) (fn : Nat) : Prop where
 has : ∃ f c,P.funcs[fn]? = some f ∧ (f.name == "runtime.NumGoroutine") = false ∧ f.body = some c
 sum : ∀ (la : Option Addr) (cap : Nat) (ss : List ByteArray) (Rl : List (Nat × Obj)) (kt : Array Value) (t0 : TypeId) (fr0 : Nat × Nat) (w : World),InS Rl la ss.length (fun j => .string (sat ss j)) → ss.length ≤ maxLen →
  Has w ((0,.cells kt t0 fr0) :: Rl) → KT kt → Calls P fn #[.slice la ss.length cap] w fun e w' => e = .returned (.agg (bv (shaD (cat ss)))) ∧ Ext [] w w'
theorem t32_get (v : W8) : ∀ i,i < 32 → cget 5 (t32 v) i = .int .u8 (Int.ofNat ((dgr (w8l v) 8).getD i 0).toNat)
 | 0,_ => rfl
 | 1,_ => rfl
 | 2,_ => rfl
 | 3,_ => rfl
 | 4,_ => rfl
 | 5,_ => rfl
 | 6,_ => rfl
 | 7,_ => rfl
 | 8,_ => rfl
 | 9,_ => rfl
 | 10,_ => rfl
 | 11,_ => rfl
 | 12,_ => rfl
 | 13,_ => rfl
 | 14,_ => rfl
 | 15,_ => rfl
 | 16,_ => rfl
 | 17,_ => rfl
 | 18,_ => rfl
 | 19,_ => rfl
 | 20,_ => rfl
 | 21,_ => rfl
 | 22,_ => rfl
 | 23,_ => rfl
 | 24,_ => rfl
 | 25,_ => rfl
 | 26,_ => rfl
 | 27,_ => rfl
 | 28,_ => rfl
 | 29,_ => rfl
 | 30,_ => rfl
 | 31,_ => rfl
 | n + 32,h => absurd h (by omega)
theorem t32_rel {σ : Sg} {v : W8} {l : List UInt8} (h : l = dgr (w8l v) 8) : Rel σ (.agg 32 (t32 v)) (.agg (bv l)) := by
 have hl : l.length = 32 := by rw [h]; exact dgr_len (Nat.le_refl 8)
 refine .agg 32 _ _ ((bv_size _).trans hl) (fun i u hu => all_bv _ _ (List.mem_of_getElem? (by rw [Array.getElem?_toList]; exact hu))) (fun i u hu => ?_)
 have hi : i < 32 := by
  have := (Array.getElem?_eq_some_iff.1 hu).1
  rw [bv_size,hl] at this; exact this
 rw [bv_get hl hi] at hu
 simp only [Option.some.injEq] at hu
 show Rel σ (cget 5 (t32 v) i) u
 rw [t32_get v i hi,← hu,h]
 exact .int _ _
theorem sumX_ok {P : Program} {G fn : Nat} (S : ShaSum P fn) (hG : 0 < G) : XOk P G (sumX fn) := by
 intro f args h nx v h' nx' hh
 unfold sumX at hh
 cases hf : Nat.beq f fn with
 | false => simp [hf] at hh
 | true =>
  have := beqn_iff.1 hf
  subst this
  simp only [hf,cond_true] at hh
  intro σ w0 B w vs H hg hr
  unfold CalleeOk
  rw [if_pos (by omega),show 2 * f / 2 = f by omega]
  refine ⟨S.has,?_⟩
  split at hh
  ·rename_i ty0 n0 ro0 t0 hc0
   cases hz : (Nat.beq n0 64 && tabL t0 Kc 0) with
   | false => simp [hz] at hh
   | true =>
    simp only [hz,cond_true] at hh
    rw [Bool.and_eq_true] at hz
    have hn0 := beqn_iff.1 hz.1
    subst hn0
    obtain ⟨size0,hs0⟩ := hg 0 hG
    obtain ⟨cs0,fr0,tt0,g1,g2,⟨_,g3,_⟩,g4,_⟩ := H.cells hs0 hc0
    have hK : KT cs0 := fun t ht => by
     obtain ⟨u,u1,u2,u3⟩ := g4 t ht
     have hq := tabL_ok t0 Kc 0 hz.2 t ht
     rw [Nat.zero_add] at hq u1
     rw [show lg 64 = 6 from rfl,hq] at u3
     cases u3
     exact u1
    have fin : ∀ (la : Option Addr) (cap : Nat) (ss : List ByteArray) (Rl : List (Nat × Obj)),InS Rl la ss.length (fun j => .string (sat ss j)) → ss.length ≤ maxLen → Has w Rl → vs = [.slice la ss.length cap] →
      shaK (ss.map fun s => (s.size,val s.data.toList)) (fun d => some (AV.agg 32 d,h,nx)) = some (v,h',nx') →
      Calls P f vs.toArray w fun e w' => ∃ σ' v',SubX nx σ σ' ∧ Dk nx h h' ∧ nx ≤ nx' ∧ e = .returned v' ∧ Rel σ' v v' ∧ HS σ' h' nx' w0 B w' := by
     intro la cap ss Rl hI hn hR hv hk
     obtain ⟨x,k1,k2⟩ := shaK_ok ss (fun d => some (AV.agg 32 d,h,nx))
     rw [k1] at hk
     simp only [Option.some.injEq,Prod.mk.injEq] at hk
     obtain ⟨rfl,rfl,rfl⟩ := hk
     rw [hv]
     refine (S.sum la cap ss Rl cs0 tt0 fr0 w hI hn (fun e he => by
      rcases List.mem_cons.1 he with rfl | he
      ·exact g1
      ·exact hR e he) hK).mono ?_
     rintro e w' ⟨rfl,hE⟩
     exact ⟨σ,_,SubX.refl _ _,Dk.refl _ _,Nat.le_refl _,rfl,t32_rel k2,H.more (fun k hk => hE.block k hk (by simp)) hE.size hE.os hE.tape hE.output⟩
    obtain ⟨hrl,hri⟩ := hr
    split at hh
    ·match vs,hrl with
     | [u],_ =>
      have := hri 0 _ u rfl rfl
      cases this
      exact fin none 0 [] [] (fun h => absurd h (by simp)) (by simp [maxLen]) (fun _ h => by cases h) rfl hh
    ·rename_i b off len lb
     match vs,hrl with
     | [u],_ =>
      have hu := hri 0 _ u rfl rfl
      cases hu with
      | sl _ _ _ _ _ r base size o cap q1 q2 q3 q4 q5 =>
      split at hh
      ·rename_i ty n ro t hc
       cases hq : (Nat.ble (off + len) n && Nat.ble len 1000000) with
       | false => simp [hq] at hh
       | true =>
        simp only [hq,cond_true] at hh
        rw [Bool.and_eq_true] at hq
        have hle := ble_iff.1 hq.1
        have hle2 := ble_iff.1 hq.2
        obtain ⟨cs,fr,tt,p1,p2,⟨rfl,p3,_⟩,p4,_⟩ := H.cells q1 hc
        split at hh
        ·rename_i l hl
         obtain ⟨ss,e1,e2,e3⟩ := strsK_ok (σ := σ) (cs := cs) len off l (fun i hi => by
          obtain ⟨u,u1,_,u3⟩ := p4 (off + i) (by omega)
          exact ⟨u,by rw [Nat.zero_add] at u1; exact u1,u3⟩) hl
         subst e2
         refine fin (some ⟨r,o,none⟩) cap ss [(r,.cells cs tt fr)] (fun h0 => ⟨r,o,cs,tt,fr,rfl,List.mem_singleton.2 rfl,fun j hj => ?_⟩) (by rw [e1]; unfold maxLen; omega) (fun e he => by rw [List.mem_singleton.1 he]; exact p1) (by rw [e1]) hh
         have ho := q4 (by omega)
         rw [ho,Nat.zero_add]
         exact e3 j (by omega)
        ·cases hh
      ·cases hh
    ·cases hh
  ·cases hh
end I
theorem shaSumI : I.ShaSum Tryz.prog 38 := ⟨⟨_,_,Tryz.func38,rfl,rfl⟩,fun la cap ss Rl kt t0 fr0 w hI hn hR hK => shaSum la cap ss Rl w hI hn hR hK⟩
end Go.Proofs.YtojefiolcedigaaGreatDoor
namespace Go.Proofs.YtojefiolcedigaaGreatDoor
def roundsL : List Int := [1116352408,1899447441,3049323471,3921009573,961987163,1508970993,2453635748,2870763221,3624381080,310598401,607225278,1426881987,1925078388,2162078206,2614888103,3248222580,3835390401,4022224774,264347078,604807628,770255983,1249150122,1555081692,1996064986,2554220882,2821834349,2952996808,3210313671,3336571891,3584528711,113926993,338241895,666307205,773529912,1294757372,1396182291,1695183700,1986661051,2177026350,2456956037,2730485921,2820302411,3259730800,3345764771,3516065817,3600352804,4094571909,275423344,430227734,506948616,659060556,883997877,958139571,1322822218,1537002063,1747873779,1955562222,2024104815,2227730452,2361852424,2428436474,2756734187,3204031479,3329325298]
theorem closed_tabA {P : Program} {X : I.KF} {N k f : Nat} {kd : IntKind} {zs : List Int} (hX : I.XOk P 1 X) (hr : I.isTrue (I.callA P 1 X N k (2 * f) [] (I.tabH kd zs) 1) = true) {w : World} {t : TypeId} {fr : Nat × Nat}
  (hb : w.heap[0]? = some (.cells (zs.map fun z => Value.int kd z).toArray t fr)) : Calls P f #[] w fun e w' => e = .returned (.bool true) ∧ K.Ext [] w w' := by
 unfold I.isTrue at hr
 split at hr
 ·rename_i h' nx' hrun
  have hG : I.GRel (I.tabS zs.length) 1 := fun g hg => by
   have : g = 0 := by omega
   subst this
   exact ⟨zs.length,rfl⟩
  have hc := I.callA_ok hX k (2 * f) [] (I.tabH kd zs) 1 _ _ _ hrun (I.tabS zs.length) w I.tabB w [] (I.tab_start hb) hG ⟨rfl,fun i a v ha => by simp at ha⟩
  unfold I.CalleeOk at hc
  rw [if_pos (by omega),show 2 * f / 2 = f by omega] at hc
  refine hc.2.mono ?_
  rintro e w' ⟨σ',v',_,_,_,rfl,hr,H⟩
  cases hr
  exact ⟨rfl,H.os,H.tape,H.output,H.size,fun k hk _ => H.block k hk (fun h => h)⟩
 ·cases hr
set_option maxRecDepth 1000000 in
theorem awake12_run : I.isTrue (I.callA Tryz.prog 1 (I.sumX 38) 10000 100 (2 * 6) [] (I.tabH .u32 roundsL) 1) = true := by kernel_rfl
theorem awake12 {w : World} {t : TypeId} {fr : Nat × Nat} (hb : w.heap[0]? = some (.cells (roundsL.map fun z => Value.int .u32 z).toArray t fr)) : Calls Tryz.prog 6 #[] w fun e w' => e = .returned (.bool true) ∧ K.Ext [] w w' := closed_tabA (I.sumX_ok shaSumI (by decide)) awake12_run hb
end Go.Proofs.YtojefiolcedigaaGreatDoor
