/- Texts on which the proof of this claim stands: I8, IM, I9, I10, I11, I12, I13, I14, I15, I16, I17, I18, I19, I20. -/
import Derived.Test.YtohjpggjgomgoaaGreatDoorP1
import Derived.MapKept
import Derived.Lib.Builder
import Derived.Lib.UnsafeStr
import Derived.Lib.Bytealg
import Derived.RangeFuncLeaves
import Derived.OrdersIn
import Derived.Sort.LoopGhostIn
namespace Go.Proofs.YtohjpggjgomgoaaGreatDoor
namespace I
open K (one aggB run_underlying' run_sizeOf' add_none run_v)
set_option linter.unusedVariables false
def isSh : BinOp → Bool
 | .shl | .shr => true
 | _ => false
def abin (P : Program) (op : BinOp) (ty : TypeId) (x y : AV) : Option AV :=
 match x,y with
 | .int k a,.int k' b => bif isSh op then shI op k a b else bif Nat.beq (kn k) (kn k') then binI op k a b else none
 | .str n a,.str m b => binS op n a m b
 | x,y => match aeq P ty x y with
  | some b => eqOp op b
  | none => none
def placeOf (P : Program) (fs : Array Field) (i : Nat) : Option (Nat × Nat) :=
 match fs[i]? with
 | some f => match P.info? f.type with
  | some inf => some (f.offset,inf.size)
  | none => none
 | none => none
def isItf : TypeDesc → Bool
 | .interface _ => true
 | _ => false
def apure (P : Program) (ρ : Operand → AV) (o : Oper) : Option AV :=
 match o.op with
 | .move x => some (ρ x)
 | .assign x => some (ρ x)
 | .pick c a b => match ρ c with
  | .bool t => some (bif t then ρ a else ρ b)
  | _ => none
 | .nilCheck x => match ρ x with
  | .ptr b off => some (.ptr b off)
  | .fn f a b => some (.fn f a b)
  | .ifc t v => some (.ifc t v)
  | _ => none
 | .binOp op ty x y _ => abin P op ty (ρ x) (ρ y)
 | .unOp .not _ x => match ρ x with
  | .bool b => some (.bool (!b))
  | _ => none
 | .unOp .neg _ x => match ρ x with
  | .int k n => some (.int k (wrapF k (0 - n)))
  | _ => none
 | .unOp .xor _ x => match ρ x with
  | .int k n => bif k.signed then none else binI .xor k (maxN k) n
  | _ => none
 | .convert src dst x => match P.underlying src,P.underlying dst,ρ x with
  | some _,some (.int k'),.int _ n => some (.int k' (wrapF k' n))
  | some _,some .string,.str n s => some (.str n s)
  | _,_,_ => none
 | .makeInterface t x => bif P.concrete t then some (.ifc t (ρ x)) else none
 | .makeFunc (.func f) first caps => some (.fn f (ofList (first.toList.map ρ)) (ofList (caps.toList.map ρ)))
 | .slice ty x lo hi none => match ρ x with
  | .ptr _ _ => none
  | a => asliceA P ty a (lo.map ρ) (hi.map ρ)
 | .fieldAddr s x f => match P.underlying s,ρ x with
  | some (.struct fs),.ptr b off => match fs[f]? with
   | some fl => match P.info? fl.type with
    | some inf => bif Nat.beq inf.size 0 then none else some (.ptr b (off + fl.offset))
    | none => none
   | none => none
  | _,_ => none
 | .field s x f => match P.underlying s,ρ x with
  | some (.struct fs),.agg n t => match fs[f]? with
   | some fl => apartA P fl.type n t fl.offset
   | none => none
  | _,_ => none
 | .indexAddr ty x ix => match P.underlying ty,ρ x,ρ ix with
  | some (.slice e),.sl b off len _ sz,.int _ (.ofNat i) => match P.info? e with
   | some inf => bif Nat.beq inf.size sz && Nat.blt i len then some (.ptr b (off + i * sz)) else none
   | none => none
  | some (.array len e),.ptr b off,.int _ (.ofNat i) => match P.info? e with
   | some inf => bif Nat.blt i len then some (.ptr b (off + i * inf.size)) else none
   | none => none
  | _,_,_ => none
 | .index ty x ix => match P.underlying ty,ρ x,ρ ix with
  | some .string,.str n s,.int _ (.ofNat i) => bif Nat.blt i n then some (.int .u8 (.ofNat (sbyte n s i))) else none
  | some (.array len e),.agg n t,.int _ (.ofNat i) => match P.info? e with
   | some inf => bif Nat.blt i len then apartA P e n t (i * inf.size) else none
   | none => none
  | _,_,_ => none
 | .extract t i => match ρ t with
  | .tup l => (toList l)[i]?
  | _ => none
 | .build t ps => match zeroA P t,P.underlying t with
  | .agg n z,some (.struct fs) => match fillA (placeOf P fs) n (ps.toList.map fun p => (p.1,ρ p.2)) z with
   | some u => bif (fs.all fun f => (P.info? f.type).isSome) then some (.agg n u) else none
   | none => none
  | .agg n z,some (.array _ e) => match P.info? e with
   | some inf => match fillA (fun i => some (i * inf.size,inf.size)) n (ps.toList.map fun p => (p.1,ρ p.2)) z with
    | some u => some (.agg n u)
    | none => none
   | none => none
  | _,_ => none
 | .call ⟨.builtin .len,⟨[x]⟩,⟨[ty]⟩⟩ => match P.underlying ty,ρ x with
  | some .string,.str n _ => some (.int .i64 (.ofNat n))
  | some (.slice _),.sl _ _ n _ _ => some (.int .i64 (.ofNat n))
  | some (.slice _),.nils => some (.int .i64 0)
  | some (.map _ _),.nilm => some (.int .i64 0)
  | some (.array n _),_ => some (.int .i64 (.ofNat n))
  | _,_ => none
 | .call ⟨.builtin .max,⟨[x,y]⟩,_⟩ => match ρ x,ρ y with
  | .int k a,.int _ b => some (.int k (bif ilt a b then b else a))
  | _,_ => none
 | .call ⟨.builtin .min,⟨[x,y]⟩,_⟩ => match ρ x,ρ y with
  | .int k a,.int _ b => some (.int k (bif ilt b a then b else a))
  | _,_ => none
 | .call ⟨.builtin .unsafeSliceData,⟨[x]⟩,_⟩ => match ρ x with
  | .sl b off _ lb _ => bif Nat.beq lb 0 then none else some (.ptr b off)
  | .nils => some .nilp
  | _ => none
 | .slice ty x lo (some hi) (some mx) => match P.underlying ty,ρ x,bndA (lo.map ρ) 0,bndA (some (ρ hi)) 0,bndA (some (ρ mx)) 0 with
  | some (.slice e),.sl b off len lb sz,some l,some h,some m => match P.info? e with
   | some inf => bif Nat.beq inf.size sz && (Nat.ble l h && (Nat.ble h m && Nat.ble m lb)) then some (.sl b (off + l * sz) (h - l) (m - l) sz) else none
   | none => none
  | _,_,_,_,_ => none
 | .typeAssert x _ t false => match P.underlying t,ρ x with
  | some d,.ifc t' v => bif isItf d || !(Nat.beq t' t) then none else some v
  | _,_ => none
 | .call ⟨.builtin .cap,⟨[x]⟩,⟨[ty]⟩⟩ => match P.underlying ty,ρ x with
  | some (.slice _),.nils => some (.int .i64 0)
  | _,_ => none
 | _ => none
section
variable {P : Program} {σ : Sg} {w : World}
theorem run_bounds3 {len cap l h m : Nat} {lo : Option AV} {hi mx : AV} {lo' : Option Value} {hi' mx' : Value} (hl : bndA lo 0 = some l) (hh : bndA (some hi) 0 = some h) (hm : bndA (some mx) 0 = some m) (h1 : l ≤ h) (h2 : h ≤ m) (h3 : m ≤ cap)
  (rl : ∀ a v,lo = some a → lo' = some v → Rel σ a v) (nl : lo.isSome = lo'.isSome) (rh : Rel σ hi hi') (rm : Rel σ mx mx') :
  (Instr.sliceBounds true len cap lo' (some hi') (some mx')).run P w = .ok (l,h,m) w := by
 have key : ∀ (a : AV) (v : Value) (n : Nat),bndA (some a) 0 = some n → Rel σ a v → ∃ k,v = .int k (.ofNat n) := by
  intro a v n hb hr
  unfold bndA at hb
  split at hb
  ·rename_i he; cases he
  ·rename_i k q he
   simp only [Option.some.injEq] at he hb
   subst he; subst hb
   cases hr with
   | int _ _ => exact ⟨k,rfl⟩
  ·cases hb
 obtain ⟨k1,rfl⟩ := key hi hi' h hh rh
 obtain ⟨k2,rfl⟩ := key mx mx' m hm rm
 unfold Instr.sliceBounds
 cases lo with
 | none =>
  cases lo' with
  | none =>
   simp only [bndA,Option.some.injEq] at hl
   subst hl
   simp [run_sliceBound h2,run_sliceBound h3]
  | some v => simp at nl
 | some a =>
  cases lo' with
  | none => simp at nl
  | some v =>
   obtain ⟨k3,rfl⟩ := key a v l hl (rl a v rfl rfl)
   simp [run_sliceBound h1,run_sliceBound h2,run_sliceBound h3]
theorem abin_ok {op : BinOp} {ty : TypeId} {x y a : AV} {vx vy : Value} (h : abin P op ty x y = some a) (hx : Rel σ x vx) (hy : Rel σ y vy) :
  ∃ v,Rel σ a v ∧ (binOp op ty vx vy).run P w = .ok v w ∧ ∀ p q,(eqGuard op ty p q vx vy).run P w = .ok () w := by
 unfold abin at h
 split at h
 ·rename_i k m k' n
  cases hx; cases hy
  have hg : ∀ p q,(eqGuard op ty p q (Value.int k m) (Value.int k' n)).run P w = .ok () w := fun p q => by cases op <;> rfl
  cases hs : isSh op with
  | true =>
   simp only [hs,cond_true] at h
   obtain ⟨v,h1,h2⟩ := shI_ok (P := P) (σ := σ) (w := w) (ty := ty) (k' := k') h
   exact ⟨v,h1,h2,hg⟩
  | false =>
   simp only [hs,cond_false] at h
   cases hk : Nat.beq (kn k) (kn k') with
   | false => simp [hk] at h
   | true =>
    simp only [hk,cond_true] at h
    have := kn_inj hk
    subst this
    obtain ⟨v,h1,h2⟩ := binI_ok (P := P) (σ := σ) (w := w) (ty := ty) h
    exact ⟨v,h1,h2,hg⟩
 ·cases hx with
  | str s _ _ hn hs =>
  cases hy with
  | str t _ _ hm ht =>
  subst hn; subst hs; subst hm; subst ht
  obtain ⟨v,h1,h2⟩ := binS_ok (P := P) (σ := σ) (w := w) (ty := ty) h
  exact ⟨v,h1,h2,fun p q => by cases op <;> rfl⟩
 ·split at h
  ·rename_i b hb
   obtain ⟨h1,h2,h3⟩ := aeq_ok (w := w) hb hx hy
   obtain ⟨v,h4,h5⟩ := run_eqOp (P := P) (w := w) (σ := σ) h h2 h1
   exact ⟨v,h4,h5,h3 op⟩
  ·cases h
theorem ofList_rel {ρ : Operand → AV} {ev : Operand → Value} (hρ : ∀ x,Rel σ (ρ x) (ev x)) (xs : Array Operand) :
  (toList (ofList (xs.toList.map ρ))).length = (xs.map ev).size ∧ ∀ (i : Nat) a v,(toList (ofList (xs.toList.map ρ)))[i]? = some a → (xs.map ev)[i]? = some v → Rel σ a v := by
 rw [toList_ofList]
 refine ⟨by simp,fun i a v ha hv => ?_⟩
 simp only [List.getElem?_map,Option.map_eq_some_iff,Array.getElem?_map] at ha hv
 obtain ⟨x,h1,rfl⟩ := ha
 obtain ⟨y,h2,rfl⟩ := hv
 have h1' : xs[i]? = some x := by simpa using h1
 rw [h1'] at h2
 simp only [Option.some.injEq] at h2
 subst h2
 exact hρ x
theorem parts_rel {ρ : Operand → AV} {ev : Operand → Value} (hρ : ∀ x,Rel σ (ρ x) (ev x)) (ps : Array (Nat × Operand)) :
  (ps.toList.map fun p => (p.1,ρ p.2)).length = (ps.map fun x => match x with | (i,x) => (i,ev x)).toList.length ∧
  ∀ (i : Nat) p q,(ps.toList.map fun p => (p.1,ρ p.2))[i]? = some p → (ps.map fun x => match x with | (i,x) => (i,ev x)).toList[i]? = some q → p.1 = q.1 ∧ Rel σ p.2 q.2 := by
 refine ⟨by simp,fun i p q hp hq => ?_⟩
 simp only [List.getElem?_map,Option.map_eq_some_iff,Array.toList_map] at hp hq
 obtain ⟨x,h1,rfl⟩ := hp
 obtain ⟨y,h2,rfl⟩ := hq
 rw [h1] at h2
 simp only [Option.some.injEq] at h2
 subst h2
 exact ⟨rfl,hρ x.2⟩
theorem run_places {fs : Array Field} (h : (fs.all fun f => (P.info? f.type).isSome) = true) :
  ∃ pl : Array (Nat × Nat),(fs.mapM fun f => do pure (f.offset,← sizeOf f.type) : Sem _).run P w = .ok pl w ∧ ∀ i,pl[i]? = placeOf P fs i := by
 have key : ∀ (l : List Field),(∀ f ∈ l,(P.info? f.type).isSome = true) → ∃ pl : List (Nat × Nat),(l.mapM fun f => do pure (f.offset,← sizeOf f.type) : Sem _).run P w = .ok pl w ∧
   ∀ i : Nat,pl[i]? = (l[i]?).bind fun f => (P.info? f.type).map fun inf => (f.offset,inf.size) := by
  intro l
  induction l with
  | nil => intro _; exact ⟨[],rfl,fun i => by simp⟩
  | cons f l ih =>
   intro hl
   obtain ⟨pl,h1,h2⟩ := ih (fun g hg => hl g (List.mem_cons_of_mem _ hg))
   obtain ⟨inf,hi⟩ := Option.isSome_iff_exists.1 (hl f (List.mem_cons_self ..))
   refine ⟨(f.offset,inf.size) :: pl,?_,fun i => ?_⟩
   ·rw [List.mapM_cons]
    simp only [Sem.run_bind,run_sizeOf' hi,Result.andThen_ok,Sem.run_pure,h1]
   ·cases i with
    | zero => simp [hi]
    | succ i => simpa using h2 i
 obtain ⟨pl,h1,h2⟩ := key fs.toList (fun f hf => by
  have := Array.all_eq_true_iff_forall_mem.1 h f (Array.mem_toList_iff.1 hf)
  exact this)
 refine ⟨pl.toArray,?_,fun i => ?_⟩
 ·rw [Array.mapM_eq_mapM_toList]
  simp only [map_eq_pure_bind,Sem.run_bind,h1,Result.andThen_ok,Sem.run_pure]
 ·simp only [List.getElem?_toArray,h2 i,placeOf]
  rw [show fs.toList[i]? = fs[i]? by simp]
  cases fs[i]? with
  | none => rfl
  | some f => simp only [Option.bind_some]; cases P.info? f.type <;> rfl
theorem run_sliceData {tys : Array TypeId} {ty : TypeId} {a : Addr} {n c : Nat} (hc : ¬ c = 0) : (Builtin.unsafeSliceData_ tys ty #[.slice (some a) n c]).run P w = .ok (.pointer (some a)) w := by
 show (if c ≠ 0 then pure (Value.pointer (some a)) else _ : Sem Value).run P w = _
 rw [if_pos hc]; rfl
theorem run_sliceData0 {tys : Array TypeId} {ty : TypeId} {n c : Nat} : (Builtin.unsafeSliceData_ tys ty #[.slice none n c]).run P w = .ok (.pointer none) w := rfl
set_option maxHeartbeats 2000000 in
theorem apure_ok {ρ : Operand → AV} {ev : Operand → Value} {o : Oper} {a : AV} (hρ : ∀ x,Rel σ (ρ x) (ev x)) (h : apure P ρ o = some a) :
  ∃ v,Rel σ a v ∧ (execOp ev o).run P w = .ok (.value v) w := by
 obtain ⟨dst,op,oty,pos,after,guard⟩ := o
 unfold apure at h
 dsimp only at h
 split at h
 ·rename_i x
  simp only [Option.some.injEq] at h; subst h
  exact ⟨ev x,hρ x,by simp [execOp]⟩
 ·rename_i x
  simp only [Option.some.injEq] at h; subst h
  exact ⟨ev x,hρ x,by simp [execOp]⟩
 ·rename_i c x y
  split at h
  ·rename_i t ht
   simp only [Option.some.injEq] at h; subst h
   have hc := hρ c
   rw [ht] at hc
   generalize hcv : ev c = cv at hc
   cases hc
   cases t with
   | true => exact ⟨ev x,hρ x,by simp [execOp,hcv,asBool]⟩
   | false => exact ⟨ev y,hρ y,by simp [execOp,hcv,asBool]⟩
  ·cases h
 ·rename_i x
  have hx := hρ x
  generalize hxv : ev x = xv at hx
  split at h
  ·rename_i b off he
   simp only [Option.some.injEq] at h; subst h
   rw [he] at hx
   refine ⟨xv,hx,?_⟩
   cases hx
   simp [execOp,hxv]
  ·rename_i f p q he
   simp only [Option.some.injEq] at h; subst h
   rw [he] at hx
   refine ⟨xv,hx,?_⟩
   cases hx
   simp [execOp,hxv]
  ·rename_i t u he
   simp only [Option.some.injEq] at h; subst h
   rw [he] at hx
   refine ⟨xv,hx,?_⟩
   cases hx
   simp [execOp,hxv]
  ·cases h
 ·rename_i bop bty x y yty
  obtain ⟨v,h1,h2,h3⟩ := abin_ok (w := w) h (hρ x) (hρ y)
  refine ⟨v,h1,?_⟩
  simp only [execOp,Sem.run_bind,h3 x y,Result.andThen_ok,h2,Sem.run_pure]
 ·rename_i t x
  split at h
  ·rename_i b hb
   simp only [Option.some.injEq] at h; subst h
   have hx := hρ x
   rw [hb] at hx
   generalize hxv : ev x = xv at hx
   cases hx
   exact ⟨_,.bool _,by simp [execOp,hxv,Op.unary]⟩
  ·cases h
 ·rename_i t x
  split at h
  ·rename_i k n hb
   simp only [Option.some.injEq] at h; subst h
   have hx := hρ x
   rw [hb] at hx
   generalize hxv : ev x = xv at hx
   cases hx
   exact ⟨_,.int _ _,by simp [execOp,hxv,Op.unary,Op.intArith,wrapF_eq]⟩
  ·cases h
 ·rename_i t x
  split at h
  ·rename_i k n hb
   have hx := hρ x
   rw [hb] at hx
   generalize hxv : ev x = xv at hx
   cases hx
   cases hs : k.signed with
   | true => simp [hs] at h
   | false =>
    simp only [hs,cond_false] at h
    obtain ⟨v,h1,h2⟩ := binI_ok (P := P) (σ := σ) (w := w) (ty := 0) h
    refine ⟨v,h1,?_⟩
    have h3 : k.max = (maxN k : Int) := by cases k <;> first | rfl | simp [IntKind.signed] at hs
    have h4 : (Op.unary .xor (.int k n)).run P w = (binOp .xor 0 (.int k (maxN k : Int)) (.int k n)).run P w := by
     rw [← h3]; simp [Op.unary,hs,binOp]
    simp [execOp,hxv,h4,h2]
  ·cases h
 ·rename_i src dst x
  have hx := hρ x
  generalize hxv : ev x = xv at hx
  split at h
  ·rename_i d0 k' k n h0 h1 h2
   simp only [Option.some.injEq] at h; subst h
   rw [h2] at hx
   cases hx
   exact ⟨_,.int _ _,by simp [execOp,hxv,convert,run_underlying' h0,run_underlying' h1,Conv.intToInt,wrapF_eq]⟩
  ·rename_i d0 n s h0 h1 h2
   simp only [Option.some.injEq] at h; subst h
   rw [h2] at hx
   refine ⟨xv,hx,?_⟩
   cases hx
   simp [execOp,hxv,convert,run_underlying' h0,run_underlying' h1]
  ·cases h
 ·rename_i t x
  cases hc : P.concrete t with
  | false => simp [hc] at h
  | true =>
   simp only [hc,cond_true,Option.some.injEq] at h; subst h
   exact ⟨.iface t (ev x),.ifc _ _ _ (hρ x),by simp [execOp,run_makeInterface (h := hc)]⟩
 ·rename_i f first caps
  simp only [Option.some.injEq] at h; subst h
  obtain ⟨h1,h2⟩ := ofList_rel hρ first
  obtain ⟨h3,h4⟩ := ofList_rel hρ caps
  exact ⟨_,.fn f _ _ _ _ h1 h3 h2 h4,by simp [execOp,Instr.makeFunc]⟩
 ·rename_i ty x lo hi
  have hx := hρ x
  split at h
  ·cases h
  ·rename_i hne
   obtain ⟨v,h1,h2⟩ := asliceA_ok (P := P) (w := w) (lo' := lo.map ev) (hi' := hi.map ev) h hx (fun a v ha hv => by
    cases lo with
    | none => cases ha
    | some y => simp only [Option.map_some,Option.some.injEq] at ha hv; subst ha; subst hv; exact hρ y) (fun a v ha hv => by
    cases hi with
    | none => cases ha
    | some y => simp only [Option.map_some,Option.some.injEq] at ha hv; subst ha; subst hv; exact hρ y) (by cases lo <;> rfl) (by cases hi <;> rfl)
    (fun b off n e he _ => absurd he (hne b off))
   refine ⟨v,h1,?_⟩
   simp only [execOp,Option.map_none]
   exact run_v h2
 ·rename_i s x f
  split at h
  ·rename_i fs b off hu he
   split at h
   ·rename_i fl hf
    split at h
    ·rename_i inf hi
     cases hb : Nat.beq inf.size 0 with
     | true => simp [hb] at h
     | false =>
      simp only [hb,cond_false,Option.some.injEq] at h; subst h
      have h0 : ¬ inf.size = 0 := fun e => by rw [beqn_iff.2 e] at hb; cases hb
      have hx := hρ x
      rw [he] at hx
      generalize hxv : ev x = xv at hx
      cases hx with
      | ptr _ _ r base size o hs ho =>
      refine ⟨_,.ptr _ _ r base size (o + fl.offset) hs (by omega),?_⟩
      simp [execOp,hxv,Instr.fieldAt,run_underlying' hu,hf,Instr.sureAddr,fieldPlace,run_sizeOf' hi,h0,add_none]
    ·cases h
   ·cases h
  ·cases h
 ·rename_i s x f
  split at h
  ·rename_i fs n t hu he
   split at h
   ·rename_i fl hf
    have hx := hρ x
    rw [he] at hx
    generalize hxv : ev x = xv at hx
    cases hx with
    | agg _ _ cs hn h1 h2 =>
    obtain ⟨v,h3,h4⟩ := apartA_ok (P := P) (w := w) ⟨hn,h1,h2⟩ h
    refine ⟨v,h3,?_⟩
    simp [execOp,hxv,Instr.field,run_underlying' hu,hf,asAgg,h4]
   ·cases h
  ·cases h
 ·rename_i ty x ix
  have hx := hρ x
  have hi := hρ ix
  generalize hxv : ev x = xv at hx
  generalize hiv : ev ix = iv at hi
  split at h
  ·rename_i e b off len lb sz k i hu he1 he2
   split at h
   ·rename_i inf hinf
    cases hb : (Nat.beq inf.size sz && Nat.blt i len) with
    | false => simp [hb] at h
    | true =>
     simp only [hb,cond_true,Option.some.injEq] at h; subst h
     simp only [Bool.and_eq_true] at hb
     have e1 := beqn_iff.1 hb.1
     have e2 := blt_iff.1 hb.2
     rw [he1] at hx
     rw [he2] at hi
     cases hi
     cases hx with
     | sl _ _ _ _ _ r base size o cap hs q1 q2 q3 q4 =>
     have := q3 (by omega)
     refine ⟨_,.ptr _ _ r base size (o + i * sz) hs (by omega),?_⟩
     have c : (0 : Int) ≤ Int.ofNat i ∧ (Int.ofNat i : Int) < (len : Int) := by simp; omega
     simp only [execOp,hxv,hiv,Instr.indexAt,asIntOf,run_underlying' hu,run_sizeOf' hinf,Sem.run_bind,Sem.run_pure,Result.andThen_ok,c,and_self,if_true,add_none,e1]
     rfl
   ·cases h
  ·rename_i len e b off k i hu he1 he2
   split at h
   ·rename_i inf hinf
    cases hb : Nat.blt i len with
    | false => simp [hb] at h
    | true =>
     simp only [hb,cond_true,Option.some.injEq] at h; subst h
     have e2 := blt_iff.1 hb
     rw [he1] at hx
     rw [he2] at hi
     cases hi
     cases hx with
     | ptr _ _ r base size o hs ho =>
     refine ⟨_,.ptr _ _ r base size (o + i * inf.size) hs (by omega),?_⟩
     have c : (0 : Int) ≤ Int.ofNat i ∧ (Int.ofNat i : Int) < (len : Int) := by simp; omega
     simp only [execOp,hxv,hiv,Instr.indexAt,asIntOf,run_underlying' hu,run_sizeOf' hinf,Sem.run_bind,Sem.run_pure,Result.andThen_ok,c,and_self,if_true,add_none,Instr.sureAddr]
     rfl
   ·cases h
  ·cases h
 ·rename_i ty x ix
  have hx := hρ x
  have hi := hρ ix
  generalize hxv : ev x = xv at hx
  generalize hiv : ev ix = iv at hi
  split at h
  ·rename_i n s k i hu he1 he2
   cases hb : Nat.blt i n with
   | false => simp [hb] at h
   | true =>
    simp only [hb,cond_true,Option.some.injEq] at h; subst h
    have e2 := blt_iff.1 hb
    rw [he1] at hx
    rw [he2] at hi
    cases hi
    cases hx with
    | str t _ _ hn hs =>
    subst hn; subst hs
    have hl : i < t.data.toList.length := by simpa using e2
    refine ⟨_,.int _ _,?_⟩
    have hg := val_get hl
    have hlen : t.data.toList.length = t.size := by simp
    rw [hlen] at hg
    have c : (0 : Int) ≤ Int.ofNat i := by simp
    have hgi : t[i]? = some (t.data.toList[i]) := by
     have : t[i]? = some (t[i]'e2) := getElem?_pos t i e2
     rw [this]; rfl
    simp only [execOp,hxv,hiv,Instr.index,asIntOf,run_underlying' hu,Sem.run_bind,Sem.run_pure,Result.andThen_ok,c,if_true]
    rw [show (Int.ofNat i).toNat = i from rfl,hgi]
    simp only [Sem.run_pure,Result.andThen_ok,hg]
    rfl
  ·rename_i len e n t k i hu he1 he2
   split at h
   ·rename_i inf hinf
    cases hb : Nat.blt i len with
    | false => simp [hb] at h
    | true =>
     simp only [hb,cond_true] at h
     have e2 := blt_iff.1 hb
     rw [he1] at hx
     rw [he2] at hi
     cases hi
     cases hx with
     | agg _ _ cs hn h1 h2 =>
     obtain ⟨v,h3,h4⟩ := apartA_ok (P := P) (w := w) ⟨hn,h1,h2⟩ h
     refine ⟨v,h3,?_⟩
     have c : (0 : Int) ≤ Int.ofNat i ∧ (Int.ofNat i : Int) < (len : Int) := by simp; omega
     simp only [execOp,hxv,hiv,Instr.index,asIntOf,run_underlying' hu,run_sizeOf' hinf,Sem.run_bind,Sem.run_pure,Result.andThen_ok,c,and_self,if_true]
     rw [show (Int.ofNat i).toNat = i from rfl,h4]
     rfl
   ·cases h
  ·cases h
 ·rename_i t i
  split at h
  ·rename_i l he
   have hx := hρ t
   rw [he] at hx
   generalize hxv : ev t = xv at hx
   cases hx with
   | tup _ vs h1 h2 =>
   have hlt : i < vs.size := by rw [← h1]; exact (List.getElem?_eq_some_iff.1 h).1
   have hg : vs[i]? = some vs[i] := Array.getElem?_eq_getElem hlt
   exact ⟨vs[i],h2 i a _ h hg,by simp [execOp,hxv,Instr.extract,hg]⟩
  ·cases h
 ·rename_i t ps
  obtain ⟨q1,q2⟩ := parts_rel hρ ps
  split at h
  ·rename_i n z fs hz hu
   obtain ⟨zv,hzv,hzr⟩ := zeroA_ok hz (by simp) σ
   split at h
   ·rename_i u hf
    cases hb : (fs.all fun f => (P.info? f.type).isSome) with
    | false => simp [hb] at h
    | true =>
     simp only [hb,cond_true,Option.some.injEq] at h; subst h
     cases hzr with
     | agg _ _ cs hn h1 h2 =>
     obtain ⟨pl,h3,h4⟩ := run_places (P := P) (w := w) hb
     have h5 : (fun i => pl[i]?) = placeOf P fs := funext h4
     obtain ⟨cs',h6,h7⟩ := fillA_ok q1 q2 ⟨hn,h1,h2⟩ hf
     refine ⟨.agg cs',.agg _ _ _ h7.1 h7.2.1 h7.2.2,?_⟩
     simp only [execOp]
     refine run_v ?_
     simp only [Instr.build,Sem.run_bind,run_zeroValue hzv,Result.andThen_ok,run_underlying' hu,h3,Value.cells,h5,h6,Sem.run_pure]
   ·cases h
  ·rename_i n z len e hz hu
   obtain ⟨zv,hzv,hzr⟩ := zeroA_ok hz (by simp) σ
   split at h
   ·rename_i inf hinf
    split at h
    ·rename_i u hf
     simp only [Option.some.injEq] at h; subst h
     cases hzr with
     | agg _ _ cs hn h1 h2 =>
     obtain ⟨cs',h6,h7⟩ := fillA_ok q1 q2 ⟨hn,h1,h2⟩ hf
     refine ⟨.agg cs',.agg _ _ _ h7.1 h7.2.1 h7.2.2,?_⟩
     simp only [execOp]
     refine run_v ?_
     simp only [Instr.build,Sem.run_bind,run_zeroValue hzv,Result.andThen_ok,run_underlying' hu,run_sizeOf' hinf,Value.cells,h6,Sem.run_pure]
    ·cases h
   ·cases h
  ·cases h
 ·rename_i x ty
  have hx := hρ x
  generalize hxv : ev x = xv at hx
  have hrun : ∀ v,(Builtin.len_ #[ty] oty #[xv]).run P w = .ok v w → (execOp ev ⟨dst,.call ⟨.builtin .len,⟨[x]⟩,⟨[ty]⟩⟩,oty,pos,after,guard⟩).run P w = .ok (.value v) w := by
   intro v hv
   simp [execOp,resolve,invoke,builtin,hxv,hv]
  split at h
  ·rename_i n s hu he
   simp only [Option.some.injEq] at h; subst h
   rw [he] at hx
   cases hx with
   | str t _ _ hn hs =>
   subst hn
   exact ⟨_,.int _ _,hrun _ (by simp [Builtin.len_,run_underlying' hu,goInt])⟩
  ·rename_i e b off n lb sz hu he
   simp only [Option.some.injEq] at h; subst h
   rw [he] at hx
   cases hx
   exact ⟨_,.int _ _,hrun _ (by simp [Builtin.len_,run_underlying' hu,goInt])⟩
  ·rename_i e hu he
   simp only [Option.some.injEq] at h; subst h
   rw [he] at hx
   cases hx
   exact ⟨_,.int _ _,hrun _ (by simp [Builtin.len_,run_underlying' hu,goInt])⟩
  ·rename_i e e' hu he
   simp only [Option.some.injEq] at h; subst h
   rw [he] at hx
   cases hx
   exact ⟨_,.int _ _,hrun _ (by simp [Builtin.len_,run_underlying' hu,goInt])⟩
  ·rename_i n e hu
   simp only [Option.some.injEq] at h; subst h
   exact ⟨_,.int _ _,hrun _ (by simp [Builtin.len_,run_underlying' hu,goInt])⟩
  ·cases h
 ·rename_i x y tys
  have hx := hρ x
  have hy := hρ y
  generalize hxv : ev x = xv at hx
  generalize hyv : ev y = yv at hy
  split at h
  ·rename_i k m k' n he1 he2
   simp only [Option.some.injEq] at h; subst h
   rw [he1] at hx
   rw [he2] at hy
   cases hx; cases hy
   refine ⟨_,.int _ _,?_⟩
   rw [ilt_eq]
   by_cases hc : m < n
   ·simp [execOp,resolve,invoke,builtin,hxv,hyv,Builtin.max_,Builtin.max2,hc]
   ·simp [execOp,resolve,invoke,builtin,hxv,hyv,Builtin.max_,Builtin.max2,hc]
  ·cases h
 ·rename_i x y tys
  have hx := hρ x
  have hy := hρ y
  generalize hxv : ev x = xv at hx
  generalize hyv : ev y = yv at hy
  split at h
  ·rename_i k m k' n he1 he2
   simp only [Option.some.injEq] at h; subst h
   rw [he1] at hx
   rw [he2] at hy
   cases hx; cases hy
   refine ⟨_,.int _ _,?_⟩
   rw [ilt_eq]
   by_cases hc : n < m
   ·simp [execOp,resolve,invoke,builtin,hxv,hyv,Builtin.min_,Builtin.min2,hc]
   ·simp [execOp,resolve,invoke,builtin,hxv,hyv,Builtin.min_,Builtin.min2,hc]
  ·cases h
 ·rename_i x tys
  have hx := hρ x
  generalize hxv : ev x = xv at hx
  split at h
  ·rename_i b off len lb sz he
   cases hb : Nat.beq lb 0 with
   | true => simp [hb] at h
   | false =>
    have h0 : lb ≠ 0 := fun e => by rw [beqn_iff.2 e] at hb; cases hb
    simp only [hb,cond_false,Option.some.injEq] at h; subst h
    rw [he] at hx
    cases hx with
    | sl _ _ _ _ _ r base size o cap hs q1 q2 q3 q4 =>
    have hc : ¬ cap = 0 := by omega
    exact ⟨_,.ptr _ _ r base size o hs (q3 h0),by simp [execOp,resolve,invoke,builtin,hxv,run_sliceData hc]⟩
  ·rename_i he
   simp only [Option.some.injEq] at h; subst h
   rw [he] at hx
   cases hx
   exact ⟨_,.nilp,by simp [execOp,resolve,invoke,builtin,hxv,run_sliceData0]⟩
  ·cases h
 ·rename_i ty x lo hi mx
  split at h
  ·rename_i e b off len lb sz l hh m hu he hl hh' hm
   split at h
   ·rename_i inf hi0
    have hx := hρ x
    rw [he] at hx
    generalize hxv : ev x = xv at hx
    cases hx with
    | sl _ _ _ _ _ r base size o cap hs q1 q2 q3 q4 =>
    cases hc : (Nat.beq inf.size sz && (Nat.ble l hh && (Nat.ble hh m && Nat.ble m lb))) with
    | false => simp [hc] at h
    | true =>
     simp only [hc,cond_true,Option.some.injEq] at h; subst h
     simp only [Bool.and_eq_true] at hc
     have e0 := beqn_iff.1 hc.1
     have e1 := ble_iff.1 hc.2.1
     have e2 := ble_iff.1 hc.2.2.1
     have e3 := ble_iff.1 hc.2.2.2
     have hr := run_bounds3 (P := P) (w := w) (cap := cap) (lo := lo.map ρ) (lo' := lo.map ev) hl hh' hm e1 e2 (by omega : m ≤ cap) (len := len) (fun a v ha hv => by
      cases lo with
      | none => simp at ha
      | some z => simp only [Option.map_some,Option.some.injEq] at ha hv; subst ha; subst hv; exact hρ z) (by cases lo <;> rfl) (hρ hi) (hρ mx)
     refine ⟨.slice (some ⟨r,if m = l then o else o + l * sz,none⟩) (hh - l) (m - l),.sl _ _ _ _ _ r base size _ _ hs (by omega) (by omega) (fun hne => ?_) ?_,?_⟩
     ·rw [if_neg (by omega),q3 (by omega)]; omega
     ·have hmc : m * sz ≤ cap * sz := Nat.mul_le_mul_right _ (by omega)
      split
      ·rename_i hcl; subst hcl; simp; omega
      ·have : l * sz + (m - l) * sz = m * sz := by rw [← Nat.add_mul]; congr 1; omega
       omega
     ·have hs3 : (Instr.sliceAt ty (.slice (some ⟨r,o,none⟩) len cap) (lo.map ev) (some (ev hi)) (some (ev mx))).run P w = .ok (.slice (some ⟨r,if m = l then o else o + l * sz,none⟩) (hh - l) (m - l)) w := by
       simp only [Instr.sliceAt,Sem.run_bind,run_underlying' hu,Result.andThen_ok,Instr.slice,hr,run_sizeOf' hi0,Option.map_some,e0]
       rw [← addr_if]
       split <;> rfl
      simp only [execOp,hxv]
      exact run_v hs3
   ·cases h
  ·cases h
 ·rename_i x xt t
  split at h
  ·rename_i d t' v hu he
   have hx := hρ x
   rw [he] at hx
   generalize hxv : ev x = xv at hx
   cases hx with
   | ifc _ _ vv hv =>
   cases hc : (isItf d || !(Nat.beq t' t)) with
   | true => simp [hc] at h
   | false =>
    simp only [hc,cond_false,Option.some.injEq] at h; subst h
    simp only [Bool.or_eq_false_iff,Bool.not_eq_false'] at hc
    have e0 := beqn_iff.1 hc.2
    subst e0
    refine ⟨vv,hv,?_⟩
    simp only [execOp,hxv]
    refine run_v ?_
    unfold Instr.typeAssert
    simp only [Sem.run_bind,run_underlying' hu,Result.andThen_ok]
    cases d <;> first | (simp [isItf] at hc; done) | simp
  ·cases h
 ·rename_i x ty
  have hx := hρ x
  generalize hxv : ev x = xv at hx
  split at h
  ·rename_i e hu he
   simp only [Option.some.injEq] at h; subst h
   rw [he] at hx
   cases hx
   refine ⟨_,.int _ _,?_⟩
   simp [execOp,resolve,invoke,builtin,hxv,Builtin.cap_,run_underlying' hu,goInt]
  ·cases h
 ·cases h
end
end I
end Go.Proofs.YtohjpggjgomgoaaGreatDoor
namespace Go.Proofs.YtohjpggjgomgoaaGreatDoor
namespace I
open K (one aggB run_underlying' run_sizeOf' add_none run_v cell_cells)
set_option linter.unusedVariables false
def eqKey : AV → AV → Option Bool
 | .int k a,.int k' b => bif Nat.beq (kn k) (kn k') then some (ieq a b) else none
 | .str n x,.str m y => some (Nat.beq n m && Nat.beq x y)
 | .bool a,.bool b => some (a == b)
 | _,_ => none
def fitKey : TypeDesc → AV → Bool
 | .int _,.int _ _ => true
 | .string,.str _ _ => true
 | .bool,.bool _ => true
 | _,_ => false
def findI (k : AV) : AV → Nat → Option (Option (Nat × AV))
 | .lcons (.lcons k' v) l,i => match eqKey k k' with
  | some true => some (some (i,v))
  | some false => findI k l (i + 1)
  | none => none
 | .lnil,_ => some none
 | _,_ => none
def setI (k v : AV) : Nat → AV → AV
 | 0,.lcons _ l => .lcons (.lcons k v) l
 | i + 1,.lcons e l => .lcons e (setI k v i l)
 | _,l => l
def pushI (k v : AV) : AV → AV
 | .lcons e l => .lcons e (pushI k v l)
 | _ => .lcons (.lcons k v) .lnil
def dropI : Nat → AV → AV
 | 0,.lcons _ l => l
 | i + 1,.lcons e l => .lcons e (dropI i l)
 | _,l => l
section
variable {P : Program} {σ : Sg} {w : World}
theorem EsRel.nil_of {es : List MapEntry} (h : EsRel σ .lnil es) : es = [] := by
 cases es with
 | nil => rfl
 | cons e es => exact h.elim
theorem EsRel.cons_of {k v l : AV} {es : List MapEntry} (h : EsRel σ (.lcons (.lcons k v) l) es) : ∃ e es',es = e :: es' ∧ Rel σ k e.key ∧ Rel σ v e.val ∧ EsRel σ l es' := by
 cases es with
 | nil => exact h.elim
 | cons e es => exact ⟨e,es,rfl,h.1,h.2.1,h.2.2⟩
theorem eqKey_ok {d : TypeDesc} {k k' : AV} {kv kv' : Value} {b : Bool} (hk : Rel σ k kv) (hk' : Rel σ k' kv') (hf : fitKey d k = true) (h : eqKey k k' = some b) : Instr.sameNow d kv kv' = some b := by
 unfold eqKey at h
 split at h
 ·rename_i q a q' a'
  cases hk; cases hk'
  cases hb : Nat.beq (kn q) (kn q') with
  | false => simp [hb] at h
  | true =>
   simp only [hb,cond_true,Option.some.injEq] at h
   have := kn_inj hb
   subst this
   cases d <;> simp [fitKey] at hf
   simp [Instr.sameNow,← h,ieq_beq]
 ·simp only [Option.some.injEq] at h
  cases hk with
  | str s _ _ hn hx =>
  cases hk' with
  | str t _ _ hm hy =>
  subst hn; subst hx; subst hm; subst hy
  cases d <;> simp [fitKey] at hf
  simp only [Instr.sameNow,Option.some.injEq]
  rw [← h,← beq_str]
  apply Bool.eq_iff_iff.2
  rw [Go.MapKept.bytes_beq,beq_iff_eq]
  constructor
  ·intro e; rw [e]
  ·intro e
   rw [toList_eq,toList_eq] at e
   cases s; cases t
   simp only [ByteArray.mk.injEq]
   exact Array.toList_inj.1 e
 ·simp only [Option.some.injEq] at h
  cases hk; cases hk'
  cases d <;> simp [fitKey] at hf
  simp [Instr.sameNow,← h]
 ·cases h
theorem findI_ok {d : TypeDesc} {k : AV} {kv : Value} (hk : Rel σ k kv) (hf : fitKey d k = true) : ∀ {l : AV} {es : List MapEntry} {i : Nat} {r : Option (Nat × AV)},EsRel σ l es → findI k l i = some r →
  (r = none ∧ Instr.findNow d kv es i = some none) ∨ ∃ j v u,r = some (j,v) ∧ Instr.findNow d kv es i = some (some (j,u)) ∧ Rel σ v u ∧ i ≤ j ∧ ∃ e,es[j - i]? = some e ∧ u = e.val ∧ Instr.sameNow d kv e.key = some true
 | .lcons (.lcons k' v) l,es,i,r,he,h => by
  obtain ⟨e,es',rfl,h1,h2,h3⟩ := he.cons_of
  unfold findI at h
  unfold Instr.findNow
  split at h
  ·rename_i hb
   simp only [Option.some.injEq] at h
   have hs := eqKey_ok hk h1 hf hb
   rw [hs]
   exact .inr ⟨i,v,e.val,h.symm,rfl,h2,Nat.le_refl _,e,by simp,rfl,hs⟩
  ·rename_i hb
   rw [eqKey_ok hk h1 hf hb]
   rcases findI_ok hk hf h3 h with ⟨a,b⟩ | ⟨j,u,u',a,b,c,d',e',f1,f2,f3⟩
   ·exact .inl ⟨a,b⟩
   ·refine .inr ⟨j,u,u',a,b,c,by omega,e',?_,f2,f3⟩
    rw [show j - i = (j - (i + 1)) + 1 by omega,List.getElem?_cons_succ]; exact f1
  ·cases h
 | .lnil,es,i,r,he,h => by
  have := he.nil_of
  subst this
  simp only [findI,Option.some.injEq] at h
  exact .inl ⟨h.symm,rfl⟩
theorem EsRel.set {k v : AV} {kv vv : Value} (hk : Rel σ k kv) (hv : Rel σ v vv) : ∀ {l : AV} {es : List MapEntry} {i : Nat} {e : MapEntry},EsRel σ l es → es[i]? = some e → EsRel σ (setI k v i l) (es.set i { e with key := kv,val := vv })
 | .lcons (.lcons k' v') l,es,i,e,he,hi => by
  obtain ⟨e0,es',rfl,h1,h2,h3⟩ := he.cons_of
  cases i with
  | zero => simp only [List.getElem?_cons_zero,Option.some.injEq] at hi; exact ⟨hk,hv,h3⟩
  | succ i => simp only [List.getElem?_cons_succ] at hi; exact ⟨h1,h2,EsRel.set hk hv h3 hi⟩
 | .lnil,es,i,e,he,hi => by
  have := he.nil_of
  subst this
  simp at hi
theorem EsRel.push {k v : AV} {e : MapEntry} (hk : Rel σ k e.key) (hv : Rel σ v e.val) : ∀ {l : AV} {es : List MapEntry},EsRel σ l es → EsRel σ (pushI k v l) (es ++ [e])
 | .lcons (.lcons k' v') l,es,he => by
  obtain ⟨e0,es',rfl,h1,h2,h3⟩ := he.cons_of
  exact ⟨h1,h2,EsRel.push hk hv h3⟩
 | .lnil,es,he => by
  have := he.nil_of
  subst this
  exact ⟨hk,hv,trivial⟩
theorem EsRel.drop : ∀ {l : AV} {es : List MapEntry} {i : Nat},EsRel σ l es → i < es.length → EsRel σ (dropI i l) (es.eraseIdx i)
 | .lcons (.lcons k' v') l,es,i,he,hi => by
  obtain ⟨e0,es',rfl,h1,h2,h3⟩ := he.cons_of
  cases i with
  | zero => exact h3
  | succ i => exact ⟨h1,h2,EsRel.drop h3 (by simpa using hi)⟩
 | .lnil,es,i,he,hi => by
  have := he.nil_of
  subst this
  simp at hi
theorem fit_check {d : TypeDesc} {kt : TypeId} {k : AV} {kv : Value} (hk : Rel σ k kv) (hd : P.underlying kt = some d) (hf : fitKey d k = true) (em : Bool) : (Instr.checkKey em 10000 kt kv).run P w = .ok () w := by
 show (Instr.checkKey em (9999 + 1) kt kv).run P w = _
 cases d <;> cases k <;> simp [fitKey] at hf <;> cases hk <;> (unfold Instr.checkKey; simp only [Sem.run_bind,run_underlying' hd,Result.andThen_ok]; rfl)
theorem run_findKey' {kt : TypeId} {d : TypeDesc} {k : Value} {l : List MapEntry} {a : Option (Nat × Value)} (hd : P.underlying kt = some d) (h : Instr.findNow d k l 0 = some a) : (Instr.findKey kt k l).run P w = .ok a w := by
 unfold Instr.findKey
 simp only [Sem.run_bind,run_underlying' hd,Result.andThen_ok,h]; rfl
theorem same_bits {d : TypeDesc} {a b : Value} (h : Instr.sameNow d a b = some true) : Instr.sameBits 10000 b a = true := by
 unfold Instr.sameNow at h
 split at h
 ·rename_i k x k' y
  split at h
  ·rename_i hk
   simp only [Option.some.injEq,beq_iff_eq] at h
   subst hk; subst h
   simp [Instr.sameBits]
  ·cases h
 ·simp only [Option.some.injEq] at h
  have := (Go.MapKept.bytes_beq _ _).1 h
  subst this
  simp only [Instr.sameBits]; exact (Go.MapKept.bytes_beq _ _).2 rfl
 ·simp only [Option.some.injEq,beq_iff_eq] at h
  subst h
  simp [Instr.sameBits]
 ·cases h
theorem same_eq {d : TypeDesc} {a b : Value} (h : Instr.sameNow d a b = some true) : a = b := by
 unfold Instr.sameNow at h
 split at h
 ·split at h
  ·rename_i hk
   simp only [Option.some.injEq,beq_iff_eq] at h
   rw [hk,h]
  ·cases h
 ·simp only [Option.some.injEq] at h
  rw [(Go.MapKept.bytes_beq _ _).1 h]
 ·simp only [Option.some.injEq,beq_iff_eq] at h
  rw [h]
 ·cases h
theorem same_self {d : TypeDesc} {k : AV} {kv : Value} (hk : Rel σ k kv) (hf : fitKey d k = true) : Instr.sameNow d kv kv = some true := by
 cases d <;> cases k <;> simp [fitKey] at hf <;> cases hk <;> simp [Instr.sameNow]
 exact (Go.MapKept.bytes_beq _ _).2 rfl
theorem find_none {d : TypeDesc} {kv : Value} (hself : Instr.sameNow d kv kv = some true) : ∀ {es : List MapEntry} {i : Nat},Instr.findNow d kv es i = some none → ∀ e ∈ es,e.key ≠ kv
 | [],i,_,e,he => by cases he
 | x :: es,i,h,e,he => by
  unfold Instr.findNow at h
  split at h
  ·cases h
  ·rename_i hs
   rcases List.mem_cons.1 he with rfl | he
   ·intro hk
    rw [hk,hself] at hs
    cases hs
   ·exact find_none hself h e he
  ·cases h
end
end I
end Go.Proofs.YtohjpggjgomgoaaGreatDoor
namespace Go.Proofs.YtohjpggjgomgoaaGreatDoor
namespace I
open K (one aggB run_underlying' run_sizeOf' add_none run_v cell_cells)
set_option linter.unusedVariables false
def lengthA : AV → Nat
 | .lcons _ l => lengthA l + 1
 | _ => 0
def lookM (h x k : AV) : Option (Option (Nat × AV)) :=
 match x with
 | .nilm => some none
 | .map b => match cget HD h b with
  | .mp l => findI k l 0
  | _ => none
 | _ => none
def okA (ok : Bool) (v : AV) (b : Bool) : AV := bif ok then .tup (.lcons v (.lcons (.bool b) .lnil)) else v
def aread (P : Program) (ρ : Operand → AV) (h : AV) (o : Oper) : Option AV :=
 match o.op with
 | .load ty x => match ρ x with
  | .ptr b off => match cget HD h b with
   | .cells _ n _ t => apartA P ty n t off
   | _ => none
  | _ => none
 | .convert src dst x => match P.underlying src,P.underlying dst,ρ x with
  | some (.slice e),some .string,.sl b off len lb _ => match P.underlying e,cget HD h b with
   | some (.int .u8),.cells _ n _ t => bif Nat.ble (off + len) n && !(Nat.beq lb 0) then
     match bytesOf (lg n) t len off 0 with
     | some x => some (.str len x)
     | none => none
    else none
   | _,_ => none
  | some (.slice e),some .string,.nils => match P.underlying e with
   | some (.int .u8) => some (.str 0 0)
   | _ => none
  | some (.pointer t),some .unsafePointer,.ptr b off => match P.info? t,cget HD h b with
   | some inf,.cells _ n _ _ => bif !(Nat.beq inf.size 0) && Nat.blt off n then some (.ptr b off) else none
   | _,_ => none
  | some .unsafePointer,some (.pointer u),.ptr b off => match P.info? u,cget HD h b with
   | some inf,.cells ty n _ _ => bif Nat.beq (ty % 2) 1 && liesAt P P.depth (ty / 2) (n / P.cellsOf (ty / 2)) off u 1 then some (.ptr b off) else none
   | _,_ => none
  | _,_,_ => none
 | .slice ty x lo hi none => match ρ x,P.underlying ty with
  | .ptr b off,some (.array m e) => match cget HD h b,P.info? e with
   | .cells _ n _ _,some inf => bif Nat.ble (off + m * inf.size) n then asliceA P ty (.ptr b off) (lo.map ρ) (hi.map ρ) else none
   | _,_ => none
  | _,_ => none
 | .call ⟨.builtin .len,⟨[x]⟩,⟨[ty]⟩⟩ => match P.underlying ty,ρ x with
  | some (.map _ _),.map b => match cget HD h b with
   | .mp l => some (.int .i64 (.ofNat (lengthA l)))
   | _ => none
  | _,_ => none
 | .lookup t x k ok => match P.underlying t with
  | some (.map kt e) => match P.underlying kt with
   | some kd => bif fitKey kd (ρ k) then
     match lookM h (ρ x) (ρ k) with
     | some (some (_,v)) => some (okA ok v true)
     | some none => match zeroA P e with
      | .bad => none
      | z => some (okA ok z false)
     | none => none
    else none
   | none => none
  | _ => none
 | _ => none
section
variable {P : Program} {σ : Sg} {h : AV} {nx : Nat} {w0 w : World} {B : Fr}
theorem EsRel.length : ∀ {l : AV} {es : List MapEntry},EsRel σ l es → lengthA l = es.length
 | .lcons (.lcons _ _) l,e :: es,h => by simp [lengthA,EsRel.length h.2.2]
 | .lnil,[],_ => rfl
 | .lnil,_ :: _,h => h.elim
 | .lcons (.lcons _ _) _,[],h => h.elim
theorem load_cells {r o n : Nat} {cs : Array Value} {ty : TypeId} {fr : Nat × Nat} (hb : w.heap[r]? = some (.cells cs ty fr)) (hn : o + n ≤ cs.size) : (loadCells ⟨r,o,none⟩ n).run P w = .ok (cs.extract o (o + n)) w := by
 have := K.run_loadCells (P := P) (w := w) (b := r) (off := o) (n := n) (fun j => cs.getD (o + j) undef) (fun j hj => by
  rw [cell_cells hb,Array.getD_eq_getD_getElem?,Array.getElem?_eq_getElem (by omega)]; rfl)
 rw [this]
 congr 1
 apply Array.ext_getElem?
 intro i
 rw [Array.getElem?_extract]
 by_cases hi : i < n
 ·rw [if_pos (by omega)]
  simp [hi,Array.getD_eq_getD_getElem?]
  rw [Array.getElem?_eq_getElem (by omega)]; rfl
 ·rw [if_neg (by omega)]
  simp [hi]
theorem run_loadVar {r o : Nat} {cs : Array Value} {ty ty' : TypeId} {fr : Nat × Nat} {n base : Nat} {t a : AV} (hb : w.heap[r]? = some (.cells cs ty' fr)) (hbn : base + n ≤ cs.size)
  (hc : ∀ i,i < n → ∃ v,cs[base + i]? = some v ∧ one v = true ∧ Rel σ (cget (lg n) t i) v) {off : Nat} (ho : o = base + off) (ha : apartA P ty n t off = some a) : ∃ v,Rel σ a v ∧ (loadVar ty ⟨r,o,none⟩).run P w = .ok v w := by
 have hrow : RowRel σ n t (cs.extract base (base + n)) := by
  have hsz : (cs.extract base (base + n)).size = n := by simp; omega
  have hg : ∀ (i : Nat) v,(cs.extract base (base + n))[i]? = some v → i < n ∧ cs[base + i]? = some v := fun i v hv => by
   have hi : i < n := by rw [← hsz]; exact (Array.getElem?_eq_some_iff.1 hv).1
   refine ⟨hi,?_⟩
   rw [Array.getElem?_extract] at hv
   split at hv
   ·exact hv
   ·cases hv
  refine ⟨hsz,fun i v hv => ?_,fun i v hv => ?_⟩
  ·obtain ⟨hi,hv⟩ := hg i v hv
   obtain ⟨u,h1,h2,h3⟩ := hc i hi
   rw [hv] at h1; simp only [Option.some.injEq] at h1; rw [h1]; exact h2
  ·obtain ⟨hi,hv⟩ := hg i v hv
   obtain ⟨u,h1,h2,h3⟩ := hc i hi
   rw [hv] at h1; simp only [Option.some.injEq] at h1; rw [h1]; exact h3
 obtain ⟨v,h1,h2⟩ := apartA_ok (P := P) (w := w) hrow ha
 refine ⟨v,h1,?_⟩
 rw [← h2]
 unfold apartA at ha
 split at ha
 ·rename_i d inf hu hi
  cases hd : isA d with
  | true =>
   simp only [hd,cond_true] at ha
   cases hb' : Nat.ble (off + inf.size) n with
   | false => simp [hb'] at ha
   | true =>
    have e := ble_iff.1 hb'
    have e2 : (cs.extract base (base + n)).extract off (off + inf.size) = cs.extract o (o + inf.size) := by
     apply Array.ext_getElem?
     intro i
     simp only [Array.getElem?_extract,Array.size_extract]
     by_cases hi' : i < inf.size
     ·rw [if_pos (by omega),if_pos (by omega),if_pos (by omega)]; congr 1; omega
     ·rw [if_neg (by omega),if_neg (by omega)]
    simp only [loadVar,part,Sem.run_bind,run_isA hu,hd,Result.andThen_ok,if_true,run_sizeOf' hi,load_cells hb (show o + inf.size ≤ cs.size by omega),Sem.run_pure,e2]
  | false =>
   simp only [hd,cond_false] at ha
   cases hb' : Nat.blt off n with
   | false => simp [hb'] at ha
   | true =>
    have e := blt_iff.1 hb'
    obtain ⟨u,g1,g2,g3⟩ := hc off e
    have g4 : (cs.extract base (base + n))[off]? = some u := by rw [Array.getElem?_extract,if_pos (by omega)]; exact g1
    simp only [loadVar,part,Sem.run_bind,run_isA hu,hd,Result.andThen_ok,Bool.false_eq_true,if_false,g4,Sem.run_pure]
    have g5 : w.cell? ⟨r,o,none⟩ = some u := by rw [cell_cells hb,ho]; exact g1
    simp [load,Sem.run,g5]
 ·cases ha
theorem okA_ok {ok b : Bool} {v : AV} {u : Value} (hv : Rel σ v u) : Rel σ (okA ok v b) (if ok = true then .tuple #[u,.bool b] else u) := by
 cases ok with
 | false => exact hv
 | true =>
  refine .tup _ _ rfl (fun i a x ha hx => ?_)
  match i with
  | 0 => simp [toList] at ha hx; subst ha; subst hx; exact hv
  | 1 => simp [toList] at ha hx; subst ha; subst hx; exact .bool _
  | i + 2 => simp [toList] at ha
theorem lookM_ok (H : HS σ h nx w0 B w) {x k : AV} {xv kv : Value} {kd : TypeDesc} {r : Option (Nat × AV)} (hx : Rel σ x xv) (hk : Rel σ k kv) (hf : fitKey kd k = true) (hl : lookM h x k = some r) :
  ∃ es : Array MapEntry,((xv = .map none ∧ es = #[]) ∨ ∃ q clock,xv = .map (some q) ∧ w.heap[q]? = some (.map es clock)) ∧
   ((r = none ∧ Instr.findNow kd kv es.toList 0 = some none) ∨ ∃ j v u,r = some (j,v) ∧ Instr.findNow kd kv es.toList 0 = some (some (j,u)) ∧ Rel σ v u) := by
 unfold lookM at hl
 split at hl
 ·cases hx
  simp only [Option.some.injEq] at hl
  exact ⟨#[],.inl ⟨rfl,rfl⟩,.inl ⟨hl.symm,rfl⟩⟩
 ·rename_i b
  cases hx with
  | map _ r' base size hs =>
  split at hl
  ·rename_i l hc
   have := H.blk b (H.lt hs)
   rw [hc] at this
   obtain ⟨r1,base1,size1,es,clock,h1,h2,h3,h4⟩ := this
   rw [hs] at h1
   simp only [Option.some.injEq,Prod.mk.injEq] at h1
   obtain ⟨rfl,rfl,rfl⟩ := h1
   refine ⟨es,.inr ⟨_,clock,rfl,h2⟩,?_⟩
   rcases findI_ok hk hf h3.1 hl with ⟨a,b⟩ | ⟨j,v,u,a,b,c,d,_⟩
   ·exact .inl ⟨a,b⟩
   ·exact .inr ⟨j,v,u,a,b,c⟩
  ·cases hl
 ·cases hl
theorem aread_ok {ρ : Operand → AV} {ev : Operand → Value} {o : Oper} {a : AV} (H : HS σ h nx w0 B w) (hρ : ∀ x,Rel σ (ρ x) (ev x)) (ha : aread P ρ h o = some a) :
  ∃ v,Rel σ a v ∧ (execOp ev o).run P w = .ok (.value v) w := by
 obtain ⟨dst,op,oty,pos,after,guard⟩ := o
 unfold aread at ha
 dsimp only at ha
 split at ha
 ·rename_i ty x
  split at ha
  ·rename_i b off he
   have hx := hρ x
   rw [he] at hx
   generalize hxv : ev x = xv at hx
   cases hx with
   | ptr _ _ r base size o hs ho =>
   split at ha
   ·rename_i ety n ro t hc
    obtain ⟨cs,fr,tt,h1,h2,h3,h4,h5⟩ := H.cells hs hc
    obtain ⟨v,h6,h7⟩ := run_loadVar (P := P) (σ := σ) h1 (by omega) h4 ho ha
    exact ⟨v,h6,by simp [execOp,hxv,Instr.loadAt,Instr.sureAddr,h7]⟩
   ·cases ha
  ·cases ha
 ·rename_i src dst x
  have hx := hρ x
  generalize hxv : ev x = xv at hx
  split at ha
  ·rename_i e b off len lb sz hu1 hu2 he
   rw [he] at hx
   cases hx with
   | sl _ _ _ _ _ r base size o cap hs q1 q2 q3 q4 =>
   split at ha
   ·rename_i ety n ro t hue hc
    cases hb : (Nat.ble (off + len) n && !(Nat.beq lb 0)) with
    | false => simp [hb] at ha
    | true =>
     simp only [hb,cond_true] at ha
     simp only [Bool.and_eq_true,Bool.not_eq_true'] at hb
     have e1 := ble_iff.1 hb.1
     have e2 : lb ≠ 0 := fun e => by rw [beqn_iff.2 e] at hb; simp at hb
     have e3 := q3 e2
     split at ha
     ·rename_i y hy
      simp only [Option.some.injEq] at ha; subst ha
      obtain ⟨cs,fr,tt,h1,h2,h3,h4,h5⟩ := H.cells hs hc
      obtain ⟨l,g1,g2,g3⟩ := bytesOf_ok (cs := cs) (base := base) (σ := σ) hy (fun j hj hj' => by
       obtain ⟨v,f1,f2,f3⟩ := h4 j (by omega)
       exact ⟨v,f1,f3⟩)
      refine ⟨.string ⟨l.toArray⟩,.str _ _ _ (by show len = l.toArray.size; simp [g1]) (by simpa [val] using g2),?_⟩
      have hstr := K.bytes_str (P := P) (w := w) (b := r) (off := o) (c := cap) g1 (fun j hj => by
       rw [cell_cells h1,e3,Nat.add_assoc]; exact g3 j hj)
      simp [execOp,hxv,run_convert_bytes_string w src dst e (some ⟨r,o,none⟩) len cap hu1 hue hu2,hstr]
     ·cases ha
   ·cases ha
  ·rename_i e hu1 hu2 he
   rw [he] at hx
   cases hx
   split at ha
   ·rename_i hue
    simp only [Option.some.injEq] at ha; subst ha
    refine ⟨.string .empty,.str _ _ _ rfl rfl,?_⟩
    have : (Conv.bytesToString (.slice none 0 0)).run P w = .ok (.string .empty) w := rfl
    simp [execOp,hxv,run_convert_bytes_string w src dst e none 0 0 hu1 hue hu2,this]
   ·cases ha
  ·rename_i t b off hu1 hu2 he
   rw [he] at hx
   cases hx with
   | ptr _ _ r base size o hs ho =>
   split at ha
   ·rename_i inf ety n ro t' hinf hc
    cases hb : (!(Nat.beq inf.size 0) && Nat.blt off n) with
    | false => simp [hb] at ha
    | true =>
     simp only [hb,cond_true,Option.some.injEq] at ha; subst ha
     simp only [Bool.and_eq_true,Bool.not_eq_true'] at hb
     have e1 : inf.size ≠ 0 := fun e => by rw [beqn_iff.2 e] at hb; simp at hb
     have e2 := blt_iff.1 hb.2
     obtain ⟨cs,fr,tt,h1,h2,h3,h4,h5⟩ := H.cells hs hc
     have hsh : w.shape? r = some (tt,size) := by simp [World.shape?,h1,h2]
     have hr := Lib.run_to_unsafe (P := P) w ⟨r,o,none⟩ hu1 hu2 hinf e1 hsh (by show o < size; omega)
     exact ⟨_,.ptr _ _ r base size o hs ho,by simp [execOp,hxv,hr]⟩
   ·cases ha
  ·rename_i u b off hu1 hu2 he
   rw [he] at hx
   cases hx with
   | ptr _ _ r base size o hs ho =>
   split at ha
   ·rename_i inf ety n ro t' hinf hc
    cases hb : (Nat.beq (ety % 2) 1 && liesAt P P.depth (ety / 2) (n / P.cellsOf (ety / 2)) off u 1) with
    | false => simp [hb] at ha
    | true =>
     simp only [hb,cond_true,Option.some.injEq] at ha; subst ha
     simp only [Bool.and_eq_true] at hb
     have e1 := beqn_iff.1 hb.1
     obtain ⟨cs,fr,h1,h2,h3,h4,h5⟩ := H.cellsT hs hc (.inr e1)
     have hsh : w.shape? r = some (ety / 2,size) := by simp [World.shape?,h1,h2]
     have e2 : size = n := (h3.2.2 e1).symm
     have e3 : o = off := by omega
     have hr := Lib.run_from_unsafe (P := P) w ⟨r,o,none⟩ hu1 hu2 hinf hsh (by show liesAt P P.depth (ety / 2) (size / P.cellsOf (ety / 2)) o u 1 = true; rw [e2,e3]; exact hb.2)
     exact ⟨_,.ptr _ _ r base size o hs ho,by simp [execOp,hxv,hr]⟩
   ·cases ha
  ·cases ha
 ·rename_i ty x lo hi
  split at ha
  ·rename_i b off m e he hu
   have hx := hρ x
   rw [he] at hx
   split at ha
   ·rename_i ety n ro t inf hc hinf
    cases hb : Nat.ble (off + m * inf.size) n with
    | false => simp [hb] at ha
    | true =>
     simp only [hb,cond_true] at ha
     have e1 := ble_iff.1 hb
     obtain ⟨v,h1,h2⟩ := asliceA_ok (P := P) (w := w) (lo' := lo.map ev) (hi' := hi.map ev) ha hx (fun a v ha hv => by
      cases lo with
      | none => cases ha
      | some y => simp only [Option.map_some,Option.some.injEq] at ha hv; subst ha; subst hv; exact hρ y) (fun a v ha hv => by
      cases hi with
      | none => cases ha
      | some y => simp only [Option.map_some,Option.some.injEq] at ha hv; subst ha; subst hv; exact hρ y) (by cases lo <;> rfl) (by cases hi <;> rfl)
      (fun b' off' n' e' hbo hu' inf' hinf' r base size hs => by
       simp only [AV.ptr.injEq] at hbo
       obtain ⟨rfl,rfl⟩ := hbo
       rw [hu] at hu'
       simp only [Option.some.injEq,TypeDesc.array.injEq] at hu'
       obtain ⟨rfl,rfl⟩ := hu'
       rw [hinf] at hinf'
       simp only [Option.some.injEq] at hinf'
       subst hinf'
       obtain ⟨cs,fr,tt,h1,h2,h3,h4,h5⟩ := H.cells hs hc
       omega)
     refine ⟨v,h1,?_⟩
     simp only [execOp,Option.map_none]
     exact run_v h2
   ·cases ha
  ·cases ha
 ·rename_i x ty
  split at ha
  ·rename_i k e b hu he
   have hx := hρ x
   rw [he] at hx
   generalize hxv : ev x = xv at hx
   cases hx with
   | map _ r base size hs =>
   split at ha
   ·rename_i l hc
    simp only [Option.some.injEq] at ha; subst ha
    have := H.blk b (H.lt hs)
    rw [hc] at this
    obtain ⟨r',base',size',es,clock,h1,h2,h3,h4⟩ := this
    rw [hs] at h1
    simp only [Option.some.injEq,Prod.mk.injEq] at h1
    obtain ⟨rfl,rfl,rfl⟩ := h1
    refine ⟨_,.int _ _,?_⟩
    have hl := h3.1.length
    have hgo : (getObj r).run P w = .ok (.map es clock) w := by simp [getObj,Sem.run,h2]
    simp [execOp,resolve,invoke,builtin,hxv,Builtin.len_,run_underlying' hu,hgo,goInt,hl]
   ·cases ha
  ·cases ha
 ·rename_i t x k ok
  split at ha
  ·rename_i kt e hu
   split at ha
   ·rename_i kd hkd
    cases hf : fitKey kd (ρ k) with
    | false => simp [hf] at ha
    | true =>
     simp only [hf,cond_true] at ha
     have hchk := fun em => fit_check (P := P) (w := w) (hρ k) hkd hf em
     split at ha
     ·rename_i j v hl
      simp only [Option.some.injEq] at ha; subst ha
      obtain ⟨es,g1,g2⟩ := lookM_ok H (hρ x) (hρ k) hf hl
      rcases g2 with ⟨g2,_⟩ | ⟨j',v',u,g2,g3,g4⟩
      ·cases g2
      ·simp only [Option.some.injEq,Prod.mk.injEq] at g2
       obtain ⟨rfl,rfl⟩ := g2
       refine ⟨_,okA_ok (ok := ok) (b := true) g4,?_⟩
       simp only [execOp]
       refine run_v ?_
       rcases g1 with ⟨g1,rfl⟩ | ⟨q,clock,g1,g5⟩
       ·simp only [Instr.lookup,g1,Sem.run_bind,run_underlying' hu,Result.andThen_ok,Sem.run_pure,hchk,run_findKey' hkd g3]
       ·have hgo : (getObj q).run P w = .ok (.map es clock) w := by simp [getObj,Sem.run,g5]
        simp only [Instr.lookup,g1,Sem.run_bind,run_underlying' hu,Result.andThen_ok,hgo,Sem.run_pure,hchk,run_findKey' hkd g3]
     ·rename_i hl
      split at ha
      ·cases ha
      ·rename_i z hz
       simp only [Option.some.injEq] at ha; subst ha
       obtain ⟨es,g1,g2⟩ := lookM_ok H (hρ x) (hρ k) hf hl
       rcases g2 with ⟨_,g3⟩ | ⟨j',v',u,g2,g3,g4⟩
       ·obtain ⟨zv,hzv,hzr⟩ := zeroA_ok (P := P) (t := e) rfl hz σ
        refine ⟨_,okA_ok (ok := ok) (b := false) hzr,?_⟩
        simp only [execOp]
        refine run_v ?_
        rcases g1 with ⟨g1,rfl⟩ | ⟨q,clock,g1,g5⟩
        ·simp only [Instr.lookup,g1,Sem.run_bind,run_underlying' hu,Result.andThen_ok,Sem.run_pure,hchk,run_findKey' hkd g3,run_zeroValue hzv]
        ·have hgo : (getObj q).run P w = .ok (.map es clock) w := by simp [getObj,Sem.run,g5]
         simp only [Instr.lookup,g1,Sem.run_bind,run_underlying' hu,Result.andThen_ok,hgo,Sem.run_pure,hchk,run_findKey' hkd g3,run_zeroValue hzv]
       ·cases g2
     ·cases ha
   ·cases ha
  ·cases ha
 ·cases ha
end
end I
end Go.Proofs.YtohjpggjgomgoaaGreatDoor
namespace Go.Proofs.YtohjpggjgomgoaaGreatDoor
namespace I
open K (one aggB run_underlying' run_sizeOf' add_none run_v cell_cells)
set_option linter.unusedVariables false
inductive NV where
 | ptr
 | sl (len lb sz : Nat)
 | map
def NV.at : NV → Nat → AV
 | .ptr,b => .ptr b 0
 | .sl len lb sz,b => .sl b 0 len lb sz
 | .map,b => .map b
def zrep (P : Program) (e : TypeId) (n : Nat) : Option AV :=
 match rowA (zeroA P e) with
 | some (sz,s) => bif Nat.beq sz 0 then none else
  bif Nat.beq sz 1 then some (unid (lg n) s) else
  match s with
  | .uni v => some (unid (lg n) v)
  | s => some (cmk (fun i => cget (lg sz) s (i % sz)) (lg n) 0 n)
 | none => none
def anew (P : Program) (ρ : Operand → AV) (o : Oper) : Option (NV × AV) :=
 match o.op with
 | .alloc t => match rowA (zeroA P t) with
  | some (n,s) => some (.ptr,.cells (2 * t + 1) n false s)
  | none => none
 | .box t x => match rowA (ρ x) with
  | some (n,s) => some (.ptr,.cells (2 * t + 1) n false s)
  | none => none
 | .buildSlice t len ps => match P.underlying t with
  | some (.slice e) => match P.info? e with
   | some inf => bif Nat.beq len 0 && Nat.beq ps.size 0 then some (.sl 0 0 inf.size,.cells (2 * e + 1) 0 false .undef) else
    bif Nat.ble (len * inf.size) 16777216 && !(Nat.beq (len * inf.size) 0) then
     match zrep P e (len * inf.size) with
     | some z => match fillA (fun i => some (i * inf.size,inf.size)) (len * inf.size) (ps.toList.map fun p => (p.1,ρ p.2)) z with
      | some u => some (.sl len len inf.size,.cells (2 * e + 1) (len * inf.size) false u)
      | none => none
     | none => none
    else none
   | none => none
  | _ => none
 | .makeMap t none => some (.map,.mp .lnil)
 | .makeMap t (some x) => match P.underlying t,ρ x with
  | some (.map _ _),.int _ _ => some (.map,.mp .lnil)
  | _,_ => none
 | .makeSlice t l c => match P.underlying t,ρ l,ρ c with
  | some (.slice e),.int _ (.ofNat n),.int _ (.ofNat m) => match P.info? e with
   | some inf => bif Nat.beq n 0 && Nat.beq m 0 then some (.sl 0 0 inf.size,.cells (2 * e + 1) 0 false .undef) else
    bif Nat.ble n m && (Nat.ble (inf.bytes * m) 281474976710656 && (Nat.ble m 9223372036854775807 && !(Nat.beq (m * inf.size) 0))) then
     match zrep P e (m * inf.size) with
     | some z => some (.sl n m inf.size,.cells (2 * e + 1) (m * inf.size) false z)
     | none => none
    else none
   | none => none
  | _,_,_ => none
 | .convert src dst x => match P.underlying src,P.underlying dst,ρ x with
  | some _,some (.slice e),.str n s => match P.underlying e with
   | some (.int .u8) => some (.sl n n 1,.cells (2 * e) n false (strN n s))
   | _ => none
  | _,_,_ => none
 | _ => none
section
variable {P : Program} {σ : Sg} {h : AV} {nx : Nat} {w0 w : World} {B : Fr}
theorem zrep_ok {e : TypeId} {n : Nat} {u : AV} (hz : zrep P e n = some u) (σ : Sg) : ∃ z,(P.info? e).bind (·.zero) = some z ∧ 0 < z.cells.size ∧
  ∀ cs : Array Value,cs.size = n → (∀ i,i < n → cs[i]? = some (z.cells[i % z.cells.size]!)) → RowRel σ n u cs := by
 unfold zrep at hz
 split at hz
 ·rename_i sz s hr
  cases h0 : Nat.beq sz 0 with
  | true => simp [h0] at hz
  | false =>
   simp only [h0,cond_false] at hz
   have hsz0 : sz ≠ 0 := fun e => by rw [beqn_iff.2 e] at h0; cases h0
   have hbad : zeroA P e ≠ .bad := fun hb => by rw [hb] at hr; simp [rowA,scalarA] at hr
   obtain ⟨z,hzv,hzr⟩ := zeroA_ok (P := P) (t := e) rfl hbad σ
   have hrow := rowA_ok hzr hr
   refine ⟨z,hzv,by rw [hrow.1]; omega,fun cs hcs hget => ?_⟩
   have hcell : ∀ i,i < n → cget (lg n) u i = cget (lg sz) s (i % sz) := by
    intro i hi
    cases h1 : Nat.beq sz 1 with
    | true =>
     simp only [h1,cond_true,Option.some.injEq] at hz
     have := beqn_iff.1 h1
     subst this
     rw [← hz,cget_unid]; rfl
    | false =>
     simp only [h1,cond_false] at hz
     have hsz1 : sz ≠ 1 := fun e => by rw [beqn_iff.2 e] at h1; cases h1
     split at hz
     ·rename_i v
      simp only [Option.some.injEq] at hz
      rw [← hz,cget_unid]
      obtain ⟨k,hk⟩ : ∃ k,lg sz = k + 1 := by
       unfold lg
       cases hb : Nat.ble sz 1 with
       | true => have := ble_iff.1 hb; omega
       | false => exact ⟨_,rfl⟩
      rw [hk]; rfl
     ·simp only [Option.some.injEq] at hz
      rw [← hz,cget_cmk _ _ _ _ _ (lg_le n) hi,Nat.zero_add]
   have hval : ∀ i v,cs[i]? = some v → i < n ∧ z.cells[i % sz]? = some v := by
    intro i v hv
    have hi : i < n := by rw [← hcs]; exact (Array.getElem?_eq_some_iff.1 hv).1
    refine ⟨hi,?_⟩
    have := hget i hi
    rw [hv] at this
    simp only [Option.some.injEq] at this
    have hlt : i % sz < z.cells.size := by rw [hrow.1]; exact Nat.mod_lt _ (by omega)
    rw [this,hrow.1,getElem!_pos z.cells (i % sz) hlt]
    exact Array.getElem?_eq_getElem hlt
   refine ⟨hcs,fun i v hv => hrow.2.1 _ v (hval i v hv).2,fun i v hv => ?_⟩
   obtain ⟨hi,hv⟩ := hval i v hv
   rw [hcell i hi]
   exact hrow.2.2 _ v hv
 ·cases hz
theorem range0 : Array.range 0 = #[] := by simp [Array.range]
theorem odd_half (t : Nat) : (2 * t + 1) / 2 = t := by omega
theorem even_half (t : Nat) : 2 * t / 2 = t := by omega
theorem calm0 (n : Nat) : Calm (0,0) n := fun i hi => by simp
theorem HS.row (H : HS σ h nx w0 B w) (hnx : nx < 2 ^ HD) {ty n : Nat} {t : AV} {cs : Array Value} {fr : Nat × Nat} {w' : World} (hw : w'.heap = w.heap.push (.cells cs (ty / 2) fr)) (hex : ty % 2 = 1 → n = cs.size) (h1 : w'.os = w.os) (h2 : w'.tape = w.tape) (h3 : w'.output = w.output)
  (hn : n ≤ cs.size) (hfr : Calm fr cs.size) (hc : ∀ i,i < n → ∃ v,cs[i]? = some v ∧ one v = true ∧ Rel σ (cget (lg n) t i) v) :
  HS (ext σ nx (w.heap.size,0,cs.size)) (cput HD h nx (.cells ty n false t)) (nx + 1) w0 B w' := by
 refine H.new hnx (p := (w.heap.size,0,cs.size)) rfl hw h1 h2 h3 ⟨w.heap.size,0,cs.size,cs,fr,ty / 2,by simp [ext],by rw [hw]; simp,rfl,⟨rfl,by omega,hex⟩,fun i hi => ?_,fun _ => ⟨hfr,.inr H.size⟩,fun _ => rfl⟩
 obtain ⟨v,g1,g2,g3⟩ := hc i hi
 exact ⟨v,by rw [Nat.zero_add]; exact g1,g2,g3.mono (H.sub_ext _)⟩
theorem RowRel.all {n : Nat} {t : AV} {cs : Array Value} (hr : RowRel σ n t cs) : ∀ i,i < n → ∃ v,cs[i]? = some v ∧ one v = true ∧ Rel σ (cget (lg n) t i) v := fun i hi => by
 have hlt : i < cs.size := by rw [hr.1]; exact hi
 have hg : cs[i]? = some cs[i] := Array.getElem?_eq_getElem hlt
 exact ⟨_,hg,hr.2.1 i _ hg,hr.2.2 i _ hg⟩
def NewOk (P : Program) (σ : Sg) (h : AV) (nx : Nat) (w0 : World) (B : Fr) (w : World) (s : Sem Next) (nv : NV) (x : AV) : Prop :=
 ∃ p v w',(s.run P w = .ok (.value v) w') ∧ Rel (ext σ nx p) (nv.at nx) v ∧ HS (ext σ nx p) (cput HD h nx x) (nx + 1) w0 B w'
def NewCore (P : Program) (σ : Sg) (w0 : World) (B : Fr) (w : World) (s : Sem Next) (nv : NV) (x : AV) : Prop :=
 ∃ p v w' ob,s.run P w = .ok (.value v) w' ∧ w'.heap = w.heap.push ob ∧ w'.os = w.os ∧ w'.tape = w.tape ∧ w'.output = w.output ∧ p.1 = w.heap.size ∧ liveW x = true ∧
  ∀ b σ',Sub σ σ' → σ' b = some p → Rel σ' (nv.at b) v ∧ BlkRel σ' w0 B w' b x
theorem row_core (hsz : w0.heap.size ≤ w.heap.size) {ty n : Nat} {t : AV} {cs : Array Value} {fr : Nat × Nat} {w' : World} (hw : w'.heap = w.heap.push (.cells cs (ty / 2) fr)) (hex : ty % 2 = 1 → n = cs.size) (hn : n ≤ cs.size) (hfr : Calm fr cs.size)
  (hc : ∀ i,i < n → ∃ v,cs[i]? = some v ∧ one v = true ∧ Rel σ (cget (lg n) t i) v) {b : Nat} {σ' : Sg} (hs : Sub σ σ') (hb : σ' b = some (w.heap.size,0,cs.size)) : BlkRel σ' w0 B w' b (.cells ty n false t) := by
 refine ⟨w.heap.size,0,cs.size,cs,fr,ty / 2,hb,by rw [hw]; simp,rfl,⟨rfl,by omega,hex⟩,fun i hi => ?_,fun _ => ⟨hfr,.inr hsz⟩,fun _ => rfl⟩
 obtain ⟨v,g1,g2,g3⟩ := hc i hi
 exact ⟨v,by rw [Nat.zero_add]; exact g1,g2,g3.mono hs⟩
theorem anew_core {ρ : Operand → AV} {ev : Operand → Value} {o : Oper} {nv : NV} {x : AV} (hsz : w0.heap.size ≤ w.heap.size) (hρ : ∀ x,Rel σ (ρ x) (ev x)) (ha : anew P ρ o = some (nv,x)) :
  NewCore P σ w0 B w (execOp ev o) nv x := by
 obtain ⟨dst,op,oty,pos,after,guard⟩ := o
 unfold anew at ha
 dsimp only at ha
 split at ha
 ·rename_i t
  split at ha
  ·rename_i n s hr
   simp only [Option.some.injEq,Prod.mk.injEq] at ha
   obtain ⟨rfl,rfl⟩ := ha
   have hbad : zeroA P t ≠ .bad := fun hb => by rw [hb] at hr; simp [rowA,scalarA] at hr
   obtain ⟨z,hzv,hzr⟩ := zeroA_ok (P := P) (t := t) rfl hbad σ
   have hrow := rowA_ok hzr hr
   refine ⟨(w.heap.size,0,z.cells.size),_,w.alloc (.cells z.cells t (0,0)),.cells z.cells t (0,0),?_,rfl,rfl,rfl,rfl,rfl,rfl,fun b σ' hs hb => ⟨.ptr _ _ w.heap.size 0 z.cells.size 0 hb rfl,row_core hsz (by rw [odd_half]; rfl) (fun _ => hrow.1.symm) (by rw [hrow.1]; exact Nat.le_refl _) (calm0 _) hrow.all hs hb⟩⟩
   simp [execOp,Instr.alloc,run_zeroValue hzv,newVar,newRow,newObj,Sem.run]
  ·cases ha
 ·rename_i t y
  split at ha
  ·rename_i n s hr
   simp only [Option.some.injEq,Prod.mk.injEq] at ha
   obtain ⟨rfl,rfl⟩ := ha
   have hrow := rowA_ok (hρ y) hr
   refine ⟨(w.heap.size,0,(ev y).cells.size),_,w.alloc (.cells (ev y).cells t (0,0)),.cells (ev y).cells t (0,0),?_,rfl,rfl,rfl,rfl,rfl,rfl,fun b σ' hs hb => ⟨.ptr _ _ w.heap.size 0 (ev y).cells.size 0 hb rfl,row_core hsz (by rw [odd_half]; rfl) (fun _ => hrow.1.symm) (by rw [hrow.1]; exact Nat.le_refl _) (calm0 _) hrow.all hs hb⟩⟩
   simp [execOp,Instr.box,newVar,newRow,newObj,Sem.run]
  ·cases ha
 ·rename_i t len ps
  split at ha
  ·rename_i e hu
   split at ha
   ·rename_i inf hinf
    cases hz0 : (Nat.beq len 0 && Nat.beq ps.size 0) with
    | true =>
     simp only [hz0,cond_true,Option.some.injEq,Prod.mk.injEq] at ha
     obtain ⟨rfl,rfl⟩ := ha
     simp only [Bool.and_eq_true] at hz0
     have e1 := beqn_iff.1 hz0.1
     have e2 : ps = #[] := Array.eq_empty_of_size_eq_zero (beqn_iff.1 hz0.2)
     subst e1; subst e2
     refine ⟨(w.heap.size,0,0),_,w.alloc (.cells #[] e (0,0)),.cells #[] e (0,0),?_,rfl,rfl,rfl,rfl,rfl,rfl,fun b σ' hs hb => ⟨.sl _ _ _ _ _ w.heap.size 0 0 0 0 hb (Nat.le_refl _) (Nat.le_refl _) (fun _ => rfl) (by simp),⟨w.heap.size,0,0,#[],(0,0),e,hb,K.get_alloc w _,rfl,⟨rfl,Nat.le_refl _,fun _ => rfl⟩,fun i hi => absurd hi (Nat.not_lt_zero i),fun _ => ⟨calm0 _,.inr hsz⟩,fun _ => (odd_half e).symm⟩⟩⟩
     simp only [execOp]
     refine run_v ?_
     simp only [Instr.buildSlice,Sem.run_bind,run_underlying' hu,Result.andThen_ok,run_sizeOf' hinf,Nat.zero_mul]
     simp [newRow,newObj,Sem.run,Instr.fill,range0]
    | false =>
    simp only [hz0,cond_false] at ha
    cases hb : (Nat.ble (len * inf.size) 16777216 && !(Nat.beq (len * inf.size) 0)) with
    | false => simp [hb] at ha
    | true =>
     simp only [hb,cond_true] at ha
     simp only [Bool.and_eq_true,Bool.not_eq_true'] at hb
     have e1 := ble_iff.1 hb.1
     have e2 : len * inf.size ≠ 0 := fun e => by rw [beqn_iff.2 e] at hb; simp at hb
     split at ha
     ·rename_i z hz
      split at ha
      ·rename_i u hf
       simp only [Option.some.injEq,Prod.mk.injEq] at ha
       obtain ⟨rfl,rfl⟩ := ha
       obtain ⟨zv,hzv,hz0,hzr⟩ := zrep_ok hz σ
       obtain ⟨q1,q2⟩ := parts_rel hρ ps
       have hrow := hzr ((Array.range (len * inf.size)).map (zv.cells[· % zv.cells.size]!)) (by simp) (fun i hi => by simp [hi])
       obtain ⟨cs,h6,h7⟩ := fillA_ok q1 q2 hrow hf
       refine ⟨(w.heap.size,0,cs.size),_,w.alloc (.cells cs e (0,0)),.cells cs e (0,0),?_,rfl,rfl,rfl,rfl,rfl,rfl,fun b σ' hs hb => ⟨.sl _ _ _ _ _ w.heap.size 0 cs.size 0 len hb (Nat.le_refl _) (Nat.le_refl _) (fun _ => rfl) (by rw [h7.1]; omega),row_core hsz (by rw [odd_half]; rfl) (fun _ => h7.1.symm) (by rw [h7.1]; exact Nat.le_refl _) (calm0 _) h7.all hs hb⟩⟩
       have e3 : ¬ (len * inf.size > 2 ^ 24) := by omega
       simp only [execOp]
       refine run_v ?_
       simp only [Instr.buildSlice,Sem.run_bind,run_underlying' hu,Result.andThen_ok,run_sizeOf' hinf,e3,if_false,e2,run_zeroValue hzv,Sem.run_pure,h6]
       simp [newRow,newObj,Sem.run]
      ·cases ha
     ·cases ha
   ·cases ha
  ·cases ha
 ·rename_i t
  simp only [Option.some.injEq,Prod.mk.injEq] at ha
  obtain ⟨rfl,rfl⟩ := ha
  refine ⟨(w.heap.size,0,0),_,w.alloc (.map #[] 0),.map #[] 0,?_,rfl,rfl,rfl,rfl,rfl,rfl,fun b σ' hs hb => ⟨.map _ w.heap.size 0 0 hb,⟨w.heap.size,0,0,#[],0,hb,K.get_alloc w _,⟨trivial,Go.MapKept.stamped_empty 0⟩,.inr hsz⟩⟩⟩
  simp [execOp,Instr.makeMap,newObj,Sem.run]
 ·rename_i t y
  split at ha
  ·rename_i k e kk m hu he
   simp only [Option.some.injEq,Prod.mk.injEq] at ha
   obtain ⟨rfl,rfl⟩ := ha
   have hy := hρ y
   rw [he] at hy
   generalize hyv : ev y = yv at hy
   cases hy
   refine ⟨(w.heap.size,0,0),_,w.alloc (.map #[] 0),.map #[] 0,?_,rfl,rfl,rfl,rfl,rfl,rfl,fun b σ' hs hb => ⟨.map _ w.heap.size 0 0 hb,⟨w.heap.size,0,0,#[],0,hb,K.get_alloc w _,⟨trivial,Go.MapKept.stamped_empty 0⟩,.inr hsz⟩⟩⟩
   simp [execOp,Instr.makeMap,newObj,Sem.run,hyv,run_underlying' hu,asInt,asIntOf]
  ·cases ha
 ·rename_i t l c
  split at ha
  ·rename_i e k1 n k2 m hu he1 he2
   split at ha
   ·rename_i inf hinf
    cases hz0 : (Nat.beq n 0 && Nat.beq m 0) with
    | true =>
     simp only [hz0,cond_true,Option.some.injEq,Prod.mk.injEq] at ha
     obtain ⟨rfl,rfl⟩ := ha
     simp only [Bool.and_eq_true] at hz0
     have e1 := beqn_iff.1 hz0.1
     have e2 := beqn_iff.1 hz0.2
     subst e1; subst e2
     have hl := hρ l
     have hc := hρ c
     rw [he1] at hl
     rw [he2] at hc
     generalize hlv : ev l = lv at hl
     generalize hcv : ev c = cv at hc
     cases hl; cases hc
     refine ⟨(w.heap.size,0,0),.slice (some ⟨w.heap.size,0,none⟩) 0 0,w.alloc (.cells #[] e (0,0)),.cells #[] e (0,0),?_,rfl,rfl,rfl,rfl,rfl,rfl,fun b σ' hs hb => ⟨.sl _ _ _ _ _ w.heap.size 0 0 0 0 hb (Nat.le_refl _) (Nat.le_refl _) (fun _ => rfl) (by simp),⟨w.heap.size,0,0,#[],(0,0),e,hb,K.get_alloc w _,rfl,⟨rfl,Nat.le_refl _,fun _ => rfl⟩,fun i hi => absurd hi (Nat.not_lt_zero i),fun _ => ⟨calm0 _,.inr hsz⟩,fun _ => (odd_half e).symm⟩⟩⟩
     have w1 : IntKind.i64.wrap (Int.ofNat 0) = Int.ofNat 0 := K.wrap_in (by simp [K.lo,K.hi])
     have c1 : ¬ ((Int.ofNat 0 : Int) < 0) := by simp
     have c2 : ¬ ((inf.bytes : Int) * (Int.ofNat 0 : Int) > 2 ^ 48) := by simp
     have c4 : ¬ ((Int.ofNat 0 : Int) > Int.ofNat 0) := by simp
     have hti : (typeInfo e).run P w = .ok inf w := by simp [typeInfo,program,Sem.run,hinf]
     have har : (askRoom ((Int.ofNat 0).toNat * inf.bytes)).run P w = .ok () w := by
      unfold askRoom
      split <;> rfl
     simp only [execOp]
     refine run_v ?_
     simp only [Instr.makeSlice,Sem.run_bind,run_underlying' hu,Result.andThen_ok,hlv,hcv,asInt,asIntOf,Sem.run_pure,hti,w1,c1,c2,c4,decide_false,Bool.or_self,Bool.false_eq_true,if_false,har,run_sizeOf' hinf]
     rw [show (Int.ofNat 0).toNat = 0 from rfl]
     simp only [Nat.zero_mul,if_true,Sem.run_bind,Result.andThen_ok,Sem.run_pure]
     simp [newRow,newObj,Sem.run,range0]
    | false =>
    simp only [hz0,cond_false] at ha
    cases hb : (Nat.ble n m && (Nat.ble (inf.bytes * m) 281474976710656 && (Nat.ble m 9223372036854775807 && !(Nat.beq (m * inf.size) 0)))) with
    | false => simp [hb] at ha
    | true =>
     simp only [hb,cond_true] at ha
     simp only [Bool.and_eq_true,Bool.not_eq_true'] at hb
     have e1 := ble_iff.1 hb.1
     have e2 := ble_iff.1 hb.2.1
     have e4 := ble_iff.1 hb.2.2.1
     have e3 : m * inf.size ≠ 0 := fun e => by rw [beqn_iff.2 e] at hb; simp at hb
     split at ha
     ·rename_i z hz
      simp only [Option.some.injEq,Prod.mk.injEq] at ha
      obtain ⟨rfl,rfl⟩ := ha
      have hl := hρ l
      have hc := hρ c
      rw [he1] at hl
      rw [he2] at hc
      generalize hlv : ev l = lv at hl
      generalize hcv : ev c = cv at hc
      cases hl; cases hc
      obtain ⟨zv,hzv,hz0,hzr⟩ := zrep_ok hz σ
      have hrow := hzr ((Array.range (m * inf.size)).map (zv.cells[· % zv.cells.size]!)) (by simp) (fun i hi => by simp [hi])
      generalize hcs : (Array.range (m * inf.size)).map (zv.cells[· % zv.cells.size]!) = cs at hrow
      refine ⟨(w.heap.size,0,cs.size),.slice (some ⟨w.heap.size,0,none⟩) n m,w.alloc (.cells cs e (0,0)),.cells cs e (0,0),?_,rfl,rfl,rfl,rfl,rfl,rfl,fun b σ' hs hb => ⟨.sl _ _ _ _ _ w.heap.size 0 cs.size 0 m hb e1 (Nat.le_refl _) (fun _ => rfl) (by rw [hrow.1]; omega),row_core hsz (by rw [odd_half]; rfl) (fun _ => hrow.1.symm) (by rw [hrow.1]; exact Nat.le_refl _) (calm0 _) hrow.all hs hb⟩⟩
      have w1 : IntKind.i64.wrap (Int.ofNat n) = Int.ofNat n := K.wrap_in (by simp [K.lo,K.hi]; omega)
      have w2 : IntKind.i64.wrap (Int.ofNat m) = Int.ofNat m := K.wrap_in (by simp [K.lo,K.hi]; omega)
      have c1 : ¬ ((Int.ofNat m : Int) < 0) := by simp
      have c2 : ¬ ((inf.bytes : Int) * (Int.ofNat m : Int) > 2 ^ 48) := by
       have : ((inf.bytes * m : Nat) : Int) ≤ 281474976710656 := by omega
       simp only [Int.natCast_mul] at this
       simp only [Int.ofNat_eq_natCast]; omega
      have c3 : ¬ ((Int.ofNat n : Int) < 0) := by simp
      have c4 : ¬ ((Int.ofNat n : Int) > Int.ofNat m) := by simp; omega
      have hti : (typeInfo e).run P w = .ok inf w := by simp [typeInfo,program,Sem.run,hinf]
      have har : (askRoom ((Int.ofNat m).toNat * inf.bytes)).run P w = .ok () w := by
       unfold askRoom
       split <;> rfl
      simp only [execOp]
      refine run_v ?_
      simp only [Instr.makeSlice,Sem.run_bind,run_underlying' hu,Result.andThen_ok,hlv,hcv,asInt,asIntOf,Sem.run_pure,hti,w1,w2,c1,c2,c3,c4,decide_false,Bool.or_self,Bool.false_eq_true,if_false,har,run_sizeOf' hinf]
      rw [show (Int.ofNat m).toNat = m from rfl,show (Int.ofNat n).toNat = n from rfl]
      simp only [e3,if_false,Sem.run_bind,run_zeroValue hzv,Result.andThen_ok,Sem.run_pure,hcs]
      simp [newRow,newObj,Sem.run]
     ·cases ha
   ·cases ha
  ·cases ha
 ·rename_i src dst y
  split at ha
  ·rename_i d0 e n s hu1 hu2 he
   split at ha
   ·rename_i hue
    simp only [Option.some.injEq,Prod.mk.injEq] at ha
    obtain ⟨rfl,rfl⟩ := ha
    have hy := hρ y
    rw [he] at hy
    generalize hyv : ev y = yv at hy
    cases hy with
    | str t _ _ hn hs =>
    subst hn; subst hs
    let cap := (Question.appendCap t.size 0 e).cut (w.tape w.drawn (.appendCap t.size 0 e))
    have hcap : t.size ≤ cap := Nat.le_add_right _ _
    let cs : Array Value := (t.data.map fun b => Value.int .u8 b.toNat) ++ Array.replicate (cap - t.size) (.int .u8 0)
    have hcs : cs.size = cap := by simp [cs]; show t.size + (cap - t.size) = cap; omega
    let w1 : World := { w with drawn := w.drawn + 1 }
    let w2 : World := (w1.alloc (.cells cs e (0,0))).freeze ⟨w.heap.size,cap,none⟩ 1
    have hw2 : w2.heap = w1.heap.push (.cells cs e (cap,cap + 1)) := by
     simp only [w2,World.freeze,World.alloc,Nat.one_ne_zero,if_false]
     apply Array.ext_getElem?
     intro k
     simp only [Array.getElem?_modify]
     by_cases hk : w.heap.size = k
     ·subst hk; simp [w1]
     ·simp only [hk,if_false]
      simp only [Array.getElem?_push,w1]
      rw [if_neg (fun h => hk h.symm),if_neg (fun h => hk h.symm)]
    have hget : ∀ i,i < t.size → cs[i]? = some (.int .u8 (Int.ofNat (sbyte t.size (val t.data.toList) i))) := fun i hi => by
     have hl : i < t.data.toList.length := by simpa using hi
     have hg := val_get hl
     have hlen : t.data.toList.length = t.size := by simp
     rw [hlen] at hg
     have hi' : i < t.data.size := hi
     simp only [cs]
     rw [Array.getElem?_append_left (by simpa using hi')]
     simp only [Array.getElem?_map,Array.getElem?_eq_getElem hi',Option.map_some,← hg]
     simp
    refine ⟨(w.heap.size,0,cs.size),.slice (some ⟨w.heap.size,0,none⟩) t.size cap,w2,.cells cs e (cap,cap + 1),?_,hw2,rfl,rfl,rfl,rfl,rfl,fun b σ' hs hb => ⟨.sl _ _ _ _ _ w.heap.size 0 cs.size 0 cap hb (Nat.le_refl _) hcap (fun _ => rfl) (by rw [hcs]; omega),?_⟩⟩
    ·have hstb : (Conv.stringToBytes e t).run P w = .ok (.slice (some ⟨w.heap.size,0,none⟩) t.size cap) w2 := by
      have hsh : (w1.alloc (.cells cs e (0,0))).shape? w.heap.size = some (e,cap) := by
       simp [World.shape?,World.alloc,w1,hcs]
      have hsh' : World.shape? { w1 with heap := w1.heap.push (.cells cs e (0,0)) } w.heap.size = some (e,cap) := hsh
      unfold Conv.stringToBytes
      simp only [Sem.run_bind]
      show _ = Result.ok (Value.slice (some ⟨w.heap.size,0,none⟩) t.size cap) w2
      simp only [choose,Sem.run,Question.forced,Bool.false_eq_true,if_false,Result.andThen_ok,newRow,newObj,Sem.run_bind,Sem.run_pure]
      simp only [markStringish,shape,Sem.run_bind,Sem.run]
      have hh : World.shape? { heap := w.heap.push (.cells ((t.data.map fun b => Value.int .u8 b.toNat) ++ Array.replicate ((Question.appendCap t.size 0 e).cut (w.tape w.drawn (.appendCap t.size 0 e)) - t.size) (.int .u8 0)) e),tape := w.tape,drawn := w.drawn + 1,os := w.os,output := w.output } w.heap.size = some (e,cap) := hsh'
      rw [hh]
      rfl
     simp only [execOp]
     refine run_v ?_
     simp only [convert,Sem.run_bind,run_underlying' hu1,run_underlying' hu2,Result.andThen_ok,hyv,run_underlying' hue,hstb]
    ·exact row_core (w := w1) hsz (by rw [even_half]; exact hw2) (fun h => by omega) (by rw [hcs]; exact hcap) (fun i hi => by
      rw [hcs] at hi
      simp; omega) (fun i hi => ⟨_,hget i hi,rfl,by rw [cget_strN hi]; exact .int _ _⟩) hs hb
   ·cases ha
  ·cases ha
 ·cases ha
theorem anew_ok {ρ : Operand → AV} {ev : Operand → Value} {o : Oper} {nv : NV} {x : AV} (H : HS σ h nx w0 B w) (hnx : nx < 2 ^ HD) (hρ : ∀ x,Rel σ (ρ x) (ev x)) (ha : anew P ρ o = some (nv,x)) :
  NewOk P σ h nx w0 B w (execOp ev o) nv x := by
 obtain ⟨p,v,w',ob,h1,h2,h3,h4,h5,h6,_,h7⟩ := anew_core (P := P) (w0 := w0) (B := B) H.size hρ ha
 obtain ⟨h8,h9⟩ := h7 nx (ext σ nx p) (H.sub_ext p) (by simp [ext])
 exact ⟨p,v,w',h1,h8,H.new hnx h6 h2 h3 h4 h5 h9⟩
end
end I
end Go.Proofs.YtohjpggjgomgoaaGreatDoor
namespace Go.Proofs.YtohjpggjgomgoaaGreatDoor
namespace I
open K (one aggB run_underlying' run_sizeOf' add_none run_v cell_cells)
set_option linter.unusedVariables false
def grow : Nat → Nat → AV → AV
 | 0,_,t => t
 | k + 1,d,t => grow k (d + 1) (.node t (unid d .undef))
theorem cget_grow : ∀ (k d : Nat) (t : AV) (i : Nat),i < 2 ^ d → cget (d + k) (grow k d t) i = cget d t i
 | 0,d,t,i,_ => rfl
 | k + 1,d,t,i,hi => by
  have hp : 2 ^ (d + 1) = 2 ^ d + 2 ^ d := by rw [Nat.pow_succ]; omega
  have ih := cget_grow k (d + 1) (.node t (unid d .undef)) i (by omega)
  rw [show d + (k + 1) = (d + 1) + k by omega]
  rw [grow,ih,cget_kids,blt_iff.2 hi]; rfl
def catA (n : Nat) (s : AV) (m : Nat) (u : AV) : AV := cblit (lg (n + m)) (grow (lg (n + m) - lg n) (lg n) s) n m u
theorem lg_mono {n m : Nat} (h : n ≤ m) : lg n ≤ lg m := by
 unfold lg
 cases h1 : Nat.ble n 1 with
 | true => simp
 | false =>
  have hn : ¬ n ≤ 1 := fun hh => by rw [ble_iff.2 hh] at h1; cases h1
  have hm : Nat.ble m 1 = false := by
   cases h2 : Nat.ble m 1 with
   | false => rfl
   | true => have := ble_iff.1 h2; omega
  rw [hm]
  simp only [cond_false,Nat.add_le_add_iff_right]
  rw [Nat.le_log2 (by omega)]
  exact Nat.le_trans (Nat.log2_self_le (by omega)) (by omega)
theorem cget_catA {n m : Nat} {s u : AV} {i : Nat} (hi : i < n + m) : cget (lg (n + m)) (catA n s m u) i = if i < n then cget (lg n) s i else cget (lg m) u (i - n) := by
 have h1 := lg_le (n + m)
 have h2 := lg_le n
 unfold catA
 rw [cget_cblit (by omega) (by omega)]
 have hd : lg (n + m) = lg n + (lg (n + m) - lg n) := by have := lg_mono (show n ≤ n + m by omega); omega
 by_cases hin : i < n
 ·rw [if_neg (by omega),if_pos hin]
  conv => lhs; rw [hd]
  rw [show lg n + (lg (n + m) - lg n) - lg n = lg (n + m) - lg n by omega]
  exact cget_grow _ _ _ _ (by omega)
 ·rw [if_pos (by omega),if_neg hin]
section
variable {P : Program} {σ : Sg} {h : AV} {nx : Nat} {w0 w : World} {B : Fr}
theorem spl_get : ∀ (vs : List Value) (cs : Array Value) (off : Nat),off + vs.length ≤ cs.size → (K.spl cs off vs).size = cs.size ∧ ∀ j,(K.spl cs off vs)[j]? = if off ≤ j ∧ j < off + vs.length then vs[j - off]? else cs[j]?
 | [],cs,off,_ => ⟨rfl,fun j => by rw [if_neg (by simp)]; rfl⟩
 | v :: vs,cs,off,hl => by
  simp only [List.length_cons] at hl
  obtain ⟨h1,h2⟩ := spl_get vs (cs.setIfInBounds off v) (off + 1) (by simp; omega)
  refine ⟨by rw [K.spl,h1]; simp,fun j => ?_⟩
  rw [K.spl,h2 j]
  by_cases hjo : j = off
  ·subst hjo
   rw [if_neg (by omega),if_pos (by simp),Array.getElem?_setIfInBounds]
   simp; omega
  ·by_cases hin : off + 1 ≤ j ∧ j < off + 1 + vs.length
   ·rw [if_pos hin,if_pos (by simp; omega),show j - off = (j - (off + 1)) + 1 by omega,List.getElem?_cons_succ]
   ·rw [if_neg hin,if_neg (by simp; omega),Array.getElem?_setIfInBounds,if_neg (by omega)]
theorem run_storeCells {b off : Nat} {t : TypeId} {fr : Nat × Nat} : ∀ (vs : List Value) (i : Nat) (cs : Array Value) (w : World),w.heap[b]? = some (.cells cs t fr) → Calm fr cs.size → off + i + vs.length ≤ cs.size → (∀ v ∈ vs,one v = true) →
  ∃ w',(storeCells ⟨b,off,none⟩ vs i).run P w = .ok () w' ∧ w'.heap = w.heap.setIfInBounds b (.cells (K.spl cs (off + i) vs) t fr) ∧ w'.os = w.os ∧ w'.tape = w.tape ∧ w'.output = w.output
 | [],i,cs,w,hb,_,_,_ => by
  refine ⟨w,rfl,?_,rfl,rfl,rfl⟩
  simp only [K.spl]
  apply Array.ext_getElem?
  intro k
  have hlt := lt_of_get hb
  by_cases hk : b = k
  ·subst hk; rw [hb]; simp [hlt]
  ·simp [hk]
 | v :: vs,i,cs,w,hb,hcm,hl,h1 => by
  have hi : off + i < cs.size := by simp at hl; omega
  have hc : w.cell? ⟨b,off + i,none⟩ = some (cs[off + i]) := by rw [cell_cells hb]; exact Array.getElem?_eq_getElem hi
  have hfz : w.frozen? ⟨b,off + i,none⟩ = false := by
   simp only [World.frozen?,hb]
   exact hcm _ hi
  have hv1 := h1 v (List.mem_cons_self ..)
  have hst : (store (Addr.add ⟨b,off,none⟩ i) v).run P w = .ok () (w.setCell ⟨b,off + i,none⟩ v) := by
   rw [add_none]
   unfold store
   cases v <;> simp [K.one] at hv1 <;> simp [Sem.run,hc,hfz]
  have hh := K.setCell_heap (off := off + i) (v := v) hb
  have hb' : (w.setCell ⟨b,off + i,none⟩ v).heap[b]? = some (.cells (cs.setIfInBounds (off + i) v) t fr) := by rw [hh]; simp [lt_of_get hb]
  obtain ⟨w',hr,hw,h2,h3,h4⟩ := run_storeCells (off := off) vs (i + 1) _ _ hb' (by simpa using hcm) (by simp at hl ⊢; omega) (fun x hx => h1 x (List.mem_cons_of_mem _ hx))
  refine ⟨w',?_,?_,h2,h3,h4⟩
  ·unfold storeCells
   simp only [Sem.run_bind,hst,Result.andThen_ok,hr]
  ·rw [hw,hh]
   simp only [K.spl]
   apply Array.ext_getElem?
   intro k
   by_cases hk : b = k
   ·subst hk; simp [lt_of_get hb,Nat.add_assoc]
   ·simp [hk]
theorem HS.write (H : HS σ h nx w0 B w) {b r base size ty n off m : Nat} {t s : AV} {vs : Array Value} (hs : σ b = some (r,base,size)) (hc : cget HD h b = .cells ty n false t) (hv : RowRel σ m s vs) (ho : off + m ≤ n) :
  ∃ w',(storeCells ⟨r,base + off,none⟩ vs.toList 0).run P w = .ok () w' ∧ HS σ (cput HD h b (.cells ty n false (cblit (lg n) t off m s))) nx w0 B w' := by
 obtain ⟨cs,fr,h1,h2,h3,h4,h5⟩ := H.cellsT hs hc (.inl rfl)
 obtain ⟨h6,h7⟩ := h5 rfl
 have hlen : vs.toList.length = m := by simpa using hv.1
 obtain ⟨w',hr,hw,g1,g2,g3⟩ := run_storeCells (P := P) (off := base + off) vs.toList 0 cs w h1 (by rw [h2]; exact h6) (by rw [hlen]; omega) (fun v hm => by
  obtain ⟨i,hi⟩ := List.mem_iff_getElem?.1 hm
  exact hv.2.1 i v (by simpa using hi))
 refine ⟨w',hr,?_⟩
 obtain ⟨e1,e2⟩ := spl_get vs.toList cs (base + off + 0) (by rw [hlen]; omega)
 have hn := lg_le n
 have hb' : w'.heap[r]? = some (.cells (K.spl cs (base + off + 0) vs.toList) (ty / 2) fr) := by rw [hw]; simp [lt_of_get h1]
 refine H.upd hs (by rw [hc]; rfl) h7 hw g1 g2 g3 ⟨r,base,size,_,fr,ty / 2,hs,hb',by rw [e1]; exact h2,h3,fun i hi => ?_,fun _ => ⟨h6,h7⟩,fun _ => rfl⟩
 rw [e2 (base + i),hlen,cget_cblit (by omega) (by omega)]
 by_cases hin : off ≤ i ∧ i < off + m
 ·rw [if_pos (by omega),if_pos hin]
  have hlt : i - off < vs.size := by rw [hv.1]; omega
  have hg : vs[i - off]? = some vs[i - off] := Array.getElem?_eq_getElem hlt
  refine ⟨_,?_,hv.2.1 _ _ hg,hv.2.2 _ _ hg⟩
  rw [show base + i - (base + off + 0) = i - off by omega]
  simp
 ·rw [if_neg (by omega),if_neg hin]
  exact h4 i hi
def lenA : AV → Option Nat
 | .sl _ _ n _ _ => some n
 | .nils => some 0
 | .str n _ => some n
 | _ => none
def firstA (h : AV) (sz k : Nat) (y : AV) : Option AV :=
 bif Nat.beq k 0 then some .undef else
 match y with
 | .sl b off len lb sz' => match cget HD h b with
  | .cells _ n _ t => bif Nat.beq sz sz' && (Nat.ble (off + k * sz) n && !(Nat.beq lb 0)) then some (crow (lg n) t off (k * sz)) else none
  | _ => none
 | .str m x => bif Nat.beq sz 1 && Nat.ble k m then some (strN k (x / 256 ^ (m - k))) else none
 | _ => none
theorem lenA_ok {y : AV} {yv : Value} {n : Nat} (hy : Rel σ y yv) (hl : lenA y = some n) : (Builtin.lenOf yv).run P w = .ok n w := by
 cases hy <;> simp only [lenA,Option.some.injEq,reduceCtorEq] at hl
 ·subst hl; rename_i hn _; subst hn; rfl
 ·subst hl; rfl
 ·subst hl; rfl
theorem firstA_ok {sz k n : Nat} {y u : AV} {yv : Value} (H : HS σ h nx w0 B w) (hy : Rel σ y yv) (hl : lenA y = some n) (hk : k ≤ n) (hf : firstA h sz k y = some u) :
  ∃ cs,(∀ w1 : World,w1.heap = w.heap → (Builtin.firstCells sz k yv).run P w1 = .ok cs w1) ∧ RowRel σ (k * sz) u cs := by
 unfold firstA at hf
 cases h0 : Nat.beq k 0 with
 | true =>
  have := beqn_iff.1 h0
  subst this
  simp only [h0,cond_true,Option.some.injEq] at hf
  subst hf
  refine ⟨#[],fun w1 hw1 => ?_,by simp,fun i v hv => by simp at hv,fun i v hv => by simp at hv⟩
  cases hy <;> simp only [lenA,reduceCtorEq] at hl
  ·simp [Builtin.firstCells]
  ·simp [Builtin.firstCells]
  ·simp [Builtin.firstCells,loadCells,loadCellsFrom]
 | false =>
  have hk0 : k ≠ 0 := fun e => by rw [beqn_iff.2 e] at h0; cases h0
  simp only [h0,cond_false] at hf
  split at hf
  ·rename_i b off len lb sz'
   cases hy with
   | sl _ _ _ _ _ r base size o cap hs q1 q2 q3 q4 =>
   split at hf
   ·rename_i ety m ro t hc
    cases hb : (Nat.beq sz sz' && (Nat.ble (off + k * sz) m && !(Nat.beq lb 0))) with
    | false => simp [hb] at hf
    | true =>
     simp only [hb,cond_true,Option.some.injEq] at hf
     simp only [Bool.and_eq_true,Bool.not_eq_true'] at hb
     have e1 := ble_iff.1 hb.2.1
     have e2 : lb ≠ 0 := fun e => by rw [beqn_iff.2 e] at hb; simp at hb
     have e3 := q3 e2
     obtain ⟨cs,fr,tt,h1,h2,h3,h4,h5⟩ := H.cells hs hc
     subst hf
     have hm := lg_le m
     have hex : ∀ i,i < k * sz → ∃ v,(cs.extract o (o + k * sz))[i]? = some v ∧ one v = true ∧ Rel σ (cget (lg (k * sz)) (crow (lg m) t off (k * sz)) i) v := fun i hi => by
      obtain ⟨v,g1,g2,g3⟩ := h4 (off + i) (by omega)
      refine ⟨v,?_,g2,?_⟩
      ·rw [Array.getElem?_extract,if_pos (by omega),← g1]; congr 1; omega
      ·rw [cget_crow (by omega) hi]; exact g3
     have hsz : (cs.extract o (o + k * sz)).size = k * sz := by simp; omega
     refine ⟨cs.extract o (o + k * sz),fun w1 hw1 => ?_,hsz,fun i v hv => ?_,fun i v hv => ?_⟩
     ·have h1' : w1.heap[r]? = some (.cells cs tt fr) := by rw [hw1]; exact h1
      simp only [Builtin.firstCells]
      exact load_cells h1' (by omega)
     ·have hi : i < k * sz := by rw [← hsz]; exact (Array.getElem?_eq_some_iff.1 hv).1
      obtain ⟨u,g1,g2,g3⟩ := hex i hi
      rw [hv] at g1; simp only [Option.some.injEq] at g1; rw [g1]; exact g2
     ·have hi : i < k * sz := by rw [← hsz]; exact (Array.getElem?_eq_some_iff.1 hv).1
      obtain ⟨u,g1,g2,g3⟩ := hex i hi
      rw [hv] at g1; simp only [Option.some.injEq] at g1; rw [g1]; exact g3
   ·cases hf
  ·rename_i m x
   cases hy with
   | str t _ _ hn hx =>
   cases hb : (Nat.beq sz 1 && Nat.ble k m) with
   | false => simp [hb] at hf
   | true =>
    simp only [hb,cond_true,Option.some.injEq] at hf
    simp only [Bool.and_eq_true] at hb
    have e1 := beqn_iff.1 hb.1
    have e2 := ble_iff.1 hb.2
    subst e1; subst hn; subst hx; subst hf
    have hd : ((t.extract 0 k).data.map fun b => Value.int .u8 b.toNat).size = k := by
     simp [ByteArray.extract,ByteArray.copySlice]
     show min k t.size = k
     omega
    have hget : ∀ i,i < k → ((t.extract 0 k).data.map fun b => Value.int .u8 b.toNat)[i]? = some (.int .u8 (Int.ofNat (sbyte t.size (val t.data.toList) i))) := fun i hi => by
     have hl : i < t.data.toList.length := by simp; show i < t.size; omega
     have hg := val_get hl
     have hlen : t.data.toList.length = t.size := by simp
     rw [hlen] at hg
     have hi' : i < t.data.size := by show i < t.size; omega
     have hek : (t.extract 0 k).data[i]? = some t.data[i] := by
      simp only [ByteArray.extract,ByteArray.copySlice]
      simp
      rw [Array.getElem?_extract,if_pos (by omega),Nat.zero_add]
      exact Array.getElem?_eq_getElem hi'
     simp only [Array.getElem?_map,hek,Option.map_some,← hg]
     simp
    refine ⟨(t.extract 0 k).data.map fun b => .int .u8 b.toNat,fun w1 hw1 => rfl,by rw [hd]; omega,fun i v hv => ?_,fun i v hv => ?_⟩
    ·have hi : i < k := by rw [← hd]; exact (Array.getElem?_eq_some_iff.1 hv).1
     rw [hget i hi] at hv; simp only [Option.some.injEq] at hv; rw [← hv]; rfl
    ·have hi : i < k := by rw [← hd]; exact (Array.getElem?_eq_some_iff.1 hv).1
     rw [hget i hi] at hv; simp only [Option.some.injEq] at hv; rw [← hv,Nat.mul_one,cget_strN hi,sbyte_take e2 hi]; exact .int _ _
  ·cases hf
end
end I
end Go.Proofs.YtohjpggjgomgoaaGreatDoor
namespace Go.Proofs.YtohjpggjgomgoaaGreatDoor
namespace I
open K (one aggB run_underlying' run_sizeOf' add_none run_v cell_cells)
set_option linter.unusedVariables false
def isI : TypeDesc → Bool
 | .int _ => true
 | _ => false
section
variable {P : Program} {σ : Sg} {h : AV} {nx : Nat} {w0 w : World} {B : Fr}
theorem run_append_in {t t2 e oty : TypeId} {d2 : TypeDesc} {inf : TypeInfo} {r o n cap m : Nat} {yv : Value} {new : Array Value} {w' : World} (hu : P.underlying t = some (.slice e)) (hu2 : P.underlying t2 = some d2) (hd : isI d2 = false) (hi : P.info? e = some inf)
  (hl : (Builtin.lenOf yv).run P w = .ok m w) (hf : (Builtin.firstCells inf.size m yv).run P w = .ok new w) (hle : n + m ≤ cap) (hs : (storeCells ⟨r,o + n * inf.size,none⟩ new.toList 0).run P w = .ok () w') :
  (Builtin.append_ #[t,t2] oty #[.slice (some ⟨r,o,none⟩) n cap,yv]).run P w = .ok (.slice (some ⟨r,o,none⟩) (n + m) cap) w' := by
 have hz : (match d2 with | .int _ => true | _ => false) = false := by cases d2 <;> first | rfl | simp [isI] at hd
 simp only [Builtin.append_,Sem.run_bind,run_underlying' hu,run_underlying' hu2,run_sizeOf' hi,Result.andThen_ok,Sem.run_pure,List.getElem?_toArray,List.getElem?_cons_zero,List.getElem?_cons_succ]
 cases d2 <;> first
  | (simp [isI] at hd; done)
  | (simp [hl,hf,hle,add_none,hs])
theorem run_append_nil0 {t t2 e oty : TypeId} {d2 : TypeDesc} {inf : TypeInfo} {yv : Value} {new : Array Value} (hu : P.underlying t = some (.slice e)) (hu2 : P.underlying t2 = some d2) (hd : isI d2 = false) (hi : P.info? e = some inf)
  (hl : (Builtin.lenOf yv).run P w = .ok 0 w) (hf : (Builtin.firstCells inf.size 0 yv).run P w = .ok new w) :
  (Builtin.append_ #[t,t2] oty #[.slice none 0 0,yv]).run P w = .ok (.slice none 0 0) w := by
 simp only [Builtin.append_,Sem.run_bind,run_underlying' hu,run_underlying' hu2,run_sizeOf' hi,Result.andThen_ok,Sem.run_pure,List.getElem?_toArray,List.getElem?_cons_zero,List.getElem?_cons_succ]
 cases d2 <;> first
  | (simp [isI] at hd; done)
  | (simp [hl,hf])
def drawnCap (w : World) (need old : Nat) (e : TypeId) : Nat := (Question.appendCap need old e).cut (w.tape w.drawn (.appendCap need old e))
theorem drawnCap_ge (w : World) (need old : Nat) (e : TypeId) : need ≤ drawnCap w need old e := Nat.le_add_right _ _
theorem run_append_out {t t2 e oty : TypeId} {d2 : TypeDesc} {inf : TypeInfo} {z : Value} {base : Option Addr} {n cap m : Nat} {yv : Value} {old new : Array Value} (hu : P.underlying t = some (.slice e)) (hu2 : P.underlying t2 = some d2) (hd : isI d2 = false) (hi : P.info? e = some inf) (hz : inf.zero = some z)
    (hl : (Builtin.lenOf yv).run P w = .ok m w) (hf : ∀ w1 : World,w1.heap = w.heap → (Builtin.firstCells inf.size m yv).run P w1 = .ok new w1) (ho : ∀ w1 : World,w1.heap = w.heap → (Builtin.firstCells inf.size n (.slice base n cap)).run P w1 = .ok old w1) (hgt : ¬ n + m ≤ cap)
    (h63 : n + m ≤ 9223372036854775807) (hfit : Builtin.nextslicecap (n + m) cap * inf.bytes ≤ 281474976710656) :
    (Builtin.append_ #[t,t2] oty #[.slice base n cap,yv]).run P w = .ok (.slice (some ⟨w.heap.size,0,none⟩) (n + m) (drawnCap w (n + m) cap e))
      ({ w with drawn := w.drawn + 1 }.alloc (.cells (old ++ new ++ Builtin.zeroCells z.cells (drawnCap w (n + m) cap e - (n + m))) e (0,0))) := by
  have hti : ∀ w : World,(typeInfo e).run P w = .ok inf w := fun w => by simp [typeInfo,program,Sem.run,hi]
  have hzv : ∀ w : World,(zeroValue e).run P w = .ok z w := fun w => run_zeroValue (by rw [hi]; exact hz)
  have har : ∀ (k : Nat) (w : World),(askRoom k).run P w = .ok () w := fun k w => by unfold askRoom; split <;> rfl
  have c1 : ¬ (((n + m : Nat) : Int) > IntKind.i64.max ∧ (false = true ∨ inf.bytes = 0)) := by
    rw [show IntKind.i64.max = 9223372036854775807 from rfl]; omega
  have c2 : ¬ (Builtin.nextslicecap (n + m) cap * inf.bytes > 2 ^ 48) := by omega
  simp only [Builtin.append_,Sem.run_bind,run_underlying' hu,run_underlying' hu2,run_sizeOf' hi,Result.andThen_ok,Sem.run_pure,List.getElem?_toArray,List.getElem?_cons_zero,List.getElem?_cons_succ]
  cases d2 <;> first
    | (simp [isI] at hd; done)
    | (simp only [Bool.false_eq_true,if_false,hl,Result.andThen_ok,hgt,hti,Sem.run_bind]
       have c1' : ¬ (((n + m : Nat) : Int) > IntKind.i64.max ∧ (False ∨ inf.bytes = 0)) := by simpa using c1
       simp only [c1',if_false,Sem.run_bind,Result.andThen_ok,hti]
       rw [if_neg c2]
       simp only [Sem.run_bind]
       simp only [choose,Sem.run,Question.forced,Bool.false_eq_true,if_false,Result.andThen_ok,hti,har]
       rw [ho { w with drawn := w.drawn + 1 } rfl]
       simp only [Result.andThen_ok,Bool.not_false,if_true]
       rw [hf { w with drawn := w.drawn + 1 } rfl]
       simp only [Result.andThen_ok,hzv,Sem.run_bind,newRow,newObj,Sem.run,Sem.run_pure]
       rfl)
end
end I
end Go.Proofs.YtohjpggjgomgoaaGreatDoor
namespace Go.Proofs.YtohjpggjgomgoaaGreatDoor
namespace I
open K (one aggB run_underlying' run_sizeOf' add_none run_v cell_cells)
set_option linter.unusedVariables false
def noRoom (ety off len m lb sz n : Nat) : Bool := Nat.beq (ety % 2) 1 && Nat.blt n (bif Nat.beq lb 0 then (len + m) * sz else off + (len + m) * sz)
def aappend (P : Program) (e t2 : TypeId) (h : AV) (nx : Nat) (x y : AV) : Option (AV × AV × Nat) :=
 match P.info? e,P.underlying t2,lenA y with
 | some inf,some d2,some m => bif isI d2 || (Nat.beq inf.size 0 || Nat.ble (2 ^ HD) nx) then none else
  match firstA h inf.size m y,rowA (zeroA P e) with
  | some u,some (zn,_) => bif Nat.beq zn inf.size then
   match x with
   | .nils => bif Nat.beq m 0 then some (.nils,h,nx) else
     bif Nat.ble (m * inf.bytes) 140737488355328 && Nat.ble m 9223372036854775807 then
      some (.sl nx 0 m m inf.size,cput HD h nx (.cells (2 * e) (m * inf.size) false u),nx + 1) else none
   | .sl b off len lb sz => bif Nat.beq m 0 then some (.sl b off len lb sz,h,nx) else match cget HD h b with
    | .cells ety n false t => bif Nat.beq sz inf.size && Nat.beq (ety / 2) e then
      bif Nat.ble (len + m) lb && !(Nat.beq lb 0) then
       bif Nat.ble (off + (len + m) * sz) n then
        some (.sl b off (len + m) lb sz,cput HD h b (.cells ety n false (cblit (lg n) t (off + len * sz) (m * sz) u)),nx) else none
      else bif noRoom ety off len m lb sz n then
       bif Nat.ble ((len + m) * inf.bytes) 140737488355328 && (Nat.ble (len + m) 9223372036854775807 && Nat.ble (off + len * sz) n) then
        some (.sl nx 0 (len + m) (len + m) sz,cput HD h nx (.cells (2 * e) ((len + m) * sz) false (catA (len * sz) (crow (lg n) t off (len * sz)) (m * sz) u)),nx + 1) else none
      else
       bif Nat.ble ((len + m) * inf.bytes) 140737488355328 && (Nat.ble (len + m) 9223372036854775807 && (Nat.ble (off + len * sz) n && (Nat.beq off 0 && !(Nat.beq lb 0)))) then
        some (.sl nx 0 (len + m) (len + m) sz,cput HD (cput HD h b .dead) nx (.cells (2 * e) ((len + m) * sz) false (catA (len * sz) (crow (lg n) t off (len * sz)) (m * sz) u)),nx + 1) else none
     else none
    | _ => none
   | _ => none
   else none
  | _,_ => none
 | _,_,_ => none
section
variable {P : Program} {σ : Sg} {h : AV} {nx : Nat} {w0 w : World} {B : Fr}
def SubX (nx : Nat) (σ σ' : Sg) : Prop := Sub σ σ' ∧ ∀ b,b < nx → σ' b = σ b
theorem SubX.refl (nx : Nat) (σ : Sg) : SubX nx σ σ := ⟨fun _ _ h => h,fun _ _ => rfl⟩
theorem SubX.trans {nx nx' : Nat} {σ σ' σ'' : Sg} (h : SubX nx σ σ') (h' : SubX nx' σ' σ'') (hle : nx ≤ nx') : SubX nx σ σ'' :=
 ⟨fun b p hb => h'.1 b p (h.1 b p hb),fun b hb => (h'.2 b (by omega)).trans (h.2 b hb)⟩
theorem HS.subX (H : HS σ h nx w0 B w) (p : Pl) : SubX nx σ (ext σ nx p) := ⟨H.sub_ext p,fun b hb => by unfold ext; rw [if_neg (by omega)]⟩
def Dk (nx : Nat) (h h' : AV) : Prop := ∀ b,b < nx → live (cget HD h' b) = true → live (cget HD h b) = true
theorem Dk.refl (nx : Nat) (h : AV) : Dk nx h h := fun _ _ hl => hl
theorem Dk.trans {nx nx' : Nat} {h h1 h2 : AV} (a : Dk nx h h1) (b : Dk nx' h1 h2) (hle : nx ≤ nx') : Dk nx h h2 := fun c hc hl => a c hc (b c (by omega) hl)
theorem HS.dkPut (H : HS σ h nx w0 B w) {b : Nat} {x : AV} {p : Pl} (hb : σ b = some p) (hl : live (cget HD h b) = true) : Dk nx h (cput HD h b x) := fun c hc hlc => by
 have := H.nxle
 rw [cget_cput HD h b c x (H.lt hb) (by omega)] at hlc
 by_cases hcb : c = b
 ·rw [hcb]; exact hl
 ·rw [if_neg hcb] at hlc; exact hlc
theorem dkNew {x : AV} (hnx : nx < 2 ^ HD) : Dk nx h (cput HD h nx x) := fun c hc hlc => by
 rw [cget_cput HD h nx c x hnx (by omega),if_neg (by omega)] at hlc; exact hlc
theorem HS.dkKill (H : HS σ h nx w0 B w) {b : Nat} {p : Pl} (hb : σ b = some p) : Dk nx h (cput HD h b .dead) := fun c hc hlc => by
 have := H.nxle
 rw [cget_cput HD h b c .dead (H.lt hb) (by omega)] at hlc
 by_cases hcb : c = b
 ·rw [if_pos hcb] at hlc; simp [live] at hlc
 ·rw [if_neg hcb] at hlc; exact hlc
def EffOk (P : Program) (σ : Sg) (h : AV) (nx : Nat) (w0 : World) (B : Fr) (w : World) (s : Sem Value) (a h' : AV) (nx' : Nat) : Prop :=
 ∃ σ' v w',SubX nx σ σ' ∧ Dk nx h h' ∧ nx ≤ nx' ∧ s.run P w = .ok v w' ∧ Rel σ' a v ∧ HS σ' h' nx' w0 B w'
theorem Sub.refl (σ : Sg) : Sub σ σ := fun _ _ h => h
theorem Sub.trans {σ σ' σ'' : Sg} (h : Sub σ σ') (h' : Sub σ' σ'') : Sub σ σ'' := fun b p hb => h' b p (h b p hb)
theorem RowRel.cat {n m : Nat} {s u : AV} {cs ds rest : Array Value} (h1 : RowRel σ n s cs) (h2 : RowRel σ m u ds) : ∀ i,i < n + m → ∃ v,(cs ++ ds ++ rest)[i]? = some v ∧ one v = true ∧ Rel σ (cget (lg (n + m)) (catA n s m u) i) v := by
 intro i hi
 rw [cget_catA hi]
 by_cases hin : i < n
 ·rw [if_pos hin]
  have hlt : i < cs.size := by rw [h1.1]; exact hin
  have hg : cs[i]? = some cs[i] := Array.getElem?_eq_getElem hlt
  refine ⟨cs[i],?_,h1.2.1 i _ hg,h1.2.2 i _ hg⟩
  rw [Array.append_assoc,Array.getElem?_append_left hlt]; exact hg
 ·rw [if_neg hin]
  have hlt : i - n < ds.size := by rw [h2.1]; omega
  have hg : ds[i - n]? = some ds[i - n] := Array.getElem?_eq_getElem hlt
  refine ⟨ds[i - n],?_,h2.2.1 _ _ hg,h2.2.2 _ _ hg⟩
  rw [Array.append_assoc,Array.getElem?_append_right (by rw [h1.1]; omega),h1.1,Array.getElem?_append_left hlt]; exact hg
theorem zeroCells_size (z : Array Value) (n : Nat) : (Builtin.zeroCells z n).size = n * z.size := by simp [Builtin.zeroCells]
set_option maxHeartbeats 1000000 in
theorem aappend_ok {t t2 e oty : TypeId} {x y a h' : AV} {nx' : Nat} {xv yv : Value} (H : HS σ h nx w0 B w) (hu : P.underlying t = some (.slice e)) (hx : Rel σ x xv) (hy : Rel σ y yv) (ha : aappend P e t2 h nx x y = some (a,h',nx')) :
  EffOk P σ h nx w0 B w (Builtin.append_ #[t,t2] oty #[xv,yv]) a h' nx' := by
 unfold aappend at ha
 split at ha
 ·rename_i inf d2 m hinf hu2 hlen
  cases hc0 : (isI d2 || (Nat.beq inf.size 0 || Nat.ble (2 ^ HD) nx)) with
  | true => simp [hc0] at ha
  | false =>
   simp only [hc0,cond_false] at ha
   simp only [Bool.or_eq_false_iff] at hc0
   obtain ⟨hd2,hsz0',hnx'⟩ := hc0
   have hsz0 : inf.size ≠ 0 := fun e => by rw [beqn_iff.2 e] at hsz0'; cases hsz0'
   have hnx : nx < 2 ^ HD := by
    apply Nat.lt_of_not_le
    intro hh; rw [ble_iff.2 hh] at hnx'; cases hnx'
   split at ha
   ·rename_i u zn zs hfirst hzero
    cases hzn : Nat.beq zn inf.size with
    | false => simp [hzn] at ha
    | true =>
    simp only [hzn,cond_true] at ha
    have hzn' := beqn_iff.1 hzn
    have hbad : zeroA P e ≠ .bad := fun hb => by rw [hb] at hzero; simp [rowA,scalarA] at hzero
    obtain ⟨z,hzv,hzr⟩ := zeroA_ok (P := P) (t := e) rfl hbad σ
    have hzrow := rowA_ok hzr hzero
    have hz : inf.zero = some z := by rw [hinf] at hzv; exact hzv
    have hl := lenA_ok (P := P) (w := w) hy hlen
    obtain ⟨new,hf,hnew⟩ := firstA_ok (P := P) H hy hlen (Nat.le_refl m) hfirst
    split at ha
    ·
     cases hx
     cases hm : Nat.beq m 0 with
     | true =>
      have := beqn_iff.1 hm
      subst this
      simp only [hm,cond_true,Option.some.injEq,Prod.mk.injEq] at ha
      obtain ⟨rfl,rfl,rfl⟩ := ha
      exact ⟨σ,_,w,SubX.refl nx σ,Dk.refl nx h,Nat.le_refl _,run_append_nil0 hu hu2 hd2 hinf hl (hf w rfl),.nils,H⟩
     | false =>
      have hm0 : m ≠ 0 := fun e => by rw [beqn_iff.2 e] at hm; cases hm
      simp only [hm,cond_false] at ha
      cases hb : (Nat.ble (m * inf.bytes) 140737488355328 && Nat.ble m 9223372036854775807) with
      | false => simp [hb] at ha
      | true =>
       simp only [hb,cond_true,Option.some.injEq,Prod.mk.injEq] at ha
       obtain ⟨rfl,rfl,rfl⟩ := ha
       simp only [Bool.and_eq_true] at hb
       have e1 := ble_iff.1 hb.1
       have e2 := ble_iff.1 hb.2
       have hrun := run_append_out (P := P) (w := w) (oty := oty) (base := none) (n := 0) (cap := 0) (old := #[]) hu hu2 hd2 hinf hz hl hf (fun w1 _ => rfl) (by omega) (by omega) (growslice_fits (by omega) (by rw [Nat.zero_add]; exact e1))
       have hge := drawnCap_ge w (0 + m) 0 e
       generalize drawnCap w (0 + m) 0 e = cp at hrun hge
       rw [Nat.zero_add] at hrun hge
       have hcs : (#[] ++ new ++ Builtin.zeroCells z.cells (cp - m)).size = cp * inf.size := by
        simp only [Array.size_append,zeroCells_size,hzrow.1,hzn',hnew.1]
        simp only [List.size_toArray,List.length_nil,Nat.zero_add]
        rw [← Nat.add_mul]; congr 1; omega
       refine ⟨ext σ nx (w.heap.size,0,(#[] ++ new ++ Builtin.zeroCells z.cells (cp - m)).size),_,_,H.subX _,dkNew hnx,Nat.le_succ _,hrun,?_,?_⟩
       ·refine .sl _ _ _ _ _ w.heap.size 0 (#[] ++ new ++ Builtin.zeroCells z.cells (cp - m)).size 0 _ (by simp [ext]) (Nat.le_refl _) hge (fun _ => rfl) ?_
        rw [hcs,Nat.zero_add]; exact Nat.le_refl _
       ·refine H.drew.row hnx (by rw [even_half]; rfl) (fun h => by omega) rfl rfl rfl ?_ (calm0 _) (fun i hi => ?_)
        ·rw [hcs]
         exact Nat.mul_le_mul_right _ hge
        ·obtain ⟨v,g1,g2,g3⟩ := hnew.all i hi
         refine ⟨v,?_,g2,g3⟩
         rw [Array.empty_append,Array.getElem?_append_left (by rw [hnew.1]; exact hi)]; exact g1
    ·rename_i b off len lb sz
     cases hx with
     | sl _ _ _ _ _ r base size o cap hs q1 q2 q3 q4 =>
     cases hm : Nat.beq m 0 with
     | true =>
      have := beqn_iff.1 hm
      subst this
      simp only [hm,cond_true,Option.some.injEq,Prod.mk.injEq] at ha
      obtain ⟨rfl,rfl,rfl⟩ := ha
      have hn0 : new = #[] := Array.eq_empty_of_size_eq_zero (by rw [hnew.1,Nat.zero_mul])
      subst hn0
      exact ⟨σ,_,w,SubX.refl nx σ,Dk.refl nx h,Nat.le_refl _,run_append_in hu hu2 hd2 hinf hl (hf w rfl) (by omega) rfl,.sl _ _ _ _ _ r base size o cap hs q1 q2 q3 q4,H⟩
     | false =>
     simp only [hm,cond_false] at ha
     split at ha
     ·rename_i ety n t hc
      cases hb0 : (Nat.beq sz inf.size && Nat.beq (ety / 2) e) with
      | false => simp [hb0] at ha
      | true =>
       simp only [hb0,cond_true] at ha
       simp only [Bool.and_eq_true] at hb0
       have e0 := beqn_iff.1 hb0.1
       have e0' := beqn_iff.1 hb0.2
       subst e0; subst e0'
       cases hb1 : (Nat.ble (len + m) lb && !(Nat.beq lb 0)) with
       | true =>
        simp only [hb1,cond_true] at ha
        simp only [Bool.and_eq_true,Bool.not_eq_true'] at hb1
        have e1 := ble_iff.1 hb1.1
        have e2 : lb ≠ 0 := fun e => by rw [beqn_iff.2 e] at hb1; simp at hb1
        have e3 := q3 e2
        cases hb2 : Nat.ble (off + (len + m) * inf.size) n with
        | false => simp [hb2] at ha
        | true =>
         simp only [hb2,cond_true,Option.some.injEq,Prod.mk.injEq] at ha
         obtain ⟨rfl,rfl,rfl⟩ := ha
         have e4 := ble_iff.1 hb2
         have e5 : off + len * inf.size + m * inf.size ≤ n := by rw [Nat.add_mul] at e4; omega
         obtain ⟨w',g1,g2⟩ := H.write (P := P) hs hc hnew e5
         have g1' : (storeCells ⟨r,o + len * inf.size,none⟩ new.toList 0).run P w = .ok () w' := by
          rw [e3,Nat.add_assoc]; exact g1
         refine ⟨σ,_,w',SubX.refl nx σ,H.dkPut hs (by rw [hc]; rfl),Nat.le_refl _,run_append_in hu hu2 hd2 hinf hl (hf w rfl) (by omega) g1',.sl _ _ _ _ _ r base size o cap hs e1 q2 q3 q4,g2⟩
       | false =>
        simp only [hb1,cond_false] at ha
        cases hnr : noRoom ety off len m lb inf.size n with
        | true =>
         simp only [hnr,cond_true] at ha
         cases hb2 : (Nat.ble ((len + m) * inf.bytes) 140737488355328 && (Nat.ble (len + m) 9223372036854775807 && Nat.ble (off + len * inf.size) n)) with
         | false => simp [hb2] at ha
         | true =>
         simp only [hb2,cond_true,Option.some.injEq,Prod.mk.injEq] at ha
         obtain ⟨rfl,rfl,rfl⟩ := ha
         simp only [Bool.and_eq_true] at hb2
         have e1 := ble_iff.1 hb2.1
         have e2 := ble_iff.1 hb2.2.1
         have e4 := ble_iff.1 hb2.2.2
         obtain ⟨cs,fr,h1,h2,h3,h4,h5⟩ := H.cellsT hs hc (.inl rfl)
         obtain ⟨h6,h7⟩ := h5 rfl
         have hn := lg_le n
         have hmul : len * inf.size ≤ cap * inf.size := Nat.mul_le_mul_right _ (by omega)
         have hroom : ¬ len + m ≤ cap := fun hle => by
          have hx : (len + m) * inf.size ≤ cap * inf.size := Nat.mul_le_mul_right _ hle
          unfold noRoom at hnr
          simp only [Bool.and_eq_true] at hnr
          have k1 := h3.2.2 (beqn_iff.1 hnr.1)
          have k2 := blt_iff.1 hnr.2
          cases hl0 : Nat.beq lb 0 with
          | true => simp only [hl0,cond_true] at k2; omega
          | false =>
           simp only [hl0,cond_false] at k2
           have k3 := q3 (fun e => by rw [beqn_iff.2 e] at hl0; cases hl0)
           omega
         -- the old cells
         have hold : RowRel σ (len * inf.size) (crow (lg n) t off (len * inf.size)) (cs.extract o (o + len * inf.size)) := by
          have hsz : (cs.extract o (o + len * inf.size)).size = len * inf.size := by simp; omega
          by_cases hl0 : lb = 0
          ·have : len = 0 := by omega
           subst this
           refine ⟨by simpa using hsz,fun i v hv => ?_,fun i v hv => ?_⟩ <;>
           ·have := (Array.getElem?_eq_some_iff.1 hv).1
            rw [hsz] at this; omega
          ·have e3 := q3 hl0
           have key : ∀ i v,(cs.extract o (o + len * inf.size))[i]? = some v → one v = true ∧ Rel σ (cget (lg (len * inf.size)) (crow (lg n) t off (len * inf.size)) i) v := fun i v hv => by
            have hi : i < len * inf.size := by rw [← hsz]; exact (Array.getElem?_eq_some_iff.1 hv).1
            obtain ⟨u',g1,g2,g3⟩ := h4 (off + i) (by omega)
            rw [Array.getElem?_extract,if_pos (by omega),show o + i = base + (off + i) by omega,g1] at hv
            simp only [Option.some.injEq] at hv
            subst hv
            rw [cget_crow (by omega) hi]
            exact ⟨g2,g3⟩
           exact ⟨hsz,fun i v hv => (key i v hv).1,fun i v hv => (key i v hv).2⟩
         have hfold : ∀ w1 : World,w1.heap = w.heap → (Builtin.firstCells inf.size len (.slice (some ⟨r,o,none⟩) len cap)).run P w1 = .ok (cs.extract o (o + len * inf.size)) w1 := fun w1 hw1 => by
          simp only [Builtin.firstCells]
          exact load_cells (by rw [hw1]; exact h1) (by omega)
         have houtside := hroom
         have hrun := run_append_out (P := P) (w := w) (oty := oty) (base := some ⟨r,o,none⟩) (n := len) (cap := cap) hu hu2 hd2 hinf hz hl hf hfold hroom e2 (growslice_fits (by omega) e1)
         have hge := drawnCap_ge w (len + m) cap (ety / 2)
         let cs' := cs.extract o (o + len * inf.size) ++ new ++ Builtin.zeroCells z.cells (drawnCap w (len + m) cap (ety / 2) - (len + m))
         have hcs : cs'.size = drawnCap w (len + m) cap (ety / 2) * inf.size := by
          simp only [cs',Array.size_append,zeroCells_size,hzrow.1,hzn',hnew.1,hold.1]
          rw [← Nat.add_mul,← Nat.add_mul]; congr 1; omega
         refine ⟨ext σ nx (w.heap.size,0,cs'.size),_,_,H.subX _,dkNew hnx,Nat.le_succ _,hrun,.sl _ _ _ _ _ w.heap.size 0 cs'.size 0 _ (by simp [ext]) (Nat.le_refl _) hge (fun _ => rfl) (by rw [hcs]; omega),?_⟩
         refine H.drew.row hnx (by rw [even_half]; rfl) (fun h => by omega) rfl rfl rfl ?_ (calm0 _) (fun i hi => ?_)
         ·show (len + m) * inf.size ≤ cs'.size
          rw [hcs]
          exact Nat.mul_le_mul_right _ hge
         ·have hadd : len * inf.size + m * inf.size = (len + m) * inf.size := by rw [Nat.add_mul]
          rw [← hadd] at hi ⊢
          exact hold.cat hnew i hi
        | false =>
        simp only [hnr,cond_false] at ha
        cases hb2 : (Nat.ble ((len + m) * inf.bytes) 140737488355328 && (Nat.ble (len + m) 9223372036854775807 && (Nat.ble (off + len * inf.size) n && (Nat.beq off 0 && !(Nat.beq lb 0))))) with
        | false => simp [hb2] at ha
        | true =>
         simp only [hb2,cond_true,Option.some.injEq,Prod.mk.injEq] at ha
         obtain ⟨rfl,rfl,rfl⟩ := ha
         simp only [Bool.and_eq_true,Bool.not_eq_true'] at hb2
         have e1 := ble_iff.1 hb2.1
         have e2 := ble_iff.1 hb2.2.1
         have e4 := ble_iff.1 hb2.2.2.1
         have e6 := beqn_iff.1 hb2.2.2.2.1
         have e7 : lb ≠ 0 := fun e => by rw [beqn_iff.2 e] at hb2; simp at hb2
         have e8 := q3 e7
         obtain ⟨cs,fr,h1,h2,h3,h4,h5⟩ := H.cellsT hs hc (.inl rfl)
         obtain ⟨h6,h7⟩ := h5 rfl
         have hn := lg_le n
         have hmul : len * inf.size ≤ cap * inf.size := Nat.mul_le_mul_right _ (by omega)
         -- the old cells
         have hold : RowRel σ (len * inf.size) (crow (lg n) t off (len * inf.size)) (cs.extract o (o + len * inf.size)) := by
          have hsz : (cs.extract o (o + len * inf.size)).size = len * inf.size := by simp; omega
          by_cases hl0 : lb = 0
          ·have : len = 0 := by omega
           subst this
           refine ⟨by simpa using hsz,fun i v hv => ?_,fun i v hv => ?_⟩ <;>
           ·have := (Array.getElem?_eq_some_iff.1 hv).1
            rw [hsz] at this; omega
          ·have e3 := q3 hl0
           have key : ∀ i v,(cs.extract o (o + len * inf.size))[i]? = some v → one v = true ∧ Rel σ (cget (lg (len * inf.size)) (crow (lg n) t off (len * inf.size)) i) v := fun i v hv => by
            have hi : i < len * inf.size := by rw [← hsz]; exact (Array.getElem?_eq_some_iff.1 hv).1
            obtain ⟨u',g1,g2,g3⟩ := h4 (off + i) (by omega)
            rw [Array.getElem?_extract,if_pos (by omega),show o + i = base + (off + i) by omega,g1] at hv
            simp only [Option.some.injEq] at hv
            subst hv
            rw [cget_crow (by omega) hi]
            exact ⟨g2,g3⟩
           exact ⟨hsz,fun i v hv => (key i v hv).1,fun i v hv => (key i v hv).2⟩
         have hfold : ∀ w1 : World,w1.heap = w.heap → (Builtin.firstCells inf.size len (.slice (some ⟨r,o,none⟩) len cap)).run P w1 = .ok (cs.extract o (o + len * inf.size)) w1 := fun w1 hw1 => by
          simp only [Builtin.firstCells]
          exact load_cells (by rw [hw1]; exact h1) (by omega)
         by_cases hroom : len + m ≤ cap
         ·
          have hmul2 : (len + m) * inf.size ≤ cap * inf.size := Nat.mul_le_mul_right _ hroom
          have hadd : len * inf.size + m * inf.size = (len + m) * inf.size := by rw [Nat.add_mul]
          have hnl : new.toList.length = m * inf.size := by simpa using hnew.1
          obtain ⟨w',hr,hw,g1,g2,g3⟩ := run_storeCells (P := P) (off := o + len * inf.size) new.toList 0 cs w h1 (by rw [h2]; exact h6) (by rw [hnl]; omega) (fun v hm => by
           obtain ⟨i,hi⟩ := List.mem_iff_getElem?.1 hm
           exact hnew.2.1 i v (by simpa using hi))
          have hrun := run_append_in (P := P) (w := w) (oty := oty) (o := o) hu hu2 hd2 hinf hl (hf w rfl) hroom hr
          obtain ⟨s1,s2⟩ := spl_get new.toList cs (o + len * inf.size + 0) (by rw [hnl]; omega)
          have hb' : w'.heap[r]? = some (.cells (K.spl cs (o + len * inf.size + 0) new.toList) (ety / 2) fr) := by rw [hw]; simp [lt_of_get h1]
          have hsub := H.sub_ext (r,o,size)
          refine ⟨ext σ nx (r,o,size),_,w',H.subX _,(H.dkKill hs).trans (dkNew hnx) (Nat.le_refl _),Nat.le_succ _,hrun,.sl _ _ _ _ _ r o size o cap (by simp [ext]) (Nat.le_refl _) hroom (fun _ => rfl) q4,?_⟩
          refine H.rename hnx (q := (r,o,size)) hs (by rw [hc]; rfl) h7 rfl hw g1 g2 g3 ⟨r,o,size,_,fr,ety / 2,by simp [ext],hb',by rw [s1]; exact h2,⟨by omega,by omega,fun h => by omega⟩,fun i hi => ?_,fun _ => ⟨h6,h7⟩,fun _ => (even_half _).symm⟩
          rw [← hadd] at hi ⊢
          rw [cget_catA hi,s2 (o + i),hnl]
          by_cases hin : i < len * inf.size
          ·rw [if_pos hin,if_neg (by omega)]
           obtain ⟨v,f1,f2,f3⟩ := hold.all i hin
           refine ⟨v,?_,f2,f3.mono hsub⟩
           rw [Array.getElem?_extract] at f1
           split at f1
           ·exact f1
           ·cases f1
          ·rw [if_neg hin,if_pos (by omega)]
           obtain ⟨v,f1,f2,f3⟩ := hnew.all (i - len * inf.size) (by omega)
           refine ⟨v,?_,f2,f3.mono hsub⟩
           rw [show o + i - (o + len * inf.size + 0) = i - len * inf.size by omega]
           simpa using f1
         ·
          have hrun := run_append_out (P := P) (w := w) (oty := oty) (base := some ⟨r,o,none⟩) (n := len) (cap := cap) hu hu2 hd2 hinf hz hl hf hfold hroom e2 (growslice_fits (by omega) e1)
          have hge := drawnCap_ge w (len + m) cap (ety / 2)
          let cs' := cs.extract o (o + len * inf.size) ++ new ++ Builtin.zeroCells z.cells (drawnCap w (len + m) cap (ety / 2) - (len + m))
          have hcs : cs'.size = drawnCap w (len + m) cap (ety / 2) * inf.size := by
           simp only [cs',Array.size_append,zeroCells_size,hzrow.1,hzn',hnew.1,hold.1]
           rw [← Nat.add_mul,← Nat.add_mul]; congr 1; omega
          have HK := H.kill (H.lt hs)
          refine ⟨ext σ nx (w.heap.size,0,cs'.size),_,_,H.subX _,(H.dkKill hs).trans (dkNew hnx) (Nat.le_refl _),Nat.le_succ _,hrun,.sl _ _ _ _ _ w.heap.size 0 cs'.size 0 _ (by simp [ext]) (Nat.le_refl _) hge (fun _ => rfl) (by rw [hcs]; omega),?_⟩
          refine HK.drew.row hnx (by rw [even_half]; rfl) (fun h => by omega) rfl rfl rfl ?_ (calm0 _) (fun i hi => ?_)
          ·show (len + m) * inf.size ≤ cs'.size
           rw [hcs]
           exact Nat.mul_le_mul_right _ hge
          ·have hadd : len * inf.size + m * inf.size = (len + m) * inf.size := by rw [Nat.add_mul]
           rw [← hadd] at hi ⊢
           exact hold.cat hnew i hi
     ·cases ha
    ·cases ha
   ·cases ha
 ·cases ha
end
end I
end Go.Proofs.YtohjpggjgomgoaaGreatDoor
namespace Go.Proofs.YtohjpggjgomgoaaGreatDoor
namespace I
open K (one aggB run_underlying' run_sizeOf' add_none run_v cell_cells)
set_option linter.unusedVariables false
def acopy (P : Program) (e : TypeId) (h : AV) (x y : AV) : Option (AV × AV) :=
 match P.info? e,lenA y with
 | some inf,some ny => match x with
  | .nils => match firstA h inf.size 0 y with
   | some _ => some (.int .i64 0,h)
   | none => none
  | .sl b off len lb sz =>
   let k := bif Nat.ble ny len then ny else len
   match firstA h inf.size k y,cget HD h b with
   | some u,.cells ety n false t => bif Nat.beq sz inf.size && (Nat.ble (off + k * sz) n && !(Nat.beq lb 0)) then
     some (.int .i64 (.ofNat k),cput HD h b (.cells ety n false (cblit (lg n) t off (k * sz) u))) else none
   | _,_ => none
  | _ => none
 | _,_ => none
def amapUpd (P : Program) (h : AV) (nx : Nat) (t : TypeId) (m k x : AV) : Option (AV × AV × Nat) :=
 match P.underlying t,m with
 | some (.map kt _),.map b => match P.underlying kt,cget HD h b with
  | some kd,.mp l => bif fitKey kd k then
    match findI k l 0 with
    | some (some (i,_)) => some (.undef,cput HD h b (.mp (setI k x i l)),nx)
    | some none => some (.undef,cput HD h b (.mp (pushI k x l)),nx)
    | none => none
   else none
  | _,_ => none
 | _,_ => none
def cntF (c : Nat) : Nat → Nat → Nat → Nat
 | 0,_,a => a
 | n + 1,x,a => cntF c n (x / 256) (bif Nat.beq (x % 256) c then a + 1 else a)
def acountS (h : AV) (nx : Nat) (x y : AV) : Option (AV × AV × Nat) :=
 match x,y with
 | .str n s,.int .u8 (.ofNat c) => bif Nat.blt c 256 then some (.int .i64 (.ofNat (cntF c n s 0)),h,nx) else none
 | _,_ => none
def acloneM (h : AV) (nx : Nat) (x : AV) : Option (AV × AV × Nat) :=
 match x with
 | .ifc t (.map b) => match cget HD h b with
  | .mp l => bif Nat.blt nx (2 ^ HD) then some (.ifc t (.map nx),cput HD h nx (.mp l),nx + 1) else none
  | _ => none
 | _ => none
def aeff (P : Program) (ρ : Operand → AV) (h : AV) (nx : Nat) (o : Oper) : Option (AV × AV × Nat) :=
 match o.op with
 | .store ty x y => match ρ x,rowA (ρ y),P.info? ty with
  | .ptr b off,some (m,s),some inf => match cget HD h b with
   | .cells ety n false t => bif Nat.beq m inf.size && Nat.ble (off + m) n then some (.undef,cput HD h b (.cells ety n false (cblit (lg n) t off m s)),nx) else none
   | _ => none
  | _,_,_ => none
 | .call ⟨.builtin .append,⟨[x,y]⟩,⟨[t,t2]⟩⟩ => match P.underlying t with
  | some (.slice e) => aappend P e t2 h nx (ρ x) (ρ y)
  | _ => none
 | .call ⟨.builtin .copy,⟨[x,y]⟩,⟨t :: tys⟩⟩ => match P.underlying t with
  | some (.slice e) => match acopy P e h (ρ x) (ρ y) with
   | some r => some (r.1,r.2,nx)
   | none => none
  | _ => none
 | .call ⟨.builtin .unsafeString,⟨[x,y]⟩,⟨[pt,it]⟩⟩ => match ρ x,ρ y with
  | .nilp,.int .i64 (.ofNat 0) => some (.str 0 0,h,nx)
  | .ptr b off,.int .i64 (.ofNat 0) => some (.str 0 0,h,nx)
  | .ptr b off,.int .i64 (.ofNat k) => match cget HD h b,P.underlying pt with
   | .cells ety n false t,some (.pointer e) => bif Nat.beq (ety / 2) e && (Nat.beq (P.cellsOf e) 1 && (Nat.ble (off + k) n && Nat.ble k 9223372036854775807)) then
     match bytesOf (lg n) t k off 0 with
     | some x => some (.str k x,cput HD h b (.cells ety n true t),nx)
     | none => none
    else none
   | _,_ => none
  | _,_ => none
 | .call ⟨.value (.func f),⟨[x]⟩,_⟩ => match P.funcs[f]? with
  | some fn => bif fn.body.isNone && (fn.name == "internal/abi.NoEscape" && fn.origin == "") then some (ρ x,h,nx) else
    bif fn.body.isNone && (fn.name == "maps.clone" && fn.origin == "") then acloneM h nx (ρ x) else none
  | none => none
 | .call ⟨.value (.func f),⟨[x,y]⟩,_⟩ => match P.funcs[f]? with
  | some fn => bif fn.body.isNone && (fn.name == "internal/bytealg.CountString" && fn.origin == "") then acountS h nx (ρ x) (ρ y) else none
  | none => none
 | .mapUpdate t m k x => amapUpd P h nx t (ρ m) (ρ k) (ρ x)
 | .insert t m k x => amapUpd P h nx t (ρ m) (ρ k) (ρ x)
 | .call ⟨.builtin .clear,⟨[x]⟩,⟨[t]⟩⟩ => match P.underlying t,ρ x with
  | some _,.map b => match cget HD h b with
   | .mp _ => some (.undef,cput HD h b (.mp .lnil),nx)
   | _ => none
  | some _,.nilm => some (.undef,h,nx)
  | _,_ => none
 | .call ⟨.builtin .delete,⟨[x,k]⟩,⟨t :: tys⟩⟩ => match P.underlying t,ρ x with
  | some (.map kt _),.map b => match P.underlying kt,cget HD h b with
   | some kd,.mp l => bif fitKey kd (ρ k) then
     match findI (ρ k) l 0 with
     | some (some (i,_)) => some (.undef,cput HD h b (.mp (dropI i l)),nx)
     | some none => some (.undef,h,nx)
     | none => none
    else none
   | _,_ => none
  | _,_ => none
 | _ => none
section
variable {P : Program} {σ : Sg} {h : AV} {nx : Nat} {w0 w : World} {B : Fr}
theorem next_noEscape : (Extern.allNextRows.lookup "internal/abi.NoEscape").isNone = true := by kernel_rfl
theorem next_empty : (Extern.allNextRows.lookup "").isNone = true := by kernel_rfl
theorem generic_noEscape : (Extern.allGenericRows.lookup "internal/abi.NoEscape").isNone = true := by kernel_rfl
theorem typed_noEscape : (Extern.allTypedRows.lookup "internal/abi.NoEscape").isNone = true := by kernel_rfl
theorem row_noEscape : Extern.allRows.lookup "internal/abi.NoEscape" = some Extern.AbiNoEscape.same := by kernel_rfl
theorem run_noEscape {f : Nat} {fn : Func} {x : Value} (hf : P.funcs[f]? = some fn) (hb : fn.body.isNone = true) (hn : fn.name = "internal/abi.NoEscape") (ho : fn.origin = "") : (callFunc f #[x]).run P w = .ok (.value x) w := by
 have e1 : Extern.allNextRows.lookup "internal/abi.NoEscape" = none := Option.isNone_iff_eq_none.1 next_noEscape
 have e2 : Extern.allNextRows.lookup "" = none := Option.isNone_iff_eq_none.1 next_empty
 have e3 : Extern.allGenericRows.lookup "internal/abi.NoEscape" = none := Option.isNone_iff_eq_none.1 generic_noEscape
 have e4 : Extern.allTypedRows.lookup "internal/abi.NoEscape" = none := Option.isNone_iff_eq_none.1 typed_noEscape
 have h1 : Extern.findNext fn = none := by
  unfold Extern.findNext
  simp only [hn,ho,e1,e2,Option.map_none]; rfl
 have h2 : Extern.find fn = some Extern.AbiNoEscape.same := by
  unfold Extern.find
  simp only [hn,ho,e3,e4,row_noEscape,Option.map_none]; rfl
 have h3 : (fn.name == "runtime.NumGoroutine") = false := by rw [hn]; decide
 unfold callFunc
 simp only [Sem.run_bind,program,Sem.run,Result.andThen_ok,hf,h3,hb,Bool.false_eq_true,if_false,if_true,mark,h1,h2]
 rfl
theorem run_copy {t e oty : TypeId} {tys : List TypeId} {inf : TypeInfo} {r o dl cap m : Nat} {yv : Value} {new : Array Value} {w' : World} (hu : P.underlying t = some (.slice e)) (hi : P.info? e = some inf)
  (hl : (Builtin.lenOf yv).run P w = .ok m w) (hf : (Builtin.firstCells inf.size (Nat.min m dl) yv).run P w = .ok new w) (hs : (storeCells ⟨r,o,none⟩ new.toList 0).run P w = .ok () w') :
  (Builtin.copy_ ⟨t :: tys⟩ oty #[.slice (some ⟨r,o,none⟩) dl cap,yv]).run P w = .ok (.int .i64 (Nat.min m dl : Nat)) w' := by
 simp only [Builtin.copy_,Sem.run_bind,run_underlying' hu,run_sizeOf' hi,Result.andThen_ok,Sem.run_pure,List.getElem?_toArray,List.getElem?_cons_zero,List.getElem?_cons_succ,hl,hf,hs,goInt]
theorem run_copy_nil {t e oty : TypeId} {tys : List TypeId} {inf : TypeInfo} {m : Nat} {yv : Value} {new : Array Value} (hu : P.underlying t = some (.slice e)) (hi : P.info? e = some inf)
  (hl : (Builtin.lenOf yv).run P w = .ok m w) (hf : (Builtin.firstCells inf.size 0 yv).run P w = .ok new w) :
  (Builtin.copy_ ⟨t :: tys⟩ oty #[.slice none 0 0,yv]).run P w = .ok (.int .i64 0) w := by
 have h0 : Nat.min m 0 = 0 := Nat.min_eq_right (Nat.zero_le m)
 simp only [Builtin.copy_,Sem.run_bind,run_underlying' hu,run_sizeOf' hi,Result.andThen_ok,Sem.run_pure,List.getElem?_toArray,List.getElem?_cons_zero,List.getElem?_cons_succ,hl,h0,hf,goInt]
 rfl
theorem acopy_ok {t e oty : TypeId} {tys : List TypeId} {x y a h' : AV} {xv yv : Value} (H : HS σ h nx w0 B w) (hu : P.underlying t = some (.slice e)) (hx : Rel σ x xv) (hy : Rel σ y yv) (ha : acopy P e h x y = some (a,h')) :
  EffOk P σ h nx w0 B w (Builtin.copy_ ⟨t :: tys⟩ oty #[xv,yv]) a h' nx := by
 unfold acopy at ha
 split at ha
 ·rename_i inf ny hinf hlen
  have hl := lenA_ok (P := P) (w := w) hy hlen
  split at ha
  ·cases hx
   split at ha
   ·rename_i u hf
    simp only [Option.some.injEq,Prod.mk.injEq] at ha
    obtain ⟨rfl,rfl⟩ := ha
    obtain ⟨new,hf',hnew⟩ := firstA_ok (P := P) H hy hlen (Nat.zero_le _) hf
    exact ⟨σ,_,w,SubX.refl nx σ,Dk.refl nx h,Nat.le_refl _,run_copy_nil hu hinf hl (hf' w rfl),.int _ _,H⟩
   ·cases ha
  ·rename_i b off len lb sz
   cases hx with
   | sl _ _ _ _ _ r base size o cap hs q1 q2 q3 q4 =>
   have hk : (bif Nat.ble ny len then ny else len) = Nat.min ny len := by
    cases hb : Nat.ble ny len with
    | true => have := ble_iff.1 hb; simp only [cond_true]; exact (Nat.min_eq_left this).symm
    | false =>
     have : ¬ ny ≤ len := fun hh => by rw [ble_iff.2 hh] at hb; cases hb
     simp only [cond_false]; exact (Nat.min_eq_right (by omega)).symm
   simp only [hk] at ha
   split at ha
   ·rename_i u ety n t' hf hc
    cases hb : (Nat.beq sz inf.size && (Nat.ble (off + Nat.min ny len * sz) n && !(Nat.beq lb 0))) with
    | false => simp [hb] at ha
    | true =>
     simp only [hb,cond_true,Option.some.injEq,Prod.mk.injEq] at ha
     obtain ⟨rfl,rfl⟩ := ha
     simp only [Bool.and_eq_true,Bool.not_eq_true'] at hb
     have e0 := beqn_iff.1 hb.1
     have e1 := ble_iff.1 hb.2.1
     have e2 : lb ≠ 0 := fun e => by rw [beqn_iff.2 e] at hb; simp at hb
     have e3 := q3 e2
     subst e0
     obtain ⟨new,hf',hnew⟩ := firstA_ok (P := P) H hy hlen (Nat.min_le_left _ _) hf
     obtain ⟨w',g1,g2⟩ := H.write (P := P) hs hc hnew e1
     rw [← e3] at g1
     exact ⟨σ,_,w',SubX.refl nx σ,H.dkPut hs (by rw [hc]; rfl),Nat.le_refl _,run_copy hu hinf hl (hf' w rfl) g1,.int _ _,g2⟩
   ·cases ha
  ·cases ha
 ·cases ha
theorem liesAt_off {e : TypeId} (hc : P.cellsOf e = 1) (count off n : Nat) (hn : off + n ≤ count) : liesAt P P.depth e count off e n = true := by
 have hd : P.depth = (2 * (P.types.size + Made.depth) + 1) + 1 := rfl
 rw [hd]
 simp only [liesAt,Bool.or_eq_true]
 left
 rw [hd]
 simp [rowAt,hc,hn,sameLayout,Nat.mod_one]
theorem run_unsafeString {pt it ty e : TypeId} (hp : P.underlying pt = some (.pointer e)) (hc : P.cellsOf e = 1) {g off cells : Nat} (hsh : w.shape? g = some (e,cells)) {l : List UInt8} (h0 : l ≠ []) (hn : off + l.length ≤ cells) (h63 : l.length ≤ 9223372036854775807)
  (hcell : ∀ j x,l[j]? = some x → w.cell? ((⟨g,off,none⟩ : Addr).add j) = some (.int .u8 x.toNat)) :
  (Builtin.unsafeString_ #[pt,it] ty #[.pointer (some ⟨g,off,none⟩),.int .i64 l.length]).run P w = .ok (.string ⟨l.toArray⟩) (w.freeze ⟨g,off,none⟩ l.length) := by
 have hl : l.length ≠ 0 := by simpa using h0
 have hlb := Lib.run_loadBytes (P := P) w l ⟨g,off,none⟩ .empty hcell
 have hlies := liesAt_off (P := P) hc (cells / P.cellsOf e) off l.length (by rw [hc]; simpa using hn)
 have h63' : ¬ (9223372036854775807 : Int) < (l.length : Int) := by omega
 refine Eq.trans (b := Sem.run P (Bind.bind (asInt (.int .i64 l.length)) _) w) rfl ?_
 have hmax : IntKind.i64.max = 9223372036854775807 := rfl
 have hneg : ¬ (l.length : Int) < 0 := by omega
 simp [asInt,asIntOf,hmax,h63',hneg,hl,variablesAt,hsh,elemOf,run_underlying' hp,hlies,hlb]
def StepOk (P : Program) (σ : Sg) (h : AV) (nx : Nat) (w0 : World) (B : Fr) (w : World) (s : Sem Next) (a h' : AV) (nx' : Nat) : Prop :=
 ∃ σ' v w',SubX nx σ σ' ∧ Dk nx h h' ∧ nx ≤ nx' ∧ (s.run P w = .ok (.value v) w' ∨ (s.run P w = .ok .skip w' ∧ v = Go.undef)) ∧ Rel σ' a v ∧ HS σ' h' nx' w0 B w'
theorem EffOk.step {s : Sem Value} {s' : Sem Next} {a h' : AV} {nx' : Nat} (hh : EffOk P σ h nx w0 B w s a h' nx') (hs : ∀ v w',s.run P w = .ok v w' → s'.run P w = .ok (.value v) w') : StepOk P σ h nx w0 B w s' a h' nx' := by
 obtain ⟨σ',v,w',h1,h1',h1'',h2,h3,h4⟩ := hh
 exact ⟨σ',v,w',h1,h1',h1'',.inl (hs v w' h2),h3,h4⟩
theorem HS.mp (H : HS σ h nx w0 B w) {b r base size : Nat} {l : AV} (hb : σ b = some (r,base,size)) (hc : cget HD h b = .mp l) : ∃ es clock,w.heap[r]? = some (.map es clock) ∧ EsRel σ l es.toList ∧ (B.wr r ∨ w0.heap.size ≤ r) ∧ Go.MapKept.Stamped es clock := by
 have := H.blk b (H.lt hb)
 rw [hc] at this
 obtain ⟨r',base',size',es,clock,h1,h2,h3,h4⟩ := this
 rw [hb] at h1
 simp only [Option.some.injEq,Prod.mk.injEq] at h1
 obtain ⟨rfl,rfl,rfl⟩ := h1
 exact ⟨es,clock,h2,h3.1,h4,h3.2⟩
theorem HS.setMap (H : HS σ h nx w0 B w) {b r base size : Nat} {l l' : AV} {es' : Array MapEntry} {clock' : Nat} (hb : σ b = some (r,base,size)) (hc : cget HD h b = .mp l) (hl : EsRel σ l' es'.toList) (hst : Go.MapKept.Stamped es' clock') :
  HS σ (cput HD h b (.mp l')) nx w0 B { w with heap := w.heap.setIfInBounds r (.map es' clock') } := by
 obtain ⟨es,clock,h2,h3,h4,_⟩ := H.mp hb hc
 exact H.upd hb (by rw [hc]; rfl) h4 rfl rfl rfl rfl ⟨r,base,size,es',clock',hb,by simp [lt_of_get h2],⟨hl,hst⟩,h4⟩
theorem amapUpd_ok {t : TypeId} {m k x a h' : AV} {nx' : Nat} {mv kv xv : Value} (H : HS σ h nx w0 B w) (hm : Rel σ m mv) (hk : Rel σ k kv) (hx : Rel σ x xv) (ha : amapUpd P h nx t m k x = some (a,h',nx')) :
  ∃ w',(Instr.mapUpdate t mv kv xv).run P w = .ok () w' ∧ a = .undef ∧ nx' = nx ∧ Dk nx h h' ∧ HS σ h' nx w0 B w' := by
 unfold amapUpd at ha
 split at ha
 ·rename_i kt e b hu
  cases hm with
  | map _ r base size hs =>
  split at ha
  ·rename_i kd l hkd hc
   cases hf : fitKey kd k with
   | false => simp [hf] at ha
   | true =>
    simp only [hf,cond_true] at ha
    obtain ⟨es,clock,h2,h3,h4,hst⟩ := H.mp hs hc
    have hgo : (getObj r).run P w = .ok (.map es clock) w := by simp [getObj,Sem.run,h2]
    have hso : ∀ o,(setObj r o).run P w = .ok () { w with heap := w.heap.setIfInBounds r o } := fun o => by simp [setObj,Sem.run,h2]
    have hchk := fit_check (P := P) (w := w) hk hkd hf false
    split at ha
    ·rename_i i v hfi
     simp only [Option.some.injEq,Prod.mk.injEq] at ha
     obtain ⟨rfl,rfl,rfl⟩ := ha
     rcases findI_ok hk hf h3 hfi with ⟨g,_⟩ | ⟨j,v',u,g1,g2,g3,g4,en,g5,g6,g7⟩
     ·cases g
     ·simp only [Option.some.injEq,Prod.mk.injEq] at g1
      obtain ⟨rfl,rfl⟩ := g1
      rw [Nat.sub_zero] at g5
      have hget : es[i]? = some en := by simpa using g5
      have hlt : i < es.size := (Array.getElem?_eq_some_iff.1 hget).1
      have hkt : (Instr.keyThatStays (((es[i]?).map (·.key)).getD kv) kv).run P w = .ok kv w := by
       rw [hget]
       simp only [Option.map_some,Option.getD_some,Instr.keyThatStays,same_bits g7,if_true]; rfl
      have hmod : es.modify i (fun e => { e with key := kv,val := xv }) = (es.toList.set i { en with key := kv,val := xv }).toArray := by
       apply Array.ext'
       apply List.ext_getElem?
       intro q
       simp only [Array.getElem?_toList,Array.getElem?_modify,List.getElem?_set,Array.length_toList]
       by_cases hq : i = q
       ·subst hq; simp [hlt]; rw [(Array.getElem?_eq_some_iff.1 hget).2]
       ·simp [hq]
      refine ⟨_,?_,rfl,rfl,H.dkPut hs (by rw [hc]; rfl),H.setMap (clock' := clock) (es' := es.modify i (fun e => { e with key := kv,val := xv })) hs hc (by rw [hmod]; exact EsRel.set hk hx h3 g5) (Go.MapKept.stamped_modify hst i _ (fun _ _ => rfl) (fun e _ hge => by rw [hget] at hge; cases hge; exact same_eq g7))⟩
      simp only [Instr.mapUpdate,Sem.run_bind,run_underlying' hu,Result.andThen_ok,hgo,hchk,run_findKey' hkd g2,hkt,hso]
    ·rename_i hfi
     simp only [Option.some.injEq,Prod.mk.injEq] at ha
     obtain ⟨rfl,rfl,rfl⟩ := ha
     rcases findI_ok hk hf h3 hfi with ⟨_,g2⟩ | ⟨j,v',u,g1,_⟩
     ·refine ⟨_,?_,rfl,rfl,H.dkPut hs (by rw [hc]; rfl),H.setMap (clock' := clock + 1) (es' := es.push { key := kv,val := xv,born := clock }) hs hc (by rw [Array.toList_push]; exact EsRel.push hk hx h3) (Go.MapKept.stamped_push hst (find_none (same_self hk hf) g2))⟩
      simp only [Instr.mapUpdate,Sem.run_bind,run_underlying' hu,Result.andThen_ok,hgo,hchk,run_findKey' hkd g2,hso]
     ·cases g1
    ·cases ha
  ·cases ha
 ·cases ha
theorem next_clone : (Extern.allNextRows.lookup "maps.clone").isNone = true := by kernel_rfl
theorem generic_clone : (Extern.allGenericRows.lookup "maps.clone").isNone = true := by kernel_rfl
theorem typed_clone : (Extern.allTypedRows.lookup "maps.clone").isNone = true := by kernel_rfl
theorem row_clone : Extern.allRows.lookup "maps.clone" = some Extern.MapsClone.clone := by kernel_rfl
theorem next_count : (Extern.allNextRows.lookup "internal/bytealg.CountString").isNone = true := by kernel_rfl
theorem generic_count : (Extern.allGenericRows.lookup "internal/bytealg.CountString").isNone = true := by kernel_rfl
theorem typed_count : (Extern.allTypedRows.lookup "internal/bytealg.CountString").isNone = true := by kernel_rfl
theorem row_count : Extern.allRows.lookup "internal/bytealg.CountString" = some Extern.BytealgCount.count := by kernel_rfl
theorem run_extern1 {f : Nat} {fn : Func} {nm : String} {ex : Array Value → Sem Value} {args : Array Value} {v : Value} {w' : World} (hf : P.funcs[f]? = some fn) (hb : fn.body.isNone = true) (hn : fn.name = nm) (ho : fn.origin = "")
  (q1 : (Extern.allNextRows.lookup nm).isNone = true) (q2 : (Extern.allGenericRows.lookup nm).isNone = true) (q3 : (Extern.allTypedRows.lookup nm).isNone = true) (q4 : Extern.allRows.lookup nm = some ex) (q5 : (nm == "runtime.NumGoroutine") = false)
  (hr : (ex args).run P w = .ok v w') : (callFunc f args).run P w = .ok (.value v) w' := by
 have e1 : Extern.allNextRows.lookup nm = none := Option.isNone_iff_eq_none.1 q1
 have e2 : Extern.allNextRows.lookup "" = none := Option.isNone_iff_eq_none.1 next_empty
 have e3 : Extern.allGenericRows.lookup nm = none := Option.isNone_iff_eq_none.1 q2
 have e4 : Extern.allTypedRows.lookup nm = none := Option.isNone_iff_eq_none.1 q3
 have h1 : Extern.findNext fn = none := by
  unfold Extern.findNext
  simp only [hn,ho,e1,e2,Option.map_none]; rfl
 have h2 : Extern.find fn = some ex := by
  unfold Extern.find
  simp only [hn,ho,e3,e4,q4,Option.map_none]; rfl
 have h3 : (fn.name == "runtime.NumGoroutine") = false := by rw [hn]; exact q5
 unfold callFunc
 simp only [Sem.run_bind,program,Sem.run,Result.andThen_ok,hf,h3,hb,Bool.false_eq_true,if_false,if_true,mark,h1,h2]
 rw [hr]
 rfl
theorem cntF_rev (c : Nat) (hc : c < 256) : ∀ (r : List UInt8) (a : Nat),cntF c r.length (val r.reverse) a = a + r.count c.toUInt8
 | [],a => rfl
 | b :: r,a => by
  rw [List.reverse_cons,List.length_cons,val_append,List.length_singleton,show val [b] = b.toNat by simp [val,strOf],Nat.pow_one,cntF]
  have hb := b.toNat_lt
  rw [show (val r.reverse * 256 + b.toNat) / 256 = val r.reverse by omega,show (val r.reverse * 256 + b.toNat) % 256 = b.toNat by omega,cntF_rev c hc r,List.count_cons]
  have hcc : Nat.beq b.toNat c = (b == c.toUInt8) := by
   rw [Bool.eq_iff_iff,beqn_iff,beq_iff_eq]
   constructor
   ·intro h; rw [← h]; simp
   ·intro h; rw [h]; simp; omega
  rw [hcc]
  cases b == c.toUInt8 <;> simp <;> omega
theorem cntF_eq (c : Nat) (l : List UInt8) (a : Nat) (hc : c < 256) : cntF c l.length (val l) a = a + l.count c.toUInt8 := by
 have := cntF_rev c hc l.reverse a
 rwa [List.length_reverse,List.reverse_reverse,List.count_reverse] at this
theorem acountS_ok {x y a h' : AV} {nx' : Nat} {xv yv : Value} (H : HS σ h nx w0 B w) (hx : Rel σ x xv) (hy : Rel σ y yv) (ha : acountS h nx x y = some (a,h',nx')) : EffOk P σ h nx w0 B w (Extern.BytealgCount.count #[xv,yv]) a h' nx' := by
 unfold acountS at ha
 split at ha
 ·rename_i n s c
  cases hx with
  | str t _ _ hn hs =>
  cases hy with
  | int _ _ =>
  cases hc : Nat.blt c 256 with
  | false => simp [hc] at ha
  | true =>
   simp only [hc,cond_true,Option.some.injEq,Prod.mk.injEq] at ha
   obtain ⟨rfl,rfl,rfl⟩ := ha
   have hr := Lib.run_countString (P := P) t (.ofNat c) w
   refine ⟨σ,_,w,SubX.refl nx σ,Dk.refl nx h,Nat.le_refl _,hr,?_,H⟩
   have e : cntF c n s 0 = Lib.countByte t.data.toList c.toUInt8 := by
    have hl : n = t.data.toList.length := by rw [hn]; simp
    rw [hs,hl,cntF_eq c _ _ (blt_iff.1 hc),Nat.zero_add]; rfl
   rw [e]
   exact .int _ _
 ·cases ha
theorem acloneM_ok {x a h' : AV} {nx' : Nat} {xv : Value} (H : HS σ h nx w0 B w) (hx : Rel σ x xv) (ha : acloneM h nx x = some (a,h',nx')) : EffOk P σ h nx w0 B w (Extern.MapsClone.clone #[xv]) a h' nx' := by
 unfold acloneM at ha
 split at ha
 ·rename_i t b
  cases hx with
  | ifc _ _ vv hv =>
  cases hv with
  | map _ r base size hs =>
  split at ha
  ·rename_i l hc
   cases hn : Nat.blt nx (2 ^ HD) with
   | false => simp [hn] at ha
   | true =>
    simp only [hn,cond_true,Option.some.injEq,Prod.mk.injEq] at ha
    obtain ⟨rfl,rfl,rfl⟩ := ha
    obtain ⟨es,clock,h2,h3,h4,hst⟩ := H.mp hs hc
    have hgo : (getObj r).run P w = .ok (.map es clock) w := by simp [getObj,Sem.run,h2]
    have H' := H.new (blt_iff.1 hn) (p := (w.heap.size,0,0)) (x := .mp l) (w' := w.alloc (.map es clock)) rfl rfl rfl rfl rfl
     ⟨w.heap.size,0,0,es,clock,by simp [ext],K.get_alloc w _,⟨h3.mono (H.sub_ext _),hst⟩,.inr H.size⟩
    refine ⟨ext σ nx (w.heap.size,0,0),.iface t (.map (some w.heap.size)),_,H.subX _,dkNew (blt_iff.1 hn),by omega,?_,.ifc _ _ _ (.map _ w.heap.size 0 0 (by simp [ext])),H'⟩
    refine Eq.trans (b := Sem.run P (Bind.bind (getObj r) _) w) rfl ?_
    simp only [Sem.run_bind,hgo,Result.andThen_ok]
    rfl
  ·cases ha
 ·cases ha
theorem aeff_ok {ρ : Operand → AV} {ev : Operand → Value} {o : Oper} {a h' : AV} {nx' : Nat} (H : HS σ h nx w0 B w) (hfv : ∀ f,ev (.func f) = .func (.func f) #[] #[]) (hρ : ∀ x,Rel σ (ρ x) (ev x)) (ha : aeff P ρ h nx o = some (a,h',nx')) :
  StepOk P σ h nx w0 B w (execOp ev o) a h' nx' := by
 obtain ⟨dst,op,oty,pos,after,guard⟩ := o
 unfold aeff at ha
 dsimp only at ha
 split at ha
 ·rename_i ty x y
  split at ha
  ·rename_i b off m s inf he hr hinf
   split at ha
   ·rename_i ety n t hc
    cases hb : (Nat.beq m inf.size && Nat.ble (off + m) n) with
    | false => simp [hb] at ha
    | true =>
     simp only [hb,cond_true,Option.some.injEq,Prod.mk.injEq] at ha
     obtain ⟨rfl,rfl,rfl⟩ := ha
     simp only [Bool.and_eq_true] at hb
     have e0 := beqn_iff.1 hb.1
     have e1 := ble_iff.1 hb.2
     have hx := hρ x
     rw [he] at hx
     generalize hxv : ev x = xv at hx
     cases hx with
     | ptr _ _ r base size o hs ho =>
     have hrow := rowA_ok (hρ y) hr
     obtain ⟨w',g1,g2⟩ := H.write (P := P) hs hc hrow e1
     refine ⟨σ,Go.undef,w',SubX.refl nx σ,H.dkPut hs (by rw [hc]; rfl),Nat.le_refl _,.inr ⟨?_,rfl⟩,.undef,g2⟩
     rw [← ho] at g1
     have e2 : ¬ ((ev y).cells.size ≠ inf.size) := by rw [hrow.1]; omega
     simp [execOp,hxv,Instr.storeAt,Instr.sureAddr,storeVar,run_sizeOf' hinf,hrow.1,e0,g1]
   ·cases ha
  ·cases ha
 ·rename_i x y t t2
  split at ha
  ·rename_i e hu
   exact (aappend_ok (oty := oty) H hu (hρ x) (hρ y) ha).step (fun v w' hv => by simp [execOp,resolve,invoke,builtin,hv])
  ·cases ha
 ·rename_i x y t tys
  split at ha
  ·rename_i e hu
   split at ha
   ·rename_i r hr
    simp only [Option.some.injEq,Prod.mk.injEq] at ha
    obtain ⟨rfl,rfl,rfl⟩ := ha
    exact (acopy_ok (oty := oty) (tys := tys) H hu (hρ x) (hρ y) hr).step (fun v w' hv => by simp [execOp,resolve,invoke,builtin,hv])
   ·cases ha
  ·cases ha
 ·rename_i x y pt it
  have hx := hρ x
  have hy := hρ y
  generalize hxv : ev x = xv at hx
  generalize hyv : ev y = yv at hy
  have hrun : ∀ v w',(Builtin.unsafeString_ #[pt,it] oty #[xv,yv]).run P w = .ok v w' → (execOp ev ⟨dst,.call ⟨.builtin .unsafeString,⟨[x,y]⟩,⟨[pt,it]⟩⟩,oty,pos,after,guard⟩).run P w = .ok (.value v) w' := by
   intro v w' hv
   simp [execOp,resolve,invoke,builtin,hxv,hyv,hv]
  split at ha
  ·rename_i he1 he2
   simp only [Option.some.injEq,Prod.mk.injEq] at ha
   obtain ⟨rfl,rfl,rfl⟩ := ha
   rw [he1] at hx; rw [he2] at hy
   cases hx; cases hy
   exact ⟨σ,_,w,SubX.refl nx σ,Dk.refl nx h,Nat.le_refl _,.inl (hrun _ _ (Lib.run_unsafeString_none w pt it oty none)),.str _ _ _ rfl rfl,H⟩
  ·rename_i b off he1 he2
   simp only [Option.some.injEq,Prod.mk.injEq] at ha
   obtain ⟨rfl,rfl,rfl⟩ := ha
   rw [he1] at hx; rw [he2] at hy
   cases hx; cases hy
   exact ⟨σ,_,w,SubX.refl nx σ,Dk.refl nx h,Nat.le_refl _,.inl (hrun _ _ (Lib.run_unsafeString_none w pt it oty _)),.str _ _ _ rfl rfl,H⟩
  ·rename_i b off k hk0 he1 he2
   split at ha
   ·rename_i ety n t e hc hu
    cases hb : (Nat.beq (ety / 2) e && (Nat.beq (P.cellsOf e) 1 && (Nat.ble (off + k) n && Nat.ble k 9223372036854775807))) with
    | false => simp [hb] at ha
    | true =>
     simp only [hb,cond_true] at ha
     simp only [Bool.and_eq_true] at hb
     have e0 := beqn_iff.1 hb.1
     have e1 := beqn_iff.1 hb.2.1
     have e2 := ble_iff.1 hb.2.2.1
     have e3 := ble_iff.1 hb.2.2.2
     have ek : k ≠ 0 := hk0
     subst e0
     split at ha
     ·rename_i z hz
      simp only [Option.some.injEq,Prod.mk.injEq] at ha
      obtain ⟨rfl,rfl,rfl⟩ := ha
      rw [he1] at hx; rw [he2] at hy
      cases hy
      cases hx with
      | ptr _ _ r base size o hs ho =>
      obtain ⟨cs,fr,h1,h2,h3,h4,h5⟩ := H.cellsT hs hc (.inl rfl)
      obtain ⟨h6,h7⟩ := h5 rfl
      obtain ⟨l,g1,g2,g3⟩ := bytesOf_ok (cs := cs) (base := base) (σ := σ) hz (fun j hj hj' => by
       obtain ⟨v,f1,f2,f3⟩ := h4 j (by omega)
       exact ⟨v,f1,f3⟩)
      have hl0 : l ≠ [] := fun e => by rw [e] at g1; exact ek (by simpa using g1.symm)
      have hsh : w.shape? r = some (ety / 2,size) := by simp [World.shape?,h1,h2]
      have hrs := run_unsafeString (P := P) (w := w) (it := it) (ty := oty) hu e1 hsh (off := o) hl0 (by omega) (by omega) (fun j x hj => by
       have hjl := (List.getElem?_eq_some_iff.1 hj).1
       rw [add_none,cell_cells h1,ho,Nat.add_assoc,g3 j (by omega),List.getD_eq_getElem?_getD,hj]; rfl)
      rw [g1] at hrs
      let w2 := w.freeze ⟨r,o,none⟩ k
      have hw2 : ∃ fr',w2.heap = w.heap.setIfInBounds r (.cells cs (ety / 2) fr') := by
       refine ⟨if fr.1 == fr.2 then (o,o + k) else (min fr.1 o,max fr.2 (o + k)),?_⟩
       simp only [w2,World.freeze]
       rw [if_neg (fun e => by rw [e] at g1; exact hl0 (List.eq_nil_of_length_eq_zero g1))]
       apply Array.ext_getElem?
       intro i
       simp only [Array.getElem?_modify]
       have hlt := lt_of_get h1
       by_cases hi : r = i
       ·subst hi
        rw [if_pos rfl,h1]
        simp only [Option.map_some,Array.getElem?_setIfInBounds,hlt,if_true]
       ·simp [hi]
      obtain ⟨fr',hw2⟩ := hw2
      refine ⟨σ,.string ⟨l.toArray⟩,w2,SubX.refl nx σ,H.dkPut hs (by rw [hc]; rfl),Nat.le_refl _,.inl (hrun _ _ hrs),.str _ _ _ (by show k = l.toArray.size; simp [g1]) (by simpa [val] using g2),?_⟩
      have hg2 : w2.heap[r]? = some (.cells cs (ety / 2) fr') := by rw [hw2]; simp [lt_of_get h1]
      have hos : w2.os = w.os ∧ w2.tape = w.tape ∧ w2.output = w.output := by
       simp only [w2,World.freeze]
       split <;> exact ⟨rfl,rfl,rfl⟩
      exact H.upd hs (by rw [hc]; rfl) h7 hw2 hos.1 hos.2.1 hos.2.2 ⟨r,base,size,cs,fr',ety / 2,hs,hg2,h2,h3,h4,(fun hh => by cases hh),fun _ => rfl⟩
     ·cases ha
   ·cases ha
  ·cases ha
 ·rename_i f x tys
  split at ha
  ·rename_i fn hf
   cases hb : (fn.body.isNone && (fn.name == "internal/abi.NoEscape" && fn.origin == "")) with
   | false =>
    simp only [hb,cond_false] at ha
    cases hb2 : (fn.body.isNone && (fn.name == "maps.clone" && fn.origin == "")) with
    | false => simp [hb2] at ha
    | true =>
     simp only [hb2,cond_true] at ha
     simp only [Bool.and_eq_true,beq_iff_eq] at hb2
     have hxx := hρ x
     refine (acloneM_ok H hxx ha).step fun v w' hr => ?_
     simp only [execOp,resolve,hfv f,Deferred.ofValue,Sem.run_bind,Sem.run_pure,Result.andThen_ok,invoke]
     have e : (#[] ++ Array.map ev { toList := [x] } ++ #[] : Array Value) = #[ev x] := by simp
     rw [e,run_extern1 hf hb2.1 hb2.2.1 hb2.2.2 next_clone generic_clone typed_clone row_clone (by decide) hr]
   | true =>
    simp only [hb,cond_true,Option.some.injEq,Prod.mk.injEq] at ha
    obtain ⟨rfl,rfl,rfl⟩ := ha
    simp only [Bool.and_eq_true,beq_iff_eq] at hb
    have hr := run_noEscape (P := P) (w := w) (x := ev x) hf hb.1 hb.2.1 hb.2.2
    have hfn := hρ (.func f)
    refine ⟨σ,ev x,w,SubX.refl nx σ,Dk.refl nx h,Nat.le_refl _,.inl ?_,hρ x,H⟩
    simp only [execOp,resolve,hfv f,Deferred.ofValue,Sem.run_bind,Sem.run_pure,Result.andThen_ok,invoke]
    have e : (#[] ++ Array.map ev { toList := [x] } ++ #[] : Array Value) = #[ev x] := by simp
    rw [e]; exact hr
  ·cases ha
 ·rename_i f x y tys
  split at ha
  ·rename_i fn hf
   cases hb : (fn.body.isNone && (fn.name == "internal/bytealg.CountString" && fn.origin == "")) with
   | false => simp [hb] at ha
   | true =>
    simp only [hb,cond_true] at ha
    simp only [Bool.and_eq_true,beq_iff_eq] at hb
    refine (acountS_ok H (hρ x) (hρ y) ha).step fun v w' hr => ?_
    simp only [execOp,resolve,hfv f,Deferred.ofValue,Sem.run_bind,Sem.run_pure,Result.andThen_ok,invoke]
    have e : (#[] ++ Array.map ev { toList := [x,y] } ++ #[] : Array Value) = #[ev x,ev y] := by simp
    rw [e,run_extern1 hf hb.1 hb.2.1 hb.2.2 next_count generic_count typed_count row_count (by decide) hr]
  ·cases ha
 ·rename_i t m k x
  obtain ⟨w',g1,rfl,rfl,g4,g5⟩ := amapUpd_ok (P := P) H (hρ m) (hρ k) (hρ x) ha
  refine ⟨σ,Go.undef,w',SubX.refl _ σ,g4,Nat.le_refl _,.inr ⟨?_,rfl⟩,.undef,g5⟩
  simp only [execOp,Sem.run_bind,g1,Result.andThen_ok,Sem.run_pure]
 ·rename_i t m k x
  obtain ⟨w',g1,rfl,rfl,g4,g5⟩ := amapUpd_ok (P := P) H (hρ m) (hρ k) (hρ x) ha
  refine ⟨σ,Go.undef,w',SubX.refl _ σ,g4,Nat.le_refl _,.inr ⟨?_,rfl⟩,.undef,g5⟩
  simp only [execOp,Sem.run_bind,g1,Result.andThen_ok,Sem.run_pure]
 ·rename_i x t
  have hx := hρ x
  generalize hxv : ev x = xv at hx
  have hrun : ∀ v w',(Builtin.clear_ #[t] oty #[xv]).run P w = .ok v w' → (execOp ev ⟨dst,.call ⟨.builtin .clear,⟨[x]⟩,⟨[t]⟩⟩,oty,pos,after,guard⟩).run P w = .ok (.value v) w' := by
   intro v w' hv
   simp [execOp,resolve,invoke,builtin,hxv,hv]
  split at ha
  ·rename_i d0 b hu he
   rw [he] at hx
   cases hx with
   | map _ r base size hs =>
   split at ha
   ·rename_i l hc
    simp only [Option.some.injEq,Prod.mk.injEq] at ha
    obtain ⟨rfl,rfl,rfl⟩ := ha
    obtain ⟨es,clock,h2,h3,h4,hst⟩ := H.mp hs hc
    have hgo : (getObj r).run P w = .ok (.map es clock) w := by simp [getObj,Sem.run,h2]
    have hso : ∀ o,(setObj r o).run P w = .ok () { w with heap := w.heap.setIfInBounds r o } := fun o => by simp [setObj,Sem.run,h2]
    refine ⟨σ,Go.undef,_,SubX.refl _ σ,H.dkPut hs (by rw [hc]; rfl),Nat.le_refl _,.inl (hrun _ _ ?_),.undef,H.setMap (es' := #[]) (clock' := clock) hs hc trivial (Go.MapKept.stamped_empty clock)⟩
    simp only [Builtin.clear_,Sem.run_bind,run_underlying' hu,Result.andThen_ok,hgo,hso,Sem.run_pure,List.getElem?_toArray,List.getElem?_cons_zero]
    rfl
   ·cases ha
  ·rename_i d0 hu he
   rw [he] at hx
   cases hx
   simp only [Option.some.injEq,Prod.mk.injEq] at ha
   obtain ⟨rfl,rfl,rfl⟩ := ha
   refine ⟨σ,Go.undef,w,SubX.refl _ σ,Dk.refl _ _,Nat.le_refl _,.inl (hrun _ _ ?_),.undef,H⟩
   simp only [Builtin.clear_,Sem.run_bind,run_underlying' hu,Result.andThen_ok,Sem.run_pure,List.getElem?_toArray,List.getElem?_cons_zero]
   rfl
  ·cases ha
 ·rename_i x k t tys
  have hx := hρ x
  generalize hxv : ev x = xv at hx
  have hrun : ∀ v w',(Builtin.delete_ ⟨t :: tys⟩ oty #[xv,ev k]).run P w = .ok v w' → (execOp ev ⟨dst,.call ⟨.builtin .delete,⟨[x,k]⟩,⟨t :: tys⟩⟩,oty,pos,after,guard⟩).run P w = .ok (.value v) w' := by
   intro v w' hv
   simp [execOp,resolve,invoke,builtin,hxv,hv]
  split at ha
  ·rename_i kt e b hu he
   rw [he] at hx
   cases hx with
   | map _ r base size hs =>
   split at ha
   ·rename_i kd l hkd hc
    cases hf : fitKey kd (ρ k) with
    | false => simp [hf] at ha
    | true =>
     simp only [hf,cond_true] at ha
     obtain ⟨es,clock,h2,h3,h4,hst⟩ := H.mp hs hc
     have hgo : (getObj r).run P w = .ok (.map es clock) w := by simp [getObj,Sem.run,h2]
     have hso : ∀ o,(setObj r o).run P w = .ok () { w with heap := w.heap.setIfInBounds r o } := fun o => by simp [setObj,Sem.run,h2]
     have hchk := fun em => fit_check (P := P) (w := w) (hρ k) hkd hf em
     split at ha
     ·rename_i i v hfi
      simp only [Option.some.injEq,Prod.mk.injEq] at ha
      obtain ⟨rfl,rfl,rfl⟩ := ha
      rcases findI_ok (hρ k) hf h3 hfi with ⟨g,_⟩ | ⟨j,v',u,g1,g2,g3,g4,en,g5,g6,g7⟩
      ·cases g
      ·simp only [Option.some.injEq,Prod.mk.injEq] at g1
       obtain ⟨rfl,rfl⟩ := g1
       rw [Nat.sub_zero] at g5
       have hlt : i < es.size := by
        have := (List.getElem?_eq_some_iff.1 g5).1
        simpa using this
       refine ⟨σ,Go.undef,_,SubX.refl _ σ,H.dkPut hs (by rw [hc]; rfl),Nat.le_refl _,.inl (hrun _ _ ?_),.undef,H.setMap (es' := es.eraseIdxIfInBounds i) (clock' := clock) hs hc (by
        rw [show (es.eraseIdxIfInBounds i).toList = es.toList.eraseIdx i by rw [Array.eraseIdxIfInBounds_eq]; simp [hlt]]
        exact EsRel.drop h3 (by simpa using hlt)) (Go.MapKept.stamped_erase hst i)⟩
       simp only [Builtin.delete_,Sem.run_bind,run_underlying' hu,Result.andThen_ok,hgo,hchk,run_findKey' hkd g2,hso,Sem.run_pure,List.getElem?_toArray,List.getElem?_cons_zero,List.getElem?_cons_succ]
       rfl
     ·rename_i hfi
      simp only [Option.some.injEq,Prod.mk.injEq] at ha
      obtain ⟨rfl,rfl,rfl⟩ := ha
      rcases findI_ok (hρ k) hf h3 hfi with ⟨_,g2⟩ | ⟨j,v',u,g1,_⟩
      ·have hsame : (HS σ (cput HD h b (.mp l)) nx w0 B { w with heap := w.heap.setIfInBounds r (.map es clock) }) := H.setMap hs hc h3 hst
       have hw : ({ w with heap := w.heap.setIfInBounds r (.map es clock) } : World) = w := by
        have : w.heap.setIfInBounds r (.map es clock) = w.heap := by
         apply Array.ext_getElem?
         intro q
         by_cases hq : r = q
         ·subst hq; rw [h2]; simp [lt_of_get h2]
         ·simp [hq]
        rw [this]
       refine ⟨σ,Go.undef,w,SubX.refl _ σ,Dk.refl _ _,Nat.le_refl _,.inl (hrun _ _ ?_),.undef,H⟩
       simp only [Builtin.delete_,Sem.run_bind,run_underlying' hu,Result.andThen_ok,hgo,hchk,run_findKey' hkd g2,hso,Sem.run_pure,List.getElem?_toArray,List.getElem?_cons_zero,List.getElem?_cons_succ,hw]
       rfl
      ·cases g1
     ·cases ha
   ·cases ha
  ·cases ha
 ·cases ha
end
end I
end Go.Proofs.YtohjpggjgomgoaaGreatDoor
namespace Go.Proofs.YtohjpggjgomgoaaGreatDoor
namespace I
open K (one aggB run_underlying' run_sizeOf' add_none run_v cell_cells)
set_option linter.unusedVariables false
def opndA (G n d : Nat) (tm : AV) : Operand → AV
 | .tmp t => bif Nat.blt t n then cget d tm t else .undef
 | .const v => ofConst v
 | .global g => bif Nat.blt g G then .ptr g 0 else .bad
 | .func f => .fn f .lnil .lnil
def putA (n d : Nat) (tm : AV) : Option Nat → AV → AV
 | none,_ => tm
 | some t,v => bif Nat.blt t n then cput d tm t v else tm
structure SlotRel (ds : List Deferred) (σ : Sg) (n d : Nat) (tm : AV) (a : Act) : Prop where
 size : a.tmps.size = n
 dfr : a.defers = ds
 le : n ≤ 2 ^ d
 sl : ∀ t,t < n → Rel σ (cget d tm t) (a.tmps.getD t Go.undef)
def GRel (σ : Sg) (G : Nat) : Prop := ∀ g,g < G → ∃ size,σ g = some (g,0,size)
theorem GRel.mono {σ σ' : Sg} {G : Nat} (h : GRel σ G) (hs : Sub σ σ') : GRel σ' G := fun g hg => by
 obtain ⟨size,h1⟩ := h g hg
 exact ⟨size,hs _ _ h1⟩
section
variable {P : Program} {ds : List Deferred} {σ σ' : Sg} {G n d : Nat} {tm : AV} {a : Act}
theorem SlotRel.mono (h : SlotRel ds σ n d tm a) (hs : Sub σ σ') : SlotRel ds σ' n d tm a := ⟨h.size,h.dfr,h.le,fun t ht => (h.sl t ht).mono hs⟩
theorem opnd_ok (hs : SlotRel ds σ n d tm a) (hg : GRel σ G) (x : Operand) : Rel σ (opndA G n d tm x) (a.eval x) := by
 cases x with
 | tmp t =>
  simp only [opndA,Act.eval]
  cases hb : Nat.blt t n with
  | true => simp only [cond_true]; exact hs.sl t (blt_iff.1 hb)
  | false =>
   have := blt_false.1 hb
   simp only [cond_false]
   rw [Array.getD_eq_getD_getElem?,Array.getElem?_eq_none (by rw [hs.size]; exact this)]
   exact .undef
 | const v => exact ofConst_ok σ v
 | global g =>
  simp only [opndA,Act.eval]
  cases hb : Nat.blt g G with
  | true =>
   obtain ⟨size,h1⟩ := hg g (blt_iff.1 hb)
   simp only [cond_true]
   exact .ptr _ _ g 0 size 0 h1 rfl
  | false => simp only [cond_false]; exact .bad _
 | func f => exact .fn f .lnil .lnil #[] #[] rfl rfl (fun i a v h => by simp [toList] at h) (fun i a v h => by simp [toList] at h)
theorem put_ok (hs : SlotRel ds σ n d tm a) {dst : Option Nat} {v : AV} {v' : Value} (hv : Rel σ v v') : SlotRel ds σ n d (putA n d tm dst v) (a.put dst v') := by
 cases dst with
 | none => exact hs
 | some t =>
  simp only [putA]
  cases hb : Nat.blt t n with
  | false =>
   have hlt := blt_false.1 hb
   simp only [cond_false]
   refine ⟨by simp [Act.put,hs.size],hs.dfr,hs.le,fun u hu => ?_⟩
   simp only [Act.put]
   rw [K.getD_set,if_neg (by rw [hs.size]; omega)]
   exact hs.sl u hu
  | true =>
   have hlt := blt_iff.1 hb
   simp only [cond_true]
   refine ⟨by simp [Act.put,hs.size],hs.dfr,hs.le,fun u hu => ?_⟩
   have hle := hs.le
   simp only [Act.put]
   rw [cget_cput d tm t u v (by omega) (by omega),K.getD_set]
   by_cases hut : u = t
   ·rw [if_pos hut,if_pos ⟨hut,by rw [hs.size]; exact hlt⟩]; exact hv
   ·rw [if_neg hut,if_neg (fun h => hut h.1)]; exact hs.sl u hu
theorem rel_bool {x : AV} {b : Bool} (h : Rel σ x (.bool b)) (hb : x ≠ .bad) : x = .bool b := by
 cases h with
 | bad => exact absurd rfl hb
 | bool => rfl
def wantA (n d : Nat) (ops : Array Oper) (tm : AV) (o : Oper) : Option Bool :=
 match o.guard with
 | none => some true
 | some (j,want) => match (ops[j]?).bind (·.dst) with
  | none => none
  | some t => bif Nat.blt t n then
    match cget d tm t with
    | .bool b => some (b == want)
    | .bad => none
    | _ => some false
   else none
theorem wantA_ok (hs : SlotRel ds σ n d tm a) {ops : Array Oper} {o : Oper} {b : Bool} (h : wantA n d ops tm o = some b) : Region.wanted o (yielded ops a.tmps) = b := by
 unfold wantA at h
 split at h
 ·rename_i hg
  simp only [Option.some.injEq] at h
  subst h
  simp [Region.wanted,hg]
 ·rename_i j want hg
  split at h
  ·cases h
  ·rename_i t ht
   cases hb : Nat.blt t n with
   | false => simp [hb] at h
   | true =>
    simp only [hb,cond_true] at h
    have hr := hs.sl t (blt_iff.1 hb)
    have hw := K.wanted_iff (tm := a.tmps) hg ht
    split at h
    ·rename_i c hc
     simp only [Option.some.injEq] at h
     rw [hc] at hr
     generalize hv : a.tmps.getD t Go.undef = v at hr hw
     cases hr
     rw [Bool.eq_iff_iff,hw,← h]
     simp
    ·cases h
    ·rename_i hnb hne
     simp only [Option.some.injEq] at h
     rw [← h,Bool.eq_false_iff]
     intro hh
     have := hw.1 hh
     rw [this] at hr
     exact hnb _ (rel_bool hr (fun e => hne (by rw [e])))
end
inductive SR where
 | val (v h : AV) (nx : Nat)
 | call (f : Nat) (args : List AV)
def acallee (ρ : Operand → AV) (o : Oper) : Option (Nat × List AV) :=
 match o.op with
 | .call ⟨.value f,args,_⟩ => match ρ f with
  | .fn g first caps => some (2 * g,toList first ++ (args.toList.map ρ ++ toList caps))
  | .yld b => some (2 * b + 1,args.toList.map ρ)
  | _ => none
 | _ => none
def astep (P : Program) (ρ : Operand → AV) (h : AV) (nx : Nat) (o : Oper) : Option SR :=
 match apure P ρ o with
 | some v => some (.val v h nx)
 | none => match aread P ρ h o with
  | some v => some (.val v h nx)
  | none => match anew P ρ o with
   | some (nv,x) => bif Nat.blt nx (2 ^ HD) then some (.val (nv.at nx) (cput HD h nx x) (nx + 1)) else none
   | none => match aeff P ρ h nx o with
    | some (v,h',nx') => some (.val v h' nx')
    | none => match acallee ρ o with
     | some (f,args) => some (.call f args)
     | none => none
def RelL (σ : Sg) (l : List AV) (vs : List Value) : Prop := l.length = vs.length ∧ ∀ (i : Nat) a v,l[i]? = some a → vs[i]? = some v → Rel σ a v
section
variable {P : Program} {σ : Sg} {h : AV} {nx : Nat} {w0 w : World} {B : Fr}
theorem RelL.mono {σ' : Sg} {l : List AV} {vs : List Value} (hr : RelL σ l vs) (hs : Sub σ σ') : RelL σ' l vs := ⟨hr.1,fun i a v ha hv => (hr.2 i a v ha hv).mono hs⟩
theorem RelL.app {l l' : List AV} {vs vs' : List Value} (h1 : RelL σ l vs) (h2 : RelL σ l' vs') : RelL σ (l ++ l') (vs ++ vs') := by
 refine ⟨by simp [h1.1,h2.1],fun i a v ha hv => ?_⟩
 by_cases hi : i < l.length
 ·rw [List.getElem?_append_left hi] at ha
  rw [List.getElem?_append_left (by rw [← h1.1]; exact hi)] at hv
  exact h1.2 i a v ha hv
 ·rw [List.getElem?_append_right (by omega)] at ha
  rw [List.getElem?_append_right (by rw [← h1.1]; omega),← h1.1] at hv
  exact h2.2 _ a v ha hv
theorem map_relL {ρ : Operand → AV} {ev : Operand → Value} (hρ : ∀ x,Rel σ (ρ x) (ev x)) (xs : List Operand) : RelL σ (xs.map ρ) (xs.map ev) := by
 refine ⟨by simp,fun i a v ha hv => ?_⟩
 simp only [List.getElem?_map,Option.map_eq_some_iff] at ha hv
 obtain ⟨x,h1,rfl⟩ := ha
 obtain ⟨y,h2,rfl⟩ := hv
 rw [h1] at h2; simp only [Option.some.injEq] at h2; subst h2
 exact hρ x
def fen (ro : Option Nat) : Fence := { Fence.wide with round := ro }
def CalleeOk (P : Program) (σ : Sg) (code : Nat) (vs : List Value) (w : World) (R : Ending → World → Prop) : Prop :=
 if code % 2 = 0 then (∃ fn c,P.funcs[code / 2]? = some fn ∧ (fn.name == "runtime.NumGoroutine") = false ∧ fn.body = some c) ∧ Calls P (code / 2) vs.toArray w R
 else ∀ r base size,σ (code / 2) = some (r,base,size) → ∃ f tmps assign body,(Instr.yield r vs.toArray).run P w = .ok (.round r f tmps assign body) w ∧ RoundIn Fence.wide 0 P r f tmps assign body w R
theorem semAt_run {ro : Option Nat} {ev : Operand → Value} {o : Oper} {x : Next} {w' : World} (h : (execOp ev o).run P w = .ok x w') (hx : ∀ d,x ≠ .defer d) : (o.semAt ro ev).run P w = .ok x w' := by
 rw [Oper.semAt_eq]
 ·exact h
 ·intro c hc
  obtain ⟨dst,op,oty,pos,after,guard⟩ := o
  simp only at hc
  subst hc
  simp only [execOp,Sem.run_bind] at h
  cases hr : (resolve ev c oty).run P w with
  | ok d w1 =>
   simp only [hr,Result.andThen_ok,Sem.run_pure,Result.ok.injEq] at h
   exact hx d h.1.symm
  | halt z w1 => simp [hr] at h
theorem wpIn_value {ro : Option Nat} {a : Act} {o : Oper} {v : Value} {w' : World} {next : Act → World → Prop} {Q : Exit → Act → World → Prop} (h : (execOp a.eval o).run P w = .ok (.value v) w') (hn : next (a.put o.dst v) w') : o.wpIn (fen ro) 0 P a w next Q := by
 refine ⟨fun _ _ => trivial,?_⟩
 rw [semAt_run h (fun d hd => by cases hd)]
 exact hn
theorem wpIn_skipOp {ro : Option Nat} {a : Act} {o : Oper} {w' : World} {next : Act → World → Prop} {Q : Exit → Act → World → Prop} (h : (execOp a.eval o).run P w = .ok .skip w') (hn : next (a.put o.dst Go.undef) w') : o.wpIn (fen ro) 0 P a w next Q := by
 refine ⟨fun _ _ => trivial,?_⟩
 rw [semAt_run h (fun d hd => by cases hd)]
 exact hn
theorem wpIn_callOp {ro : Option Nat} {a : Act} {ρ : Operand → AV} {o : Oper} {code : Nat} {args : List AV} (hρ : ∀ x,Rel σ (ρ x) (a.eval x)) (hc : acallee ρ o = some (code,args)) {R : Ending → World → Prop}
  (hk : ∀ vs,RelL σ args vs → CalleeOk P σ code vs w R) {next : Act → World → Prop} {Q : Exit → Act → World → Prop} (hR : ∀ e w',R e w' → ∃ v',e = .returned v' ∧ next (a.put o.dst v') w') : o.wpIn (fen ro) 0 P a w next Q := by
 obtain ⟨dst,op,oty,pos,after,guard⟩ := o
 refine ⟨fun _ _ => trivial,?_⟩
 unfold acallee at hc
 dsimp only at hc
 split at hc
 ·rename_i g xs tys
  split at hc
  ·rename_i f' first caps he
   simp only [Option.some.injEq,Prod.mk.injEq] at hc
   obtain ⟨rfl,rfl⟩ := hc
   have hg := hρ g
   rw [he] at hg
   generalize hgv : a.eval g = gv at hg
   cases hg with
   | fn _ _ _ ys zs h1 h2 h3 h4 =>
   have hrel : RelL σ (toList first ++ (xs.toList.map ρ ++ toList caps)) (ys.toList ++ (xs.toList.map a.eval ++ zs.toList)) :=
    RelL.app ⟨by simpa using h1,fun i a v ha hv => h3 i a v ha (by simpa using hv)⟩ (RelL.app (map_relL hρ _) ⟨by simpa using h2,fun i a v ha hv => h4 i a v ha (by simpa using hv)⟩)
   have hk := hk _ hrel
   unfold CalleeOk at hk
   rw [if_pos (by omega),show 2 * f' / 2 = f' by omega] at hk
   obtain ⟨⟨fn,c,c1,c2,c3⟩,hcall⟩ := hk
   have hrun : (execOp a.eval ⟨dst,.call ⟨.value g,xs,tys⟩,oty,pos,after,guard⟩).run P w = .ok (.enter f' (ys.toList ++ (xs.toList.map a.eval ++ zs.toList)).toArray) w := by
    have e : ys ++ xs.map a.eval ++ zs = (ys.toList ++ (xs.toList.map a.eval ++ zs.toList)).toArray := by
     apply Array.ext'
     simp
    simp only [execOp,resolve,hgv,Deferred.ofValue,Sem.run_bind,Sem.run_pure,Result.andThen_ok,invoke]
    rw [e]
    exact K.run_callFunc c1 c2 c3
   rw [semAt_run hrun (fun d hd => by cases hd),Oper.uponIn_enter]
   refine ⟨fun h => (by cases h),?_⟩
   have h1 : CallsIn Fence.wide 0 P f' _ w R := callsIn_wide.2 hcall
   have h2 : CallsIn (fen ro) 0 P f' _ w R := h1
   refine h2.mono fun e w' he => ?_
   obtain ⟨v',rfl,hn⟩ := hR e w' he
   exact hn
  ·rename_i b he
   simp only [Option.some.injEq,Prod.mk.injEq] at hc
   obtain ⟨rfl,rfl⟩ := hc
   have hg := hρ g
   rw [he] at hg
   generalize hgv : a.eval g = gv at hg
   cases hg with
   | yld _ r base size hs =>
   have hk := hk _ (map_relL hρ xs.toList)
   unfold CalleeOk at hk
   rw [if_neg (by omega),show (2 * b + 1) / 2 = b by omega] at hk
   obtain ⟨f,tmps,assign,body,h1,h2⟩ := hk r base size hs
   have hrun : (execOp a.eval ⟨dst,.call ⟨.value g,xs,tys⟩,oty,pos,after,guard⟩).run P w = .ok (.round r f tmps assign body) w := by
    have e : xs.map a.eval = (xs.toList.map a.eval).toArray := by
     apply Array.ext'
     simp
    simp only [execOp,resolve,hgv,Deferred.ofValue,Sem.run_bind,Sem.run_pure,Result.andThen_ok,invoke]
    simp
    rw [e]
    exact h1
   rw [semAt_run hrun (fun d hd => by cases hd),Oper.uponIn_round]
   refine ⟨fun h => (by cases h),?_⟩
   have h3 : RoundIn (fen ro) 0 P r f tmps assign body w R := h2
   refine h3.mono fun e w' he => ?_
   obtain ⟨v',rfl,hn⟩ := hR e w' he
   exact hn
  ·cases hc
 ·cases hc
theorem astep_ok {ρ : Operand → AV} {ev : Operand → Value} {o : Oper} {a h' : AV} {nx' : Nat} (H : HS σ h nx w0 B w) (hfv : ∀ f,ev (.func f) = .func (.func f) #[] #[]) (hρ : ∀ x,Rel σ (ρ x) (ev x)) (ha : astep P ρ h nx o = some (.val a h' nx')) :
  StepOk P σ h nx w0 B w (execOp ev o) a h' nx' := by
 unfold astep at ha
 split at ha
 ·rename_i v hv
  simp only [Option.some.injEq,SR.val.injEq] at ha
  obtain ⟨rfl,rfl,rfl⟩ := ha
  obtain ⟨u,h1,h2⟩ := apure_ok (P := P) (w := w) hρ hv
  exact ⟨σ,u,w,SubX.refl nx σ,Dk.refl nx h,Nat.le_refl _,.inl h2,h1,H⟩
 ·split at ha
  ·rename_i v hv
   simp only [Option.some.injEq,SR.val.injEq] at ha
   obtain ⟨rfl,rfl,rfl⟩ := ha
   obtain ⟨u,h1,h2⟩ := aread_ok (P := P) H hρ hv
   exact ⟨σ,u,w,SubX.refl nx σ,Dk.refl nx h,Nat.le_refl _,.inl h2,h1,H⟩
  ·split at ha
   ·rename_i nv x hv
    cases hb : Nat.blt nx (2 ^ HD) with
    | false => simp [hb] at ha
    | true =>
     simp only [hb,cond_true,Option.some.injEq,SR.val.injEq] at ha
     obtain ⟨rfl,rfl,rfl⟩ := ha
     obtain ⟨p,u,w',h1,h2,h3⟩ := anew_ok (P := P) H (blt_iff.1 hb) hρ hv
     exact ⟨_,u,w',H.subX p,dkNew (blt_iff.1 hb),Nat.le_succ _,.inl h1,h2,h3⟩
   ·split at ha
    ·rename_i v h1 nx1 hv
     simp only [Option.some.injEq,SR.val.injEq] at ha
     obtain ⟨rfl,rfl,rfl⟩ := ha
     exact aeff_ok H hfv hρ hv
    ·split at ha
     ·cases ha
     ·cases ha
theorem astep_call {ρ : Operand → AV} {o : Oper} {f : Nat} {args : List AV} (ha : astep P ρ h nx o = some (.call f args)) : acallee ρ o = some (f,args) := by
 unfold astep at ha
 split at ha
 ·cases ha
 ·split at ha
  ·cases ha
  ·split at ha
   ·rename_i nv x hv
    cases hb : Nat.blt nx (2 ^ HD) <;> simp [hb] at ha
   ·split at ha
    ·cases ha
    ·split at ha
     ·rename_i f' args' hc
      simp only [Option.some.injEq,SR.call.injEq] at ha
      obtain ⟨rfl,rfl⟩ := ha
      exact hc
     ·cases ha
end
end I
end Go.Proofs.YtohjpggjgomgoaaGreatDoor
namespace Go.Proofs.YtohjpggjgomgoaaGreatDoor
namespace I
open K (one aggB run_underlying' run_sizeOf' add_none run_v cell_cells)
set_option linter.unusedVariables false
theorem cput_comm : ∀ (d : Nat) (t : AV) (i j : Nat) (x y : AV),i < 2 ^ d → j < 2 ^ d → i ≠ j → cput d (cput d t i x) j y = cput d (cput d t j y) i x
 | 0,t,i,j,x,y,hi,hj,hne => by simp only [Nat.pow_zero] at hi hj; omega
 | d + 1,t,i,j,x,y,hi,hj,hne => by
  have hp : 2 ^ (d + 1) = 2 ^ d + 2 ^ d := by rw [Nat.pow_succ]; omega
  cases h1 : Nat.blt i (2 ^ d) <;> cases h2 : Nat.blt j (2 ^ d) <;> simp only [cput,h1,h2,cond_true,cond_false,kidL,kidR]
  ·have a1 := blt_false.1 h1
   have a2 := blt_false.1 h2
   rw [cput_comm d _ _ _ x y (by omega) (by omega) (by omega)]
  ·have a1 := blt_iff.1 h1
   have a2 := blt_iff.1 h2
   rw [cput_comm d _ _ _ x y a1 a2 hne]
def beqA : AV → AV → Bool
 | .undef,.undef => true
 | .bool a,.bool b => a == b
 | .int k a,.int k' b => Nat.beq (kn k) (kn k') && ieq a b
 | .str n x,.str m y => Nat.beq n m && Nat.beq x y
 | .nilp,.nilp => true
 | .ptr a b,.ptr c d => Nat.beq a c && Nat.beq b d
 | .nils,.nils => true
 | .sl a b c d e,.sl a' b' c' d' e' => Nat.beq a a' && (Nat.beq b b' && (Nat.beq c c' && (Nat.beq d d' && Nat.beq e e')))
 | .nilm,.nilm => true
 | .map a,.map b => Nat.beq a b
 | .nilf,.nilf => true
 | .fn f a b,.fn g c d => Nat.beq f g && (beqA a c && beqA b d)
 | .nili,.nili => true
 | .yld a,.yld b => Nat.beq a b
 | .ifc t a,.ifc u b => Nat.beq t u && beqA a b
 | .agg n t,.agg m u => Nat.beq n m && beqA t u
 | .tup a,.tup b => beqA a b
 | .lnil,.lnil => true
 | .lcons a b,.lcons c d => beqA a c && beqA b d
 | .node a b,.node c d => beqA a c && beqA b d
 | .uni a,.uni b => beqA a b
 | _,_ => false
theorem beqA_ok : ∀ (x y : AV),beqA x y = true → x = y := by
 intro x
 induction x with
 | bad => intro y h; cases y <;> simp [beqA] at h
 | undef => intro y h; cases y <;> simp [beqA] at h; rfl
 | bool b => intro y h; cases y <;> simp [beqA] at h; rw [h]
 | int k n =>
  intro y h
  cases y <;> simp only [beqA,Bool.and_eq_true,Bool.false_eq_true] at h
  obtain ⟨h1,h2⟩ := h
  rw [ieq_eq] at h2
  rw [kn_inj h1,of_decide_eq_true h2]
 | str n x => intro y h; cases y <;> simp only [beqA,Bool.and_eq_true,Bool.false_eq_true] at h; rw [beqn_iff.1 h.1,beqn_iff.1 h.2]
 | nilp => intro y h; cases y <;> simp [beqA] at h; rfl
 | ptr a b => intro y h; cases y <;> simp only [beqA,Bool.and_eq_true,Bool.false_eq_true] at h; rw [beqn_iff.1 h.1,beqn_iff.1 h.2]
 | nils => intro y h; cases y <;> simp [beqA] at h; rfl
 | sl a b c d e => intro y h; cases y <;> simp only [beqA,Bool.and_eq_true,Bool.false_eq_true] at h; rw [beqn_iff.1 h.1,beqn_iff.1 h.2.1,beqn_iff.1 h.2.2.1,beqn_iff.1 h.2.2.2.1,beqn_iff.1 h.2.2.2.2]
 | nilm => intro y h; cases y <;> simp [beqA] at h; rfl
 | map a => intro y h; cases y <;> simp only [beqA,Bool.false_eq_true] at h; rw [beqn_iff.1 h]
 | nilf => intro y h; cases y <;> simp [beqA] at h; rfl
 | fn f a b iha ihb => intro y h; cases y <;> simp only [beqA,Bool.and_eq_true,Bool.false_eq_true] at h; rw [beqn_iff.1 h.1,iha _ h.2.1,ihb _ h.2.2]
 | nili => intro y h; cases y <;> simp [beqA] at h; rfl
 | ifc t a iha => intro y h; cases y <;> simp only [beqA,Bool.and_eq_true,Bool.false_eq_true] at h; rw [beqn_iff.1 h.1,iha _ h.2]
 | agg n t iht => intro y h; cases y <;> simp only [beqA,Bool.and_eq_true,Bool.false_eq_true] at h; rw [beqn_iff.1 h.1,iht _ h.2]
 | tup a iha => intro y h; cases y <;> simp only [beqA,Bool.false_eq_true] at h; rw [iha _ h]
 | lnil => intro y h; cases y <;> simp [beqA] at h; rfl
 | lcons a b iha ihb => intro y h; cases y <;> simp only [beqA,Bool.and_eq_true,Bool.false_eq_true] at h; rw [iha _ h.1,ihb _ h.2]
 | node a b iha ihb => intro y h; cases y <;> simp only [beqA,Bool.and_eq_true,Bool.false_eq_true] at h; rw [iha _ h.1,ihb _ h.2]
 | uni a iha => intro y h; cases y <;> simp only [beqA,Bool.false_eq_true] at h; rw [iha _ h]
 | dead => intro y h; cases y <;> simp [beqA] at h
 | cells ty n ro t _ => intro y h; cases y <;> simp [beqA] at h
 | mp l _ => intro y h; cases y <;> simp [beqA] at h
 | yld b => intro y h; cases y <;> simp only [beqA,Bool.false_eq_true] at h; rw [beqn_iff.1 h]
 | lp n ps assign body tm st pend db _ => intro y h; cases y <;> simp [beqA] at h
 | df => intro y h; cases y <;> simp [beqA] at h
def snap (n d : Nat) (tm : AV) : List Nat → List AV
 | [] => []
 | t :: l => (bif Nat.blt t n then cget d tm t else .undef) :: snap n d tm l
def pickS (t : Nat) : List Nat → List AV → AV
 | s :: l,v :: vs => bif Nat.beq s t then v else pickS t l vs
 | _,_ => .bad
def opndS (G : Nat) (ls : List Nat) (vs : List AV) : Operand → AV
 | .tmp t => pickS t ls vs
 | .const v => ofConst v
 | .global g => bif Nat.blt g G then .ptr g 0 else .bad
 | .func f => .fn f .lnil .lnil
section
variable {P : Program} {σ : Sg} {G n d : Nat} {tm : AV} {a : Act}
theorem pickS_ok {ds : List Deferred} (hs : SlotRel ds σ n d tm a) (t : Nat) : ∀ (l : List Nat),Rel σ (pickS t l (snap n d tm l)) (a.eval (.tmp t))
 | [] => .bad _
 | s :: l => by
  simp only [snap,pickS]
  cases hb : Nat.beq s t with
  | false => simp only [cond_false]; exact pickS_ok hs t l
  | true =>
   have := beqn_iff.1 hb
   subst this
   simp only [cond_true]
   exact opnd_ok (G := 0) hs (fun g hg => by omega) (.tmp s)
theorem opndS_ok {ds : List Deferred} (hs : SlotRel ds σ n d tm a) (hg : GRel σ G) (l : List Nat) (x : Operand) : Rel σ (opndS G l (snap n d tm l) x) (a.eval x) := by
 cases x with
 | tmp t => exact pickS_ok hs t l
 | const v => exact opnd_ok hs hg (.const v)
 | global g => exact opnd_ok hs hg (.global g)
 | func f => exact opnd_ok hs hg (.func f)
theorem snap_put {dst : Option Nat} {v : AV} (hn : n ≤ 2 ^ d) : ∀ {l : List Nat},(∀ t,dst = some t → t ∉ l) → snap n d (putA n d tm dst v) l = snap n d tm l
 | [],_ => rfl
 | s :: l,h => by
  simp only [snap]
  rw [snap_put hn (l := l) (fun t ht hm => h t ht (List.mem_cons_of_mem _ hm))]
  congr 1
  cases dst with
  | none => rfl
  | some t =>
   have hne : s ≠ t := fun e => h t rfl (by rw [e]; exact List.mem_cons_self ..)
   cases hb : Nat.blt s n with
   | false => rfl
   | true =>
    have hs := blt_iff.1 hb
    simp only [cond_true,putA]
    cases hc : Nat.blt t n with
    | false => rfl
    | true =>
     have ht := blt_iff.1 hc
     simp only [cond_true]
     rw [cget_cput d tm t s v (by omega) (by omega),if_neg hne]
theorem wantA_put {dst : Option Nat} {v : AV} (hn : n ≤ 2 ^ d) {ops : Array Oper} {o : Oper} (h : ∀ t,dst = some t → t ∉ o.looksAt ops) : wantA n d ops (putA n d tm dst v) o = wantA n d ops tm o := by
 unfold wantA
 split
 ·rfl
 ·rename_i j want hg
  split
  ·rfl
  ·rename_i t ht
   have hmem : t ∈ o.looksAt ops := by
    unfold Oper.looksAt
    rw [hg]
    simp [ht]
   cases hb : Nat.blt t n with
   | false => rfl
   | true =>
    simp only [cond_true]
    have hlt := blt_iff.1 hb
    have : cget d (putA n d tm dst v) t = cget d tm t := by
     cases dst with
     | none => rfl
     | some u =>
      have hne : t ≠ u := fun e => h u rfl (e ▸ hmem)
      simp only [putA]
      cases hc : Nat.blt u n with
      | false => rfl
      | true =>
       have hu := blt_iff.1 hc
       simp only [cond_true]
       rw [cget_cput d tm u t v (by omega) (by omega),if_neg hne]
    rw [this]
theorem putA_comm {i j : Option Nat} {x y : AV} (hn : n ≤ 2 ^ d) (h : ∀ t,i = some t → j ≠ some t) : putA n d (putA n d tm i x) j y = putA n d (putA n d tm j y) i x := by
 cases i with
 | none => rfl
 | some s =>
  cases j with
  | none => rfl
  | some t =>
   have hne : s ≠ t := fun e => h s rfl (by rw [e])
   simp only [putA]
   cases hb : Nat.blt s n <;> cases hc : Nat.blt t n <;> simp only [cond_true,cond_false]
   exact cput_comm d tm s t x y (by have := blt_iff.1 hb; omega) (by have := blt_iff.1 hc; omega) hne
end
end I
end Go.Proofs.YtohjpggjgomgoaaGreatDoor
namespace Go.Proofs.YtohjpggjgomgoaaGreatDoor
namespace I
open K (one aggB run_underlying' run_sizeOf' add_none run_v cell_cells)
set_option linter.unusedVariables false
def quietK (o : Oper) : Bool :=
 match o.op with
 | .store .. | .mapUpdate .. | .insert .. | .entryStore .. | .mapEntry .. | .range .. | .next .. | .entry .. | .go .. | .defer .. | .panic .. | .send .. | .recv .. | .select .. | .makeChan .. | .ready .. | .waits .. => false
 | .call ⟨.builtin .len,_,_⟩ | .call ⟨.builtin .cap,_,_⟩ | .call ⟨.builtin .max,_,_⟩ | .call ⟨.builtin .min,_,_⟩ | .call ⟨.builtin .unsafeSliceData,_,_⟩ => true
 | .call _ => false
 | _ => true
structure D where
 tm : AV
 h : AV
 nx : Nat
 pt : AV
 wt : AV
abbrev KF := Nat → List AV → AV → Nat → Option (AV × AV × Nat)
structure DC where
 P : Program
 G : Nat
 n : Nat
 d : Nat
 K : KF
 ops : Array Oper
 nx0 : Nat
 pd : Nat
def ancN (ops : Array Oper) : Nat → Nat → List Nat
 | 0,_ => []
 | k + 1,j => match ops[j]? with
  | none => []
  | some o => o.after.toList.flatMap fun e => bif Region.binds .any e then e.on :: ancN ops k e.on else []
def merge (pd nx0 : Nat) : List Nat → AV → AV → AV × AV
 | [],h,pt => (h,pt)
 | j :: l,h,pt => bif live (cget pd pt j) && Nat.blt j (2 ^ pd) then merge pd nx0 l (cput HD h (nx0 + j) (cget pd pt j)) (cput pd pt j .undef) else merge pd nx0 l h pt
def chkW (C : DC) (h wt : AV) : List Nat → Bool
 | [] => true
 | k :: l => (match cget C.pd wt k with
  | .lcons vs v => match C.ops[k]? with
   | some o => match aread C.P (opndS C.G (o.looksAt C.ops) (toList vs)) h o with
    | some v' => beqA v v'
    | none => false
   | none => false
  | _ => true) && chkW C h wt l
def put1 (C : DC) (s : D) (o : Oper) (v : AV) : D := { s with tm := putA C.n C.d s.tm o.dst v }
structure QE where
 v : AV
 w : Option AV
 p : Option AV
def optput (d i : Nat) (t : AV) : Option AV → AV
 | none => t
 | some x => cput d t i x
def QE.app (C : DC) (q : QE) (s : D) (i : Nat) (o : Oper) : D :=
 { s with tm := putA C.n C.d s.tm o.dst q.v,wt := optput C.pd i s.wt q.w,pt := optput C.pd i s.pt q.p }
def qeff (C : DC) (vs : List AV) (h : AV) (i : Nat) (o : Oper) : Option QE :=
 let ρ := opndS C.G (o.looksAt C.ops) vs
 match apure C.P ρ o with
 | some v => some ⟨v,none,none⟩
 | none => match anew C.P ρ o with
  | some (nv,x) => some ⟨nv.at (C.nx0 + i),none,some x⟩
  | none => match aread C.P ρ h o with
   | some v => some ⟨v,some (.lcons (ofList vs) v),none⟩
   | none => none
def quiet1 (C : DC) (s : D) (i : Nat) (o : Oper) : Option D :=
 match qeff C (snap C.n C.d s.tm (o.looksAt C.ops)) s.h i o with
 | some q => some (q.app C s i o)
 | none => none
def others (C : DC) (i : Nat) : List Nat := let a := ancN C.ops C.ops.size i; (List.range C.ops.size).filter fun k => !(a.any (Nat.beq k))
theorem mem_others {C : DC} {i k : Nat} : k ∈ others C i ↔ k < C.ops.size ∧ k ∉ ancN C.ops C.ops.size i := by
 unfold others
 simp only [List.mem_filter,List.mem_range,Bool.not_eq_true',List.any_eq_false]
 constructor
 ·rintro ⟨h1,h2⟩
  exact ⟨h1,fun hm => h2 k hm (Nat.beq_refl k)⟩
 ·rintro ⟨h1,h2⟩
  refine ⟨h1,fun x hx hb => h2 ?_⟩
  have : k = x := Nat.eq_of_beq_eq_true hb
  rw [this]; exact hx
def eff1 (C : DC) (s : D) (i : Nat) (o : Oper) : Option D :=
 let ρ := opndS C.G (o.looksAt C.ops) (snap C.n C.d s.tm (o.looksAt C.ops))
 let m := merge C.pd C.nx0 (ancN C.ops C.ops.size i) s.h s.pt
 let r := match aeff C.P ρ m.1 s.nx o with
  | some r => some r
  | none => match acallee ρ o with
   | some (f,args) => C.K f args m.1 s.nx
   | none => none
 match r with
 | some (v,h',nx') => bif chkW C h' s.wt (others C i) then some { tm := putA C.n C.d s.tm o.dst v,h := h',nx := nx',pt := m.2,wt := s.wt } else none
 | none => none
def dstep (C : DC) (s : D) (i : Nat) (o : Oper) : Option D :=
 match wantA C.n C.d C.ops s.tm o with
 | none => none
 | some false => some (put1 C s o .undef)
 | some true => bif quietK o then quiet1 C s i o else eff1 C s i o
section
variable {C : DC}
theorem merge_put {pd nx0 i : Nat} {x : AV} (hi : i < 2 ^ pd) : ∀ {l : List Nat} {h pt : AV},i ∉ l → merge pd nx0 l h (cput pd pt i x) = ((merge pd nx0 l h pt).1,cput pd (merge pd nx0 l h pt).2 i x)
 | [],h,pt,_ => rfl
 | j :: l,h,pt,hn => by
  have hji : j ≠ i := fun e => hn (by rw [e]; exact List.mem_cons_self ..)
  have hnl : i ∉ l := fun hm => hn (List.mem_cons_of_mem _ hm)
  simp only [merge]
  cases hb : Nat.blt j (2 ^ pd) with
  | false => simp only [Bool.and_false,cond_false]; exact merge_put hi hnl
  | true =>
   have hj := blt_iff.1 hb
   rw [cget_cput pd pt i j x hi hj,if_neg hji]
   cases hl : live (cget pd pt j) with
   | false => simp only [Bool.false_and,cond_false]; exact merge_put hi hnl
   | true =>
    simp only [Bool.and_self,cond_true]
    rw [cput_comm pd pt i j x .undef hi hj (fun e => hji e.symm)]
    exact merge_put hi hnl
theorem chkW_put {h wt e : AV} {i : Nat} (hi : i < 2 ^ C.pd) (h0 : cget C.pd wt i = .undef) : ∀ {l : List Nat},(∀ k ∈ l,k < 2 ^ C.pd) → chkW C h (cput C.pd wt i e) l = true → chkW C h wt l = true
 | [],_,_ => rfl
 | k :: l,hl,hc => by
  simp only [chkW,Bool.and_eq_true] at hc ⊢
  refine ⟨?_,chkW_put hi h0 (fun k hk => hl k (List.mem_cons_of_mem _ hk)) hc.2⟩
  have hk := hl k (List.mem_cons_self ..)
  by_cases hki : k = i
  ·rw [hki,h0]
  ·have := hc.1
   rw [cget_cput C.pd wt i k e hi hk,if_neg hki] at this
   exact this
theorem chkW_get {h wt : AV} {i : Nat} {vs v : AV} : ∀ {l : List Nat},i ∈ l → cget C.pd wt i = .lcons vs v → chkW C h wt l = true → ∃ o,C.ops[i]? = some o ∧ aread C.P (opndS C.G (o.looksAt C.ops) (toList vs)) h o = some v
 | [],hm,_,_ => by cases hm
 | k :: l,hm,he,hc => by
  simp only [chkW,Bool.and_eq_true] at hc
  rcases List.mem_cons.1 hm with rfl | hm
  ·have := hc.1
   rw [he] at this
   simp only at this
   split at this
   ·rename_i o ho
    refine ⟨o,ho,?_⟩
    split at this
    ·rename_i v' hv'
     rw [hv',beqA_ok _ _ this]
    ·cases this
   ·cases this
  ·exact chkW_get hm he hc.2
def Clean (C : DC) (s : D) (i : Nat) : Prop := cget C.pd s.wt i = .undef ∧ cget C.pd s.pt i = .undef
theorem dstep_clean {s s' : D} {i j : Nat} {o : Oper} (hi : i < 2 ^ C.pd) (hj : j < 2 ^ C.pd) (hne : j ≠ i) (hc : Clean C s i) (hs : dstep C s j o = some s') : Clean C s' i := by
 have hmerge : ∀ (l : List Nat) (h pt : AV),cget C.pd pt i = .undef → cget C.pd (merge C.pd C.nx0 l h pt).2 i = .undef := by
  intro l
  induction l with
  | nil => intro h pt hp; exact hp
  | cons k l ih =>
   intro h pt hp
   simp only [merge]
   cases hb : (live (cget C.pd pt k) && Nat.blt k (2 ^ C.pd)) with
   | false => exact ih _ _ hp
   | true =>
    simp only [Bool.and_eq_true] at hb
    refine ih _ _ ?_
    rw [cget_cput C.pd pt k i .undef (blt_iff.1 hb.2) hi]
    split
    ·rfl
    ·exact hp
 unfold dstep at hs
 split at hs
 ·cases hs
 ·simp only [Option.some.injEq] at hs; subst hs; exact hc
 ·cases hq : quietK o with
  | true =>
   simp only [hq,cond_true,quiet1] at hs
   split at hs
   ·rename_i q hqe
    simp only [Option.some.injEq] at hs; subst hs
    refine ⟨?_,?_⟩
    ·show cget C.pd (optput C.pd j s.wt q.w) i = .undef
     cases q.w with
     | none => exact hc.1
     | some e => simp only [optput]; rw [cget_cput C.pd s.wt j i _ hj hi,if_neg (fun e => hne e.symm)]; exact hc.1
    ·show cget C.pd (optput C.pd j s.pt q.p) i = .undef
     cases q.p with
     | none => exact hc.2
     | some e => simp only [optput]; rw [cget_cput C.pd s.pt j i _ hj hi,if_neg (fun e => hne e.symm)]; exact hc.2
   ·cases hs
  | false =>
   simp only [hq,cond_false,eff1] at hs
   split at hs
   ·rename_i v h' nx' hr
    cases hk : chkW C h' s.wt (others C j) with
    | false => simp [hk] at hs
    | true =>
     simp only [hk,cond_true,Option.some.injEq] at hs
     subst hs
     exact ⟨hc.1,hmerge _ _ _ hc.2⟩
   ·cases hs
theorem optput_comm {d i j : Nat} {t : AV} {x y : Option AV} (hi : i < 2 ^ d) (hj : j < 2 ^ d) (hne : i ≠ j) : optput d j (optput d i t x) y = optput d i (optput d j t y) x := by
 cases x <;> cases y <;> simp only [optput]
 exact cput_comm d t i j _ _ hi hj hne
theorem app_comm {q r : QE} {s : D} {i j : Nat} {oi oj : Oper} (hn : C.n ≤ 2 ^ C.d) (hi : i < 2 ^ C.pd) (hj : j < 2 ^ C.pd) (hne : i ≠ j) (hd : ∀ d,oi.dst = some d → oj.dst ≠ some d) : r.app C (q.app C s i oi) j oj = q.app C (r.app C s j oj) i oi := by
 simp only [QE.app]
 rw [putA_comm hn hd,optput_comm hi hj hne,optput_comm hi hj hne]
theorem qeff_h {vs : List AV} {h h' : AV} {i : Nat} {o : Oper} {q : QE} (hq : qeff C vs h i o = some q) (hr : ∀ v,q.w = some (.lcons (ofList vs) v) → aread C.P (opndS C.G (o.looksAt C.ops) vs) h' o = some v) : qeff C vs h' i o = some q := by
 unfold qeff at hq ⊢
 dsimp only at hq ⊢
 split
 ·rename_i v hv
  rw [hv] at hq; exact hq
 ·rename_i hv
  rw [hv] at hq
  simp only at hq
  split
  ·rename_i nv x hx
   rw [hx] at hq; exact hq
  ·rename_i hx
   rw [hx] at hq
   simp only at hq
   split at hq
   ·rename_i v hv'
    simp only [Option.some.injEq] at hq
    subst hq
    rw [hr v rfl]
   ·cases hq
theorem dstep_quiet {s s' : D} {i : Nat} {o : Oper} (hq : quietK o = true) (hs : dstep C s i o = some s') :
  ∃ q : QE,s' = q.app C s i o ∧ (∀ v,q.w = some (.lcons (ofList (snap C.n C.d s.tm (o.looksAt C.ops))) v) → aread C.P (opndS C.G (o.looksAt C.ops) (snap C.n C.d s.tm (o.looksAt C.ops))) s.h o = some v) ∧
   ∀ t : D,wantA C.n C.d C.ops t.tm o = wantA C.n C.d C.ops s.tm o → snap C.n C.d t.tm (o.looksAt C.ops) = snap C.n C.d s.tm (o.looksAt C.ops) →
   (∀ v,q.w = some (.lcons (ofList (snap C.n C.d s.tm (o.looksAt C.ops))) v) → aread C.P (opndS C.G (o.looksAt C.ops) (snap C.n C.d s.tm (o.looksAt C.ops))) t.h o = some v) → dstep C t i o = some (q.app C t i o) := by
 unfold dstep at hs
 split at hs
 ·cases hs
 ·rename_i hw
  simp only [Option.some.injEq] at hs
  refine ⟨⟨.undef,none,none⟩,hs.symm,fun v hv => (by cases hv),fun t h1 _ _ => ?_⟩
  unfold dstep
  rw [h1,hw]
  rfl
 ·rename_i hw
  simp only [hq,cond_true,quiet1] at hs
  split at hs
  ·rename_i q hqe
   simp only [Option.some.injEq] at hs
   refine ⟨q,hs.symm,fun v hv => ?_,fun t h1 h2 h3 => ?_⟩
   ·unfold qeff at hqe
    dsimp only at hqe
    split at hqe
    ·simp only [Option.some.injEq] at hqe; rw [← hqe] at hv; cases hv
    ·split at hqe
     ·simp only [Option.some.injEq] at hqe; rw [← hqe] at hv; cases hv
     ·split at hqe
      ·rename_i u hu
       simp only [Option.some.injEq] at hqe
       rw [← hqe] at hv
       simp only [Option.some.injEq,AV.lcons.injEq,true_and] at hv
       rw [← hv]; exact hu
      ·cases hqe
   ·unfold dstep
    rw [h1,hw]
    simp only [hq,cond_true,quiet1]
    rw [h2,qeff_h hqe h3]
  ·cases hs
theorem diamond {s s1 s2 : D} {i j : Nat} {oi oj : Oper} (hn : C.n ≤ 2 ^ C.d) (hii : C.ops[i]? = some oi) (hjj : C.ops[j]? = some oj) (hpd : C.ops.size ≤ 2 ^ C.pd) (hne : i ≠ j) (hc : Clean C s i) (hq : quietK oi = true) (hap : oi.apart C.ops oj = true) (hanc : i ∉ ancN C.ops C.ops.size j)
  (h1 : dstep C s i oi = some s1) (h2 : dstep C s1 j oj = some s2) : ∃ s',dstep C s j oj = some s' ∧ dstep C s' i oi = some s2 := by
 obtain ⟨a1,a2,a3⟩ := Oper.apart_spec hap
 have hin : i < C.ops.size := (Array.getElem?_eq_some_iff.1 hii).1
 have hjn : j < C.ops.size := (Array.getElem?_eq_some_iff.1 hjj).1
 have hi : i < 2 ^ C.pd := by omega
 have hj : j < 2 ^ C.pd := by omega
 have hrange : ∀ k ∈ others C j,k < 2 ^ C.pd := fun k hk => by have := (mem_others.1 hk).1; omega
 obtain ⟨q,rfl,hread0,hQ⟩ := dstep_quiet hq h1
 have hwant : wantA C.n C.d C.ops (q.app C s i oi).tm oj = wantA C.n C.d C.ops s.tm oj := wantA_put hn a1
 have hsnap : snap C.n C.d (q.app C s i oi).tm (oj.looksAt C.ops) = snap C.n C.d s.tm (oj.looksAt C.ops) := snap_put hn a1
 have hback : ∀ (t : D) (y : AV),t.tm = putA C.n C.d s.tm oj.dst y → (∀ v,q.w = some (.lcons (ofList (snap C.n C.d s.tm (oi.looksAt C.ops))) v) → aread C.P (opndS C.G (oi.looksAt C.ops) (snap C.n C.d s.tm (oi.looksAt C.ops))) t.h oi = some v) → dstep C t i oi = some (q.app C t i oi) := by
  intro t y ht hr
  refine hQ t ?_ ?_ hr
  ·rw [ht]; exact wantA_put hn a3
  ·rw [ht]; exact snap_put hn a3
 cases hqj : quietK oj with
 | true =>
  obtain ⟨r,rfl,hrj,hR⟩ := dstep_quiet hqj h2
  rw [hsnap] at hR hrj
  have hs' : dstep C s j oj = some (r.app C s j oj) := hR s hwant.symm rfl hrj
  refine ⟨_,hs',?_⟩
  rw [hback (r.app C s j oj) r.v rfl hread0,app_comm hn hi hj hne a2]
 | false =>
  unfold dstep at h2 ⊢
  rw [hwant] at h2
  split at h2
  ·cases h2
  ·rename_i hw
   simp only [Option.some.injEq] at h2
   refine ⟨put1 C s oj .undef,rfl,?_⟩
   have := hback (put1 C s oj .undef) .undef rfl hread0
   unfold dstep at this
   rw [this,← h2]
   simp only [QE.app,put1]
   rw [putA_comm hn (fun d hd he => a2 d he hd)]
  ·rename_i hw
   simp only [hqj,cond_false,eff1] at h2
   rw [hsnap] at h2
   have hm : merge C.pd C.nx0 (ancN C.ops C.ops.size j) (q.app C s i oi).h (q.app C s i oi).pt = ((merge C.pd C.nx0 (ancN C.ops C.ops.size j) s.h s.pt).1,optput C.pd i (merge C.pd C.nx0 (ancN C.ops C.ops.size j) s.h s.pt).2 q.p) := by
    simp only [QE.app]
    cases q.p with
    | none => rfl
    | some x => simp only [optput]; exact merge_put hi hanc
   rw [hm] at h2
   split at h2
   ·rename_i v h' nx' hr
    cases hk : chkW C h' (q.app C s i oi).wt (others C j) with
    | false => simp [hk] at h2
    | true =>
     simp only [hk,cond_true,Option.some.injEq] at h2
     have hk' : chkW C h' s.wt (others C j) = true := by
      cases hqw : q.w with
      | none => simp only [QE.app,hqw,optput] at hk; exact hk
      | some e => simp only [QE.app,hqw,optput] at hk; exact chkW_put hi hc.1 hrange hk
     refine ⟨{ tm := putA C.n C.d s.tm oj.dst v,h := h',nx := nx',pt := (merge C.pd C.nx0 (ancN C.ops C.ops.size j) s.h s.pt).2,wt := s.wt },?_,?_⟩
     ·simp only [hqj,cond_false,eff1]
      have hr' := hr
      simp only [QE.app] at hr'
      rw [hr']
      simp only [hk',cond_true]
     ·have := hback { tm := putA C.n C.d s.tm oj.dst v,h := h',nx := nx',pt := (merge C.pd C.nx0 (ancN C.ops C.ops.size j) s.h s.pt).2,wt := s.wt } v rfl (fun u hu => by
       have hg : cget C.pd (q.app C s i oi).wt i = .lcons (ofList (snap C.n C.d s.tm (oi.looksAt C.ops))) u := by
        simp only [QE.app,hu,optput]
        rw [cget_cput C.pd _ i i _ hi hi,if_pos rfl]
       obtain ⟨o',ho',hrd⟩ := chkW_get (mem_others.2 ⟨hin,hanc⟩) hg hk
       rw [hii] at ho'
       simp only [Option.some.injEq] at ho'
       subst ho'
       rw [toList_ofList] at hrd
       exact hrd)
      unfold dstep at this
      rw [this,← h2]
      simp only [QE.app]
      rw [putA_comm hn (fun d hd he => a2 d he hd)]
   ·cases h2
end
end I
end Go.Proofs.YtohjpggjgomgoaaGreatDoor
namespace Go.Proofs.YtohjpggjgomgoaaGreatDoor
namespace I
open K (one aggB run_underlying' run_sizeOf' add_none run_v cell_cells)
set_option linter.unusedVariables false
section
variable {σ σ' : Sg} {h h' : AV} {nx nx' : Nat} {w0 w w' : World} {B : Fr}
theorem HS.more (H : HS σ h nx w0 B w) (hk : ∀ k,k < w.heap.size → w'.heap[k]? = w.heap[k]?) (hs : w.heap.size ≤ w'.heap.size) (h1 : w'.os = w.os) (h2 : w'.tape = w.tape) (h3 : w'.output = w.output) : HS σ h nx w0 B w' :=
 ⟨h1.trans H.os,h2.trans H.tape,h3.trans H.output,Nat.le_trans H.size hs,fun k hlt hB => (hk k (Nat.lt_of_lt_of_le hlt H.size)).trans (H.block k hlt hB),
  fun b hb => (H.blk b hb).mono (fun _ _ h => h) (fun p hp hl => hk _ (H.real_lt hp hl)),H.dom,H.nxle,H.dist,H.acc⟩
theorem HS.bind (H : HS σ h nx w0 B w) {b0 : Nat} {p : Pl} (h0 : σ b0 = none) (hlt : b0 < nx) : Sub σ (ext σ b0 p) ∧ HS (ext σ b0 p) h nx w0 B w := by
 have hsub : Sub σ (ext σ b0 p) := fun b q hb => by
  unfold ext
  rw [if_neg (fun e => by rw [e,h0] at hb; cases hb)]; exact hb
 have hnl : live (cget HD h b0) = false := by
  cases hl : live (cget HD h b0) with
  | false => rfl
  | true =>
   obtain ⟨q,hq⟩ := (H.blk b0 (Nat.lt_of_lt_of_le hlt H.nxle)).name hl
   rw [h0] at hq; cases hq
 have hback : ∀ b q,live (cget HD h b) = true → ext σ b0 p b = some q → σ b = some q := fun b q hl hb => by
  unfold ext at hb
  rw [if_neg (fun e => by rw [e,hnl] at hl; cases hl)] at hb; exact hb
 refine ⟨hsub,H.os,H.tape,H.output,H.size,H.block,fun b hb => (H.blk b hb).mono hsub (fun _ _ _ => rfl),fun b q hb => ?_,H.nxle,fun b b' q q' hne hb hb' hl hl' => ?_,fun b q hb hl => ?_⟩
 ·unfold ext at hb
  by_cases hbb : b = b0
  ·rw [hbb]; exact hlt
  ·rw [if_neg hbb] at hb; exact H.dom b q hb
 ·exact H.dist b b' q q' hne (hback b q (live_of hl) hb) (hback b' q' hl' hb') hl hl'
 ·exact H.acc b q (hback b q hl hb) hl
theorem HS.lay (H : HS σ h nx w0 B w) {b0 : Nat} {p : Pl} {x : AV} (hb0 : σ b0 = some p) (hx : BlkRel σ w0 B w b0 x) (hm : w0.heap.size ≤ p.1) (hd : ∀ b q,b ≠ b0 → σ b = some q → live (cget HD h b) = true → q.1 ≠ p.1) :
  HS σ (cput HD h b0 x) nx w0 B w := by
 have hlt := H.lt hb0
 have hget : ∀ c,c < 2 ^ HD → cget HD (cput HD h b0 x) c = if c = b0 then x else cget HD h c := fun c hc => cget_cput HD h b0 c x hlt hc
 refine ⟨H.os,H.tape,H.output,H.size,H.block,fun c hc => ?_,H.dom,H.nxle,fun c c' q q' hne hc hc' hlc hlc' => ?_,fun c q hc hlc => ?_⟩
 ·rw [hget c hc]
  by_cases hcb : c = b0
  ·rw [if_pos hcb,hcb]; exact hx
  ·rw [if_neg hcb]; exact H.blk c hc
 ·rw [hget c (H.lt hc)] at hlc
  rw [hget c' (H.lt hc')] at hlc'
  by_cases hcb : c = b0
  ·have hcb' : c' ≠ b0 := fun e => hne (hcb.trans e.symm)
   rw [if_neg hcb'] at hlc'
   rw [hcb,hb0] at hc
   simp only [Option.some.injEq] at hc
   rw [← hc]; exact fun e => hd c' q' hcb' hc' hlc' e.symm
  ·rw [if_neg hcb] at hlc
   by_cases hcb' : c' = b0
   ·rw [hcb',hb0] at hc'
    simp only [Option.some.injEq] at hc'
    rw [← hc']; exact hd c q hcb hc (live_of hlc)
   ·rw [if_neg hcb'] at hlc'
    exact H.dist c c' q q' hne hc hc' hlc hlc'
 ·rw [hget c (H.lt hc)] at hlc
  by_cases hcb : c = b0
  ·rw [hcb,hb0] at hc
   simp only [Option.some.injEq] at hc
   rw [← hc]; exact .inr hm
  ·rw [if_neg hcb] at hlc
   exact H.acc c q hc hlc
def img (σ : Sg) (h : AV) : Fr := ⟨fun r => ∃ b p,σ b = some p ∧ liveW (cget HD h b) = true ∧ p.1 = r,fun r => ∃ b p,σ b = some p ∧ live (cget HD h b) = true ∧ p.1 = r⟩
theorem HS.mine (H : HS σ h nx w0 B w) {b : Nat} {p : Pl} (hb : σ b = some p) (hl : liveW (cget HD h b) = true) : B.wr p.1 ∨ w0.heap.size ≤ p.1 := (H.blk b (H.lt hb)).wr hl hb
theorem HS.rebase (H : HS σ h nx w0 B w) : HS σ h nx w (img σ h) w :=
 ⟨rfl,rfl,rfl,Nat.le_refl _,fun _ _ _ => rfl,fun b hb => (H.blk b hb).rebase (fun p hp hl => .inl ⟨b,p,hp,hl,rfl⟩),H.dom,H.nxle,H.dist,fun b p hb hl => .inl ⟨b,p,hb,hl,rfl⟩⟩
theorem HS.compose (H : HS σ h nx w0 B w) (H' : HS σ' h' nx' w (img σ h) w') : HS σ' h' nx' w0 B w' := by
 have hwr : ∀ r,((img σ h).wr r ∨ w.heap.size ≤ r) → (B.wr r ∨ w0.heap.size ≤ r) := by
  rintro r (⟨b,p,hb,hl,rfl⟩ | hr)
  ·exact H.mine hb hl
  ·exact .inr (Nat.le_trans H.size hr)
 refine ⟨H'.os.trans H.os,H'.tape.trans H.tape,H'.output.trans H.output,Nat.le_trans H.size H'.size,fun k hk hB => ?_,fun b hb => ?_,H'.dom,H'.nxle,H'.dist,fun b p hb hl => ?_⟩
 ·rw [H'.block k (Nat.lt_of_lt_of_le hk H.size) (fun hw => by
   rcases hwr k (.inl hw) with h1 | h1
   ·exact hB h1
   ·omega)]
  exact H.block k hk hB
 ·exact (H'.blk b hb).rebase (fun p hp hl => hwr _ ((H'.blk b hb).wr hl hp))
 ·rcases H'.acc b p hb hl with ⟨c,q,hc,hlc,hq⟩ | hr
  ·rw [← hq]; exact H.acc c q hc hlc
  ·exact .inr (Nat.le_trans H.size hr)
theorem HS.skip (H : HS σ h nx w0 B w) (hle : nx ≤ nx') (hm : nx' ≤ 2 ^ HD) : HS σ h nx' w0 B w :=
 ⟨H.os,H.tape,H.output,H.size,H.block,H.blk,fun b p hb => Nat.lt_of_lt_of_le (H.dom b p hb) hle,hm,H.dist,H.acc⟩
end
structure MSim (C : DC) (w0 : World) (B : Fr) (σ : Sg) (h : AV) (nx : Nat) (pt : AV) (w : World) : Prop where
 hs : HS σ h nx w0 B w
 nx : C.nx0 + C.ops.size ≤ nx
 pend : ∀ k,k < C.ops.size → live (cget C.pd pt k) = true → ∃ p,σ (C.nx0 + k) = some p ∧ BlkRel σ w0 B w (C.nx0 + k) (cget C.pd pt k) ∧ w0.heap.size ≤ p.1 ∧ p.1 < w.heap.size ∧ live (cget HD h (C.nx0 + k)) = false ∧ (∀ b q,b ≠ C.nx0 + k → σ b = some q → live (cget HD h b) = true → q.1 ≠ p.1)
 pdist : ∀ k k' p p',k < C.ops.size → k' < C.ops.size → k ≠ k' → live (cget C.pd pt k) = true → live (cget C.pd pt k') = true → σ (C.nx0 + k) = some p → σ (C.nx0 + k') = some p' → p.1 ≠ p'.1
section
variable {C : DC} {w0 w w' : World} {B : Fr} {σ σ' : Sg}
theorem MSim.merge (hpd : C.ops.size ≤ 2 ^ C.pd) : ∀ {l : List Nat} {h : AV} {nx : Nat} {pt : AV},(∀ j ∈ l,j < C.ops.size) → MSim C w0 B σ h nx pt w → MSim C w0 B σ (merge C.pd C.nx0 l h pt).1 nx (I.merge C.pd C.nx0 l h pt).2 w
 | [],h,nx,pt,_,M => M
 | j :: l,h,nx,pt,hl,M => by
  have hj := hl j (List.mem_cons_self ..)
  simp only [I.merge]
  cases hb : (live (cget C.pd pt j) && Nat.blt j (2 ^ C.pd)) with
  | false => exact MSim.merge hpd (fun k hk => hl k (List.mem_cons_of_mem _ hk)) M
  | true =>
   simp only [Bool.and_eq_true] at hb
   simp only [cond_true]
   refine MSim.merge hpd (fun k hk => hl k (List.mem_cons_of_mem _ hk)) ?_
   obtain ⟨p,p1,p2,p3,p4,p6,p5⟩ := M.pend j hj hb.1
   have hget : ∀ k,k < C.ops.size → cget C.pd (cput C.pd pt j .undef) k = if k = j then .undef else cget C.pd pt k := fun k hk => cget_cput C.pd pt j k .undef (by omega) (by omega)
   have hlive : ∀ k,k < C.ops.size → live (cget C.pd (cput C.pd pt j .undef) k) = true → k ≠ j ∧ live (cget C.pd pt k) = true := fun k hk hlk => by
    rw [hget k hk] at hlk
    by_cases hkj : k = j
    ·rw [if_pos hkj] at hlk; simp [live] at hlk
    ·rw [if_neg hkj] at hlk; exact ⟨hkj,hlk⟩
   refine ⟨M.hs.lay p1 p2 p3 p5,M.nx,fun k hk hlk => ?_,fun k k' q q' hk hk' hne hlk hlk' hq hq' => ?_⟩
   ·obtain ⟨hkj,hlk'⟩ := hlive k hk hlk
    obtain ⟨q,q1,q2,q3,q4,q6,q5⟩ := M.pend k hk hlk'
    rw [hget k hk,if_neg hkj]
    refine ⟨q,q1,q2,q3,q4,by rw [cget_cput HD h (C.nx0 + j) (C.nx0 + k) _ (M.hs.lt p1) (M.hs.lt q1),if_neg (by omega)]; exact q6,fun b u hbk hbu hlb => ?_⟩
    rw [cget_cput HD h (C.nx0 + j) b _ (M.hs.lt p1) (M.hs.lt hbu)] at hlb
    by_cases hbj : b = C.nx0 + j
    ·rw [hbj,p1] at hbu
     simp only [Option.some.injEq] at hbu
     rw [← hbu]
     exact M.pdist j k p q hj hk (fun e => hkj e.symm) hb.1 hlk' p1 q1
    ·rw [if_neg hbj] at hlb
     exact q5 b u hbk hbu hlb
   ·exact M.pdist k k' q q' hk hk' hne (hlive k hk hlk).2 (hlive k' hk' hlk').2 hq hq'
theorem MSim.behind {h h' pt : AV} {nx nx' : Nat} (M : MSim C w0 B σ h nx pt w) (hx : SubX nx σ σ') (hdk : Dk nx h h') (hle : nx ≤ nx') (H' : HS σ' h' nx' w (img σ h) w') : MSim C w0 B σ' h' nx' pt w' := by
 refine ⟨M.hs.compose H',Nat.le_trans M.nx hle,fun k hk hlk => ?_,fun k k' p p' hk hk' hne hlk hlk' hp hp' => ?_⟩
 ·obtain ⟨p,p1,p2,p3,p4,p6,p5⟩ := M.pend k hk hlk
  have hsame : w'.heap[p.1]? = w.heap[p.1]? := H'.block p.1 p4 (fun ⟨b,q,hb,hl,he⟩ => by
   by_cases hbk : b = C.nx0 + k
   ·rw [hbk] at hl; rw [live_of hl] at p6; cases p6
   ·exact p5 b q hbk hb (live_of hl) he)
  refine ⟨p,hx.1 _ _ p1,p2.mono hx.1 (fun q hq _ => by rw [p1] at hq; simp only [Option.some.injEq] at hq; rw [← hq]; exact hsame),p3,Nat.lt_of_lt_of_le p4 H'.size,?_,fun b q hbk hb hl => ?_⟩
  ·cases hl : live (cget HD h' (C.nx0 + k)) with
   | false => rfl
   | true => have := hdk (C.nx0 + k) (by have := M.nx; omega) hl; rw [this] at p6; cases p6
  ·rcases H'.acc b q hb hl with ⟨c,u,hc,hlc,he⟩ | hr
   ·by_cases hck : c = C.nx0 + k
    ·rw [hck,p6] at hlc; cases hlc
    ·rw [← he]; exact p5 c u hck hc hlc
   ·omega
 ·rw [hx.2 (C.nx0 + k) (by have := M.nx; omega)] at hp
  rw [hx.2 (C.nx0 + k') (by have := M.nx; omega)] at hp'
  exact M.pdist k k' p p' hk hk' hne hlk hlk' hp hp'
end
end I
end Go.Proofs.YtohjpggjgomgoaaGreatDoor
namespace Go.Proofs.YtohjpggjgomgoaaGreatDoor
namespace I
open K (one aggB run_underlying' run_sizeOf' add_none run_v cell_cells)
set_option linter.unusedVariables false
def CallOk (P : Program) (G : Nat) (f : Nat) (args : List AV) (h : AV) (nx : Nat) (v h' : AV) (nx' : Nat) : Prop :=
 ∀ (σ : Sg) (w0 : World) (B : Fr) (w : World) (vs : List Value),HS σ h nx w0 B w → GRel σ G → RelL σ args vs →
  CalleeOk P σ f vs w fun e w' => ∃ σ' v',SubX nx σ σ' ∧ Dk nx h h' ∧ nx ≤ nx' ∧ e = .returned v' ∧ Rel σ' v v' ∧ HS σ' h' nx' w0 B w'
structure DSim (ds : List Deferred) (C : DC) (w0 : World) (B : Fr) (h0 : AV) (σ : Sg) (s : D) (l : Array Bool) (a : Act) (w : World) : Prop where
 sl : SlotRel ds σ C.n C.d s.tm a
 g : GRel σ C.G
 m : MSim C w0 B σ s.h s.nx s.pt w
 free : ∀ k,k < C.ops.size → l.getD k true = false → σ (C.nx0 + k) = none
 dk : Dk C.nx0 h0 s.h
def KOk (C : DC) : Prop := ∀ f args h nx v h' nx',C.K f args h nx = some (v,h',nx') → CallOk C.P C.G f args h nx v h' nx'
theorem getD_set (l : Array Bool) (i k : Nat) : (l.setIfInBounds i true).getD k true = false → k ≠ i ∧ l.getD k true = false := by
 intro h
 by_cases hki : i = k
 ·subst hki
  by_cases hlt : i < l.size
  ·simp [hlt] at h
  ·simp [hlt] at h
 ·refine ⟨fun e => hki e.symm,?_⟩
  rwa [getD_set_ne true hki] at h
section
variable {ds : List Deferred} {ro : Option Nat} {C : DC} {w0 w : World} {B : Fr} {hb : AV} {σ : Sg} {a : Act} {s s' : D} {l : Array Bool} {Q : Exit → Act → World → Prop}
theorem ancN_lt : ∀ (k j : Nat),(∀ (j : Nat) o,C.ops[j]? = some o → ∀ e ∈ o.after,e.on < C.ops.size) → ∀ x ∈ ancN C.ops k j,x < C.ops.size
 | 0,j,_,x,hx => by simp [ancN] at hx
 | k + 1,j,h,x,hx => by
  unfold ancN at hx
  split at hx
  ·simp at hx
  ·rename_i o ho
   obtain ⟨e,he,hx⟩ := List.mem_flatMap.1 hx
   cases hb : Region.binds .any e with
   | false => simp [hb] at hx
   | true =>
    simp only [hb,cond_true] at hx
    rcases List.mem_cons.1 hx with rfl | hx
    ·exact h j o ho e (by simpa using he)
    ·exact ancN_lt k e.on h x hx
theorem merge_dk {pd nx0 m : Nat} (hm : nx0 + m ≤ 2 ^ HD) : ∀ {l : List Nat} {h pt : AV},(∀ j ∈ l,j < m) → Dk nx0 h (I.merge pd nx0 l h pt).1
 | [],h,pt,_ => Dk.refl _ _
 | j :: l,h,pt,hl => by
  have hj := hl j (List.mem_cons_self ..)
  simp only [I.merge]
  cases hb : (live (cget pd pt j) && Nat.blt j (2 ^ pd)) with
  | false => exact merge_dk hm (fun k hk => hl k (List.mem_cons_of_mem _ hk))
  | true =>
   simp only [cond_true]
   refine Dk.trans ?_ (merge_dk hm (fun k hk => hl k (List.mem_cons_of_mem _ hk))) (Nat.le_refl _)
   intro c hc hlc
   rw [cget_cput HD h (nx0 + j) c _ (by omega) (by omega),if_neg (by omega)] at hlc
   exact hlc
theorem dstep_ok (hK : KOk C) (hpd : C.ops.size ≤ 2 ^ C.pd) (hed : ∀ (j : Nat) o,C.ops[j]? = some o → ∀ e ∈ o.after,e.on < C.ops.size) (S : DSim ds C w0 B hb σ s l a w) {i : Nat} {o : Oper} (ho : C.ops[i]? = some o) (hun : l.getD i true = false) (hs : dstep C s i o = some s')
  {Kt : Act → World → Prop} (hKt : ∀ σ' a' w',SubX C.nx0 σ σ' → DSim ds C w0 B hb σ' s' (l.setIfInBounds i true) a' w' → Kt a' w') : wpOpIn (fen ro) 0 C.P C.ops Q i Kt a w := by
 have hi : i < C.ops.size := (Array.getElem?_eq_some_iff.1 ho).1
 unfold wpOpIn
 simp only [ho]
 have hfree : ∀ k,k < C.ops.size → (l.setIfInBounds i true).getD k true = false → σ (C.nx0 + k) = none := fun k hk hl => S.free k hk (getD_set l i k hl).2
 have hnx := S.m.nx
 have hρ := opndS_ok S.sl S.g (o.looksAt C.ops)
 unfold dstep at hs
 split at hs
 ·cases hs
 ·rename_i hw
  rw [wantA_ok S.sl hw]
  simp only [Bool.false_eq_true,if_false]
  simp only [Option.some.injEq] at hs
  subst hs
  exact ⟨fun _ _ => trivial,hKt σ _ w (SubX.refl _ σ) ⟨put_ok S.sl .undef,S.g,S.m,hfree,S.dk⟩⟩
 ·rename_i hw
  rw [wantA_ok S.sl hw]
  simp only [if_true]
  cases hq : quietK o with
  | true =>
   simp only [hq,cond_true,quiet1] at hs
   split at hs
   ·rename_i q hqe
    simp only [Option.some.injEq] at hs
    subst hs
    unfold qeff at hqe
    dsimp only at hqe
    split at hqe
    ·rename_i v hv
     simp only [Option.some.injEq] at hqe
     subst hqe
     obtain ⟨u,h1,h2⟩ := apure_ok (P := C.P) (w := w) hρ hv
     exact wpIn_value h2 (hKt σ _ w (SubX.refl _ σ) ⟨put_ok S.sl h1,S.g,S.m,hfree,S.dk⟩)
    ·split at hqe
     ·rename_i nv x hv
      simp only [Option.some.injEq] at hqe
      subst hqe
      obtain ⟨p,u,w',ob,h1,h2,h3,h4,h5,h6,h7,h8⟩ := anew_core (P := C.P) (w := w) (w0 := w0) (B := B) S.m.hs.size hρ hv
      have h0 := S.free i hi hun
      have hmore : ∀ k,k < w.heap.size → w'.heap[k]? = w.heap[k]? := fun k hk => by rw [h2,Array.getElem?_push,if_neg (by omega)]
      have hsz : w'.heap.size = w.heap.size + 1 := by rw [h2]; simp
      have H1 := S.m.hs.more hmore (by omega) h3 h4 h5
      obtain ⟨hsub,H2⟩ := H1.bind (p := p) h0 (show C.nx0 + i < s.nx by omega)
      obtain ⟨h9,h10⟩ := h8 (C.nx0 + i) (ext σ (C.nx0 + i) p) hsub (by simp [ext])
      have hother : ∀ k,k ≠ i → ext σ (C.nx0 + i) p (C.nx0 + k) = σ (C.nx0 + k) := fun k hk => by unfold ext; rw [if_neg (by omega)]
      have hgp : ∀ k,k < C.ops.size → cget C.pd (cput C.pd s.pt i x) k = if k = i then x else cget C.pd s.pt k := fun k hk => cget_cput C.pd s.pt i k x (by omega) (by omega)
      refine wpIn_value h1 ?_
      refine hKt (ext σ (C.nx0 + i) p) _ w' ⟨hsub,fun b hb => by unfold ext; rw [if_neg (by omega)]⟩ ⟨put_ok (S.sl.mono hsub) h9,S.g.mono hsub,⟨H2,hnx,fun k hk hlk => ?_,fun k k' q q' hk hk' hne hlk hlk' hq' hq'' => ?_⟩,fun k hk hl => ?_,S.dk⟩
      ·by_cases hki : k = i
       ·subst hki
        show ∃ p',_
        refine ⟨p,by simp [ext],?_,by rw [h6]; exact S.m.hs.size,by rw [h6]; omega,?_,fun b q hbk hb hl => ?_⟩
        ·show BlkRel _ _ _ _ _ (cget C.pd (cput C.pd s.pt k x) k)
         rw [hgp k hk,if_pos rfl]; exact h10
        ·cases hl : live (cget HD s.h (C.nx0 + k)) with
         | false => exact hl
         | true =>
          obtain ⟨q,hq⟩ := (S.m.hs.blk (C.nx0 + k) (Nat.lt_of_lt_of_le (show C.nx0 + k < s.nx by omega) S.m.hs.nxle)).name hl
          rw [h0] at hq; cases hq
        ·unfold ext at hb
         rw [if_neg hbk] at hb
         have := S.m.hs.real_lt hb hl
         rw [h6]; omega
       ·have hlk' : live (cget C.pd s.pt k) = true := by
         have := hlk
         simp only [QE.app,optput] at this
         rw [hgp k hk,if_neg hki] at this; exact this
        obtain ⟨q,q1,q2,q3,q4,q6,q5⟩ := S.m.pend k hk hlk'
        refine ⟨q,by rw [hother k hki]; exact q1,?_,q3,by omega,q6,fun b u hbk hb hl => ?_⟩
        ·show BlkRel _ _ _ _ _ (cget C.pd (cput C.pd s.pt i x) k)
         rw [hgp k hk,if_neg hki]
         exact q2.mono hsub (fun r hr _ => by rw [q1] at hr; simp only [Option.some.injEq] at hr; rw [← hr]; exact hmore _ q4)
        ·by_cases hbi : b = C.nx0 + i
         ·have hnl : live (cget HD s.h b) = true := hl
          rw [hbi] at hnl
          obtain ⟨q,hq⟩ := (S.m.hs.blk (C.nx0 + i) (Nat.lt_of_lt_of_le (show C.nx0 + i < s.nx by omega) S.m.hs.nxle)).name hnl
          rw [h0] at hq; cases hq
         ·unfold ext at hb
          rw [if_neg hbi] at hb
          exact q5 b u hbk hb hl
      ·have key : ∀ k,k < C.ops.size → k ≠ i → live (cget C.pd (cput C.pd s.pt i x) k) = true → live (cget C.pd s.pt k) = true := fun k hk hki hl => by rw [hgp k hk,if_neg hki] at hl; exact hl
       simp only [QE.app,optput] at hlk hlk'
       by_cases hki : k = i
       ·have hki' : k' ≠ i := fun e => hne (hki.trans e.symm)
        rw [hki] at hq'
        simp only [ext,if_true,Option.some.injEq] at hq'
        rw [hother k' hki'] at hq''
        obtain ⟨u',q1,q2,q3,q4,q6,q5⟩ := S.m.pend k' hk' (key k' hk' hki' hlk')
        rw [q1] at hq''
        simp only [Option.some.injEq] at hq''
        rw [← hq',← hq'',h6]; omega
       ·rw [hother k hki] at hq'
        by_cases hki' : k' = i
        ·rw [hki'] at hq''
         simp only [ext,if_true,Option.some.injEq] at hq''
         obtain ⟨u',q1,q2,q3,q4,q6,q5⟩ := S.m.pend k hk (key k hk hki hlk)
         rw [q1] at hq'
         simp only [Option.some.injEq] at hq'
         rw [← hq',← hq'',h6]; omega
        ·rw [hother k' hki'] at hq''
         exact S.m.pdist k k' q q' hk hk' hne (key k hk hki hlk) (key k' hk' hki' hlk') hq' hq''
      ·have hki := (getD_set l i k hl).1
       rw [hother k hki]; exact hfree k hk hl
     ·split at hqe
      ·rename_i v hv
       simp only [Option.some.injEq] at hqe
       subst hqe
       obtain ⟨u,h1,h2⟩ := aread_ok (P := C.P) S.m.hs hρ hv
       exact wpIn_value h2 (hKt σ _ w (SubX.refl _ σ) ⟨put_ok S.sl h1,S.g,S.m,hfree,S.dk⟩)
      ·cases hqe
   ·cases hs
  | false =>
   simp only [hq,cond_false,eff1] at hs
   have M := S.m.merge hpd (l := ancN C.ops C.ops.size i) (ancN_lt _ _ hed)
   have hR := M.hs.rebase
   have hmd : Dk C.nx0 s.h (I.merge C.pd C.nx0 (ancN C.ops C.ops.size i) s.h s.pt).1 := merge_dk (by have := M.hs.nxle; omega) (ancN_lt _ _ hed)
   split at hs
   ·rename_i v h' nx' hr
    cases hk : chkW C h' s.wt (others C i) with
    | false => simp [hk] at hs
    | true =>
     simp only [hk,cond_true,Option.some.injEq] at hs
     subst hs
     have hnx0 : ∀ {σ' : Sg},SubX s.nx σ σ' → SubX C.nx0 σ σ' := fun h => ⟨h.1,fun b hb => h.2 b (by omega)⟩
     split at hr
     ·rename_i r hr'
      simp only [Option.some.injEq] at hr
      rw [hr] at hr'
      obtain ⟨σ',u,w',g1,g2,g3,g4,g5,g6⟩ := aeff_ok (P := C.P) hR (fun _ => rfl) hρ hr'
      have hD : DSim ds C w0 B hb σ' { tm := putA C.n C.d s.tm o.dst v,h := h',nx := nx',pt := (I.merge C.pd C.nx0 (ancN C.ops C.ops.size i) s.h s.pt).2,wt := s.wt } (l.setIfInBounds i true) (a.put o.dst u) w' :=
       ⟨put_ok (S.sl.mono g1.1) g5,S.g.mono g1.1,M.behind g1 g2 g3 g6,fun k hk hl => by rw [g1.2 (C.nx0 + k) (by omega)]; exact hfree k hk hl,(S.dk.trans hmd (Nat.le_refl _)).trans g2 (by omega)⟩
      rcases g4 with g4 | ⟨g4,rfl⟩
      ·exact wpIn_value g4 (hKt σ' _ w' (hnx0 g1) hD)
      ·exact wpIn_skipOp g4 (hKt σ' _ w' (hnx0 g1) hD)
     ·split at hr
      ·rename_i f args hcal
       refine wpIn_callOp hρ hcal (fun vs g1 => hK f args _ _ v h' nx' hr σ w (img σ _) w vs hR S.g g1) ?_
       rintro e w' ⟨σ',v',k1,k2,k3,rfl,k5,k6⟩
       exact ⟨v',rfl,hKt σ' _ w' (hnx0 k1) ⟨put_ok (S.sl.mono k1.1) k5,S.g.mono k1.1,M.behind k1 k2 k3 k6,fun k hk hl => by rw [k1.2 (C.nx0 + k) (by omega)]; exact hfree k hk hl,(S.dk.trans hmd (Nat.le_refl _)).trans k2 (by omega)⟩⟩
      ·cases hr
   ·cases hs
end
end I
end Go.Proofs.YtohjpggjgomgoaaGreatDoor
namespace Go.Proofs.YtohjpggjgomgoaaGreatDoor
namespace I
open K (one aggB run_underlying' run_sizeOf' add_none run_v cell_cells)
set_option linter.unusedVariables false
def Good (C : DC) (F : D) : Nat → Array Bool → D → Prop
 | 0,l,s => Region.ready .any C.ops l = [] ∧ s = F
 | f + 1,l,s => (Region.ready .any C.ops l = [] → s = F) ∧ ∀ i ∈ Region.ready .any C.ops l,∃ o s',C.ops[i]? = some o ∧ dstep C s i o = some s' ∧ Good C F f (l.setIfInBounds i true) s'
def Closed (ops : Array Oper) (l : Array Bool) : Prop := ∀ k,l.getD k false = true → ∀ o,ops[k]? = some o → ∀ e ∈ o.after,Region.binds .any e = true → l.getD e.on false = true
def CleanAll (C : DC) (l : Array Bool) (s : D) : Prop := ∀ i,i < C.ops.size → l.getD i true = false → Clean C s i
structure Inf where
 idx : Nat
 dst : Option Nat
 looks : List Nat
 preds : List Nat
 quiet : Bool
def predsOf (o : Oper) : List Nat := (o.after.toList.filter (Region.binds .any)).map (·.on)
def infOf (ops : Array Oper) (i : Nat) (o : Oper) : Inf := ⟨i,o.dst,o.looksAt ops,predsOf o,quietK o⟩
def infsOf (ops : Array Oper) : List Oper → Nat → List Inf
 | [],_ => []
 | o :: l,i => infOf ops i o :: infsOf ops l (i + 1)
def apartI (x y : Inf) : Bool :=
  (match x.dst with
   | some d => !(y.looks.any (Nat.beq d)) && (match y.dst with
     | some e => !(Nat.beq d e)
     | none => true)
   | none => true) &&
  (match y.dst with
   | some d => !(x.looks.any (Nat.beq d))
   | none => true)
def pairI (ops : Array Oper) (x y : Inf) : Bool := Nat.beq x.idx y.idx || (apartI x y || (y.preds.any (Nat.beq x.idx) || (x.preds.any (Nat.beq y.idx) || (ancN ops ops.size x.idx).any (Nat.beq y.idx))))
def readyI (done : List Nat) (x : Inf) : Bool := x.preds.all fun p => done.any (Nat.beq p)
def greedy : Nat → List Nat → List Inf → Option (List Nat)
 | _,_,[] => some []
 | 0,_,_ :: _ => none
 | f + 1,done,x0 :: rest0 => match (x0 :: rest0).find? (fun x => x.quiet && readyI done x) with
  | some x => match greedy f (x.idx :: done) ((x0 :: rest0).filter fun y => !(Nat.beq y.idx x.idx)) with
   | some is => some (x.idx :: is)
   | none => none
  | none => match (x0 :: rest0).filter (readyI done) with
   | [x] => match greedy f (x.idx :: done) ((x0 :: rest0).filter fun y => !(Nat.beq y.idx x.idx)) with
    | some is => some (x.idx :: is)
    | none => none
   | _ => none
def pairsOk (ops : Array Oper) (xs : List Inf) : Bool := xs.all fun x => !x.quiet || xs.all fun y => pairI ops x y
def schedF (ops : Array Oper) : Option (List Nat) := bif pairsOk ops (infsOf ops ops.toList 0) then greedy ops.size [] (infsOf ops ops.toList 0) else none
def runS (C : DC) : List Nat → D → Option D
 | [],s => some s
 | i :: is,s => match C.ops[i]? with
  | some o => match dstep C s i o with
   | some s' => runS C is s'
   | none => none
  | none => none
section
variable {C : DC} {F : D} {l : Array Bool}
theorem getD_true_false {i : Nat} (h : l.getD i true = false) : l.getD i false = false := by
 rcases Nat.lt_or_ge i l.size with hlt | hge
 ·simp [hlt] at h ⊢; exact h
 ·simp [hge] at h
theorem closed_add {i : Nat} (hc : Closed C.ops l) (hr : i ∈ Region.ready .any C.ops l) : Closed C.ops (l.setIfInBounds i true) := by
 intro k hk o ho e he hb
 apply getD_set_true
 by_cases hki : k = i
 ·subst hki
  obtain ⟨_,o',ho',hall⟩ := mem_ready.1 hr
  rw [ho] at ho'; simp only [Option.some.injEq] at ho'; subst ho'
  exact hall e he hb
 ·rw [getD_set_ne false (fun h => hki h.symm)] at hk
  exact hc k hk o ho e he hb
theorem anc_listed (hc : Closed C.ops l) : ∀ (k j : Nat),(∀ o,C.ops[j]? = some o → ∀ e ∈ o.after,Region.binds .any e = true → l.getD e.on false = true) → ∀ x ∈ ancN C.ops k j,l.getD x false = true
 | 0,j,_,x,hx => by simp [ancN] at hx
 | k + 1,j,h,x,hx => by
  unfold ancN at hx
  split at hx
  ·simp at hx
  ·rename_i o ho
   obtain ⟨e,he,hx⟩ := List.mem_flatMap.1 hx
   cases hb : Region.binds .any e with
   | false => simp [hb] at hx
   | true =>
    simp only [hb,cond_true] at hx
    have he' : e ∈ o.after := by simpa using he
    have h1 := h o ho e he' hb
    rcases List.mem_cons.1 hx with rfl | hx
    ·exact h1
    ·exact anc_listed hc k e.on (fun o' ho' e' he'' hb' => hc e.on h1 o' ho' e' he'' hb') x hx
theorem good_first (hn : C.n ≤ 2 ^ C.d) (hpd : C.ops.size ≤ 2 ^ C.pd) {i : Nat} {oi : Oper} (hi : C.ops[i]? = some oi) (hq : quietK oi = true) : ∀ (f : Nat) (l : Array Bool) (s s1 : D),
  (∀ j oj,C.ops[j]? = some oj → j ≠ i → l.getD j true = false → (∀ e ∈ oj.after,Region.binds .any e = true → e.on ≠ i) → oi.apart C.ops oj = true) →
  Closed C.ops l → CleanAll C l s → i ∈ Region.ready .any C.ops l → dstep C s i oi = some s1 → Good C F f (l.setIfInBounds i true) s1 → Good C F (f + 1) l s := by
 have hin : i < C.ops.size := (Array.getElem?_eq_some_iff.1 hi).1
 intro f
 induction f with
 | zero =>
  intro l s s1 _ hc hcl hr h1 H
  refine ⟨fun h => (by rw [h] at hr; cases hr),fun j hj => ?_⟩
  by_cases hji : j = i
  ·subst hji; exact ⟨oi,s1,hi,h1,H⟩
  ·have := ready_mono hj hji
   rw [H.1] at this
   cases this
 | succ f ih =>
  intro l s s1 hfree hc hcl hr h1 H
  refine ⟨fun h => (by rw [h] at hr; cases hr),fun j hj => ?_⟩
  by_cases hji : j = i
  ·subst hji; exact ⟨oi,s1,hi,h1,H⟩
  ·obtain ⟨oj,s2,hoj,h2,H2⟩ := H.2 j (ready_mono hj hji)
   have hjn : j < C.ops.size := (Array.getElem?_eq_some_iff.1 hoj).1
   obtain ⟨hjun,oj',hoj',hall⟩ := mem_ready.1 hj
   rw [hoj] at hoj'; simp only [Option.some.injEq] at hoj'; subst hoj'
   have hiun := (mem_ready.1 hr).1
   have hif := getD_true_false hiun
   have hnot : ∀ e ∈ oj.after,Region.binds .any e = true → e.on ≠ i := fun e he hb heq => by
    have := hall e he hb
    rw [heq,hif] at this; cases this
   have hanc : i ∉ ancN C.ops C.ops.size j := fun hm => by
    have := anc_listed hc C.ops.size j (fun o ho e he hb => by rw [hoj] at ho; simp only [Option.some.injEq] at ho; subst ho; exact hall e he hb) i hm
    rw [hif] at this; cases this
   obtain ⟨s',d1,d2⟩ := diamond hn hi hoj hpd (fun e => hji e.symm) (hcl i hin hiun) hq (hfree j oj hoj hji hjun hnot) hanc h1 h2
   refine ⟨oj,s',hoj,d1,ih (l.setIfInBounds j true) s' s2 ?_ (closed_add hc hj) ?_ (ready_mono hr (Ne.symm hji)) d2 ?_⟩
   ·intro k ok hk hki hun hno
    refine hfree k ok hk hki ?_ hno
    exact (getD_set l j k hun).2
   ·intro k hk hun
    obtain ⟨hkj,hun'⟩ := getD_set l j k hun
    exact dstep_clean (by omega) (by omega) (fun e => hkj e.symm) (hcl k hk hun') d1
   ·rw [Array.setIfInBounds_comm _ _ hji]
    exact H2
theorem infsOf_mem {ops : Array Oper} : ∀ {l : List Oper} {i : Nat} {x : Inf},x ∈ infsOf ops l i → ∃ j o,l[j]? = some o ∧ x = infOf ops (i + j) o
 | [],i,x,h => by simp [infsOf] at h
 | o :: l,i,x,h => by
  rcases List.mem_cons.1 h with rfl | h
  ·exact ⟨0,o,rfl,rfl⟩
  ·obtain ⟨j,o',h1,h2⟩ := infsOf_mem h
   exact ⟨j + 1,o',by simpa using h1,by rw [h2]; congr 1; omega⟩
theorem infsOf_get {ops : Array Oper} : ∀ {l : List Oper} {i j : Nat} {o : Oper},l[j]? = some o → infOf ops (i + j) o ∈ infsOf ops l i
 | [],i,j,o,h => by simp at h
 | o' :: l,i,0,o,h => by
  simp only [List.getElem?_cons_zero,Option.some.injEq] at h
  subst h
  exact List.mem_cons_self ..
 | o' :: l,i,j + 1,o,h => by
  have := infsOf_get (ops := ops) (i := i + 1) (show l[j]? = some o by simpa using h)
  rw [show i + 1 + j = i + (j + 1) by omega] at this
  exact List.mem_cons_of_mem _ this
theorem any_beq {l : List Nat} {d : Nat} : l.any (Nat.beq d) = true ↔ d ∈ l := by
 rw [List.any_eq_true]
 constructor
 ·rintro ⟨x,hx,hb⟩
  have : d = x := Nat.eq_of_beq_eq_true hb
  rw [this]; exact hx
 ·exact fun h => ⟨d,h,Nat.beq_refl d⟩
theorem apartI_ok {ops : Array Oper} {i j : Nat} {x y : Oper} (h : apartI (infOf ops i x) (infOf ops j y) = true) : x.apart ops y = true := by
 have hc : ∀ (l : List Nat) (d : Nat),l.any (Nat.beq d) = l.contains d := fun l d => by
  rw [Bool.eq_iff_iff,any_beq,List.contains_iff_mem]
 unfold apartI at h
 unfold Oper.apart
 simp only [infOf,Bool.and_eq_true] at h ⊢
 obtain ⟨h1,h2⟩ := h
 refine ⟨?_,?_⟩
 ·cases hx : x.dst with
  | none => rfl
  | some d =>
   rw [hx] at h1
   simp only [Bool.and_eq_true] at h1 ⊢
   refine ⟨by rw [← hc]; exact h1.1,?_⟩
   cases hy : y.dst with
   | none => rfl
   | some e =>
    have h3 := h1.2
    rw [hy] at h3
    simp only [Bool.not_eq_true'] at h3
    simp only [bne_iff_ne,ne_eq,Option.some.injEq]
    intro he
    rw [he,Nat.beq_refl] at h3
    cases h3
 ·cases hy : y.dst with
  | none => rfl
  | some d =>
   rw [hy] at h2
   simp only at h2 ⊢
   rw [← hc]; exact h2
theorem mem_preds {o : Oper} {p : Nat} : p ∈ predsOf o ↔ ∃ e ∈ o.after,Region.binds .any e = true ∧ e.on = p := by
 unfold predsOf
 simp only [List.mem_map,List.mem_filter,Array.mem_toList_iff]
 constructor
 ·rintro ⟨e,⟨h1,h2⟩,h3⟩; exact ⟨e,h1,h2,h3⟩
 ·rintro ⟨e,h1,h2,h3⟩; exact ⟨e,⟨h1,h2⟩,h3⟩
structure Inv (C : DC) (l : Array Bool) (done : List Nat) (rest : List Inf) : Prop where
 dn : ∀ k,l.getD k false = true ↔ k ∈ done
 inf : ∀ x ∈ rest,∃ o,C.ops[x.idx]? = some o ∧ x = infOf C.ops x.idx o ∧ l.getD x.idx true = false
 all : ∀ k,l.getD k true = false → ∃ x ∈ rest,x.idx = k
 cl : Closed C.ops l
 size : l.size = C.ops.size
theorem Inv.ready {done : List Nat} {rest : List Inf} (I : Inv C l done rest) {x : Inf} (hx : x ∈ rest) : readyI done x = true ↔ x.idx ∈ Region.ready .any C.ops l := by
 obtain ⟨o,ho,hxo,hun⟩ := I.inf x hx
 have hp : x.preds = predsOf o := by rw [hxo]; rfl
 rw [mem_ready]
 unfold readyI
 rw [List.all_eq_true,hp]
 constructor
 ·intro h
  refine ⟨hun,o,ho,fun e he hb => ?_⟩
  exact (I.dn e.on).2 (any_beq.1 (h e.on (mem_preds.2 ⟨e,he,hb,rfl⟩)))
 ·rintro ⟨_,o',ho',h⟩ p hp
  rw [ho] at ho'; simp only [Option.some.injEq] at ho'; subst ho'
  obtain ⟨e,he,hb,rfl⟩ := mem_preds.1 hp
  exact any_beq.2 ((I.dn e.on).1 (h e he hb))
theorem Inv.step {done : List Nat} {rest : List Inf} (I : Inv C l done rest) {x : Inf} (hx : x ∈ rest) (hr : x.idx ∈ Region.ready .any C.ops l) :
  Inv C (l.setIfInBounds x.idx true) (x.idx :: done) (rest.filter fun y => !(Nat.beq y.idx x.idx)) := by
 obtain ⟨o,ho,hxo,hun⟩ := I.inf x hx
 have hlt : x.idx < l.size := by rw [I.size]; exact (Array.getElem?_eq_some_iff.1 ho).1
 refine ⟨fun k => ?_,fun y hy => ?_,fun k hk => ?_,closed_add I.cl hr,by simp [I.size]⟩
 ·by_cases hki : x.idx = k
  ·subst hki
   simp [hlt]
  ·rw [getD_set_ne false hki,I.dn k]
   simp only [List.mem_cons]
   exact ⟨.inr,fun h => h.resolve_left (fun e => hki e.symm)⟩
 ·obtain ⟨h1,h2⟩ := List.mem_filter.1 hy
  obtain ⟨o',g1,g2,g3⟩ := I.inf y h1
  refine ⟨o',g1,g2,?_⟩
  have hne : x.idx ≠ y.idx := fun e => by rw [e,Nat.beq_refl] at h2; cases h2
  rw [getD_set_ne true hne]; exact g3
 ·obtain ⟨hne,hun'⟩ := getD_set l x.idx k hk
  obtain ⟨y,hy,rfl⟩ := I.all k hun'
  refine ⟨y,List.mem_filter.2 ⟨hy,?_⟩,rfl⟩
  cases hb : Nat.beq y.idx x.idx with
  | false => rfl
  | true => exact absurd (Nat.eq_of_beq_eq_true hb) hne
theorem pair_free {xs : List Inf} (hp : pairsOk C.ops xs = true) {done : List Nat} {rest : List Inf} (I : Inv C l done rest) (hsub : ∀ y ∈ rest,y ∈ xs) {x : Inf} (hx : x ∈ rest) (hq : x.quiet = true) (hr : x.idx ∈ Region.ready .any C.ops l) {oi : Oper} (hi : C.ops[x.idx]? = some oi) :
  ∀ j oj,C.ops[j]? = some oj → j ≠ x.idx → l.getD j true = false → (∀ e ∈ oj.after,Region.binds .any e = true → e.on ≠ x.idx) → oi.apart C.ops oj = true := by
 intro j oj hj hne hun hno
 obtain ⟨y,hy,rfl⟩ := I.all j hun
 obtain ⟨ox,ho,hxo,_⟩ := I.inf x hx
 rw [hi] at ho; simp only [Option.some.injEq] at ho; subst ho
 obtain ⟨oy,hoy,hyo,_⟩ := I.inf y hy
 rw [hj] at hoy; simp only [Option.some.injEq] at hoy; subst hoy
 have h1 := List.all_eq_true.1 hp x (hsub x hx)
 rw [hq] at h1
 simp only [Bool.not_true,Bool.false_or] at h1
 have h2 := List.all_eq_true.1 h1 y (hsub y hy)
 unfold pairI at h2
 simp only [Bool.or_eq_true] at h2
 have hnl : l.getD y.idx false = false := getD_true_false hun
 obtain ⟨_,o',ho',hall⟩ := mem_ready.1 hr
 rw [hi] at ho'; simp only [Option.some.injEq] at ho'; subst ho'
 rcases h2 with h2 | h2 | h2 | h2 | h2
 ·exact absurd (Nat.eq_of_beq_eq_true h2).symm hne
 ·rw [hxo,hyo] at h2; exact apartI_ok h2
 ·have : x.idx ∈ predsOf oj := by
   have := any_beq.1 h2
   rw [hyo] at this; exact this
  obtain ⟨e,he,hb,heq⟩ := mem_preds.1 this
  exact absurd heq (hno e he hb)
 ·have : y.idx ∈ predsOf oi := by
   have := any_beq.1 h2
   rw [hxo] at this; exact this
  obtain ⟨e,he,hb,heq⟩ := mem_preds.1 this
  have := hall e he hb
  rw [heq,hnl] at this; cases this
 ·have := anc_listed I.cl C.ops.size x.idx (fun o ho e he hb => by rw [hi] at ho; simp only [Option.some.injEq] at ho; subst ho; exact hall e he hb) _ (any_beq.1 h2)
  rw [hnl] at this; cases this
theorem greedy_good (hn : C.n ≤ 2 ^ C.d) (hpd : C.ops.size ≤ 2 ^ C.pd) {xs : List Inf} (hp : pairsOk C.ops xs = true) : ∀ (f : Nat) (l : Array Bool) (done : List Nat) (rest : List Inf) (is : List Nat) (s : D),greedy f done rest = some is → Inv C l done rest → (∀ y ∈ rest,y ∈ xs) → CleanAll C l s →
  runS C is s = some F → Good C F f l s := by
 have hnil : ∀ (f : Nat) (l : Array Bool) (done : List Nat) (s : D),Inv C l done [] → s = F → Good C F f l s := by
  intro f l done s I hs
  have hr : Region.ready .any C.ops l = [] := by
   cases h : Region.ready .any C.ops l with
   | nil => rfl
   | cons i r =>
    have hi : i ∈ Region.ready .any C.ops l := by rw [h]; exact List.mem_cons_self ..
    obtain ⟨x,hx,_⟩ := I.all i (mem_ready.1 hi).1
    cases hx
  cases f with
  | zero => exact ⟨hr,hs⟩
  | succ f => exact ⟨fun _ => hs,fun i hi => by rw [hr] at hi; cases hi⟩
 intro f
 induction f with
 | zero =>
  intro l done rest is s hg I hsub hcl hrun
  cases rest with
  | nil =>
   simp only [greedy,Option.some.injEq] at hg
   subst hg
   simp only [runS,Option.some.injEq] at hrun
   exact hnil 0 l done s I hrun
  | cons x r => simp [greedy] at hg
 | succ f ih =>
  intro l done rest is s hg I hsub hcl hrun
  cases rest with
  | nil =>
   simp only [greedy,Option.some.injEq] at hg
   subst hg
   simp only [runS,Option.some.injEq] at hrun
   exact hnil (f + 1) l done s I hrun
  | cons x0 r0 =>
   have step : ∀ (x : Inf) (is' : List Nat),x ∈ x0 :: r0 → x.idx ∈ Region.ready .any C.ops l → greedy f (x.idx :: done) ((x0 :: r0).filter fun y => !(Nat.beq y.idx x.idx)) = some is' → is = x.idx :: is' →
     ∃ o s',C.ops[x.idx]? = some o ∧ dstep C s x.idx o = some s' ∧ Good C F f (l.setIfInBounds x.idx true) s' := by
    intro x is' hx hr hg' his
    subst his
    unfold runS at hrun
    split at hrun
    ·rename_i o ho
     split at hrun
     ·rename_i s' hs
      have hin : x.idx < C.ops.size := (Array.getElem?_eq_some_iff.1 ho).1
      refine ⟨o,s',ho,hs,ih _ _ _ _ s' hg' (I.step hx hr) (fun y hy => hsub y (List.mem_filter.1 hy).1) (fun k hk hun => ?_) hrun⟩
      obtain ⟨hki,hun'⟩ := getD_set l x.idx k hun
      exact dstep_clean (by omega) (by omega) (fun e => hki e.symm) (hcl k hk hun') hs
     ·cases hrun
    ·cases hrun
   unfold greedy at hg
   split at hg
   ·rename_i x hfx
    have hx := List.mem_of_find?_eq_some hfx
    have hb := List.find?_some hfx
    simp only [Bool.and_eq_true] at hb
    have hr := (I.ready hx).1 hb.2
    split at hg
    ·rename_i is' hg'
     simp only [Option.some.injEq] at hg
     obtain ⟨o,s',ho,hs,G'⟩ := step x is' hx hr hg' hg.symm
     obtain ⟨o2,ho2,hxo,_⟩ := I.inf x hx
     rw [ho] at ho2; simp only [Option.some.injEq] at ho2; subst ho2
     have hq : quietK o = true := by have := hb.1; rw [hxo] at this; exact this
     exact good_first hn hpd ho hq f l s s' (pair_free hp I hsub hx hb.1 hr ho) I.cl hcl hr hs G'
    ·cases hg
   ·split at hg
    ·rename_i x hfl
     have hxm : x ∈ (x0 :: r0).filter (readyI done) := by rw [hfl]; exact List.mem_cons_self ..
     obtain ⟨hx,hb⟩ := List.mem_filter.1 hxm
     have hr := (I.ready hx).1 hb
     split at hg
     ·rename_i is' hg'
      simp only [Option.some.injEq] at hg
      obtain ⟨o,s',ho,hs,G'⟩ := step x is' hx hr hg' hg.symm
      refine ⟨fun h0 => (by rw [h0] at hr; cases hr),fun j hj => ?_⟩
      obtain ⟨y,hy,rfl⟩ := I.all j (mem_ready.1 hj).1
      have hym : y ∈ (x0 :: r0).filter (readyI done) := List.mem_filter.2 ⟨hy,(I.ready hy).2 hj⟩
      rw [hfl] at hym
      simp only [List.mem_cons,List.not_mem_nil,or_false] at hym
      subst hym
      exact ⟨o,s',ho,hs,G'⟩
     ·cases hg
    ·cases hg
theorem sched_good (hn : C.n ≤ 2 ^ C.d) (hpd : C.ops.size ≤ 2 ^ C.pd) {is : List Nat} {s : D} (hs : schedF C.ops = some is) (hcl : CleanAll C (Array.replicate C.ops.size false) s) (hrun : runS C is s = some F) : Good C F C.ops.size (Array.replicate C.ops.size false) s := by
 unfold schedF at hs
 cases hb : pairsOk C.ops (infsOf C.ops C.ops.toList 0) with
 | false => simp [hb] at hs
 | true =>
  simp only [hb,cond_true] at hs
  refine greedy_good hn hpd hb _ _ _ _ _ _ hs ⟨fun k => ?_,fun x hx => ?_,fun k hk => ?_,fun k hk => ?_,by simp⟩ (fun y hy => hy) hcl hrun
  ·by_cases hlt : k < C.ops.size <;> simp [hlt]
  ·obtain ⟨j,o,h1,h2⟩ := infsOf_mem hx
   have hlt : j < C.ops.size := by have := (List.getElem?_eq_some_iff.1 h1).1; simpa using this
   subst h2
   refine ⟨o,by simpa [infOf] using h1,rfl,by simp [infOf,hlt]⟩
  ·by_cases hlt : k < C.ops.size
   ·have h1 : C.ops.toList[k]? = some C.ops[k] := by simp [hlt]
    refine ⟨_,infsOf_get (i := 0) h1,by simp [infOf]⟩
   ·simp [hlt] at hk
  ·by_cases hlt : k < C.ops.size
   ·simp [hlt] at hk
   ·simp [hlt] at hk
variable {ds : List Deferred} {ro : Option Nat} {w0 : World} {B : Fr} {hb : AV} {Q : Exit → Act → World → Prop}
theorem good_wp (hK : KOk C) (hpd : C.ops.size ≤ 2 ^ C.pd) (hed : ∀ (j : Nat) o,C.ops[j]? = some o → ∀ e ∈ o.after,e.on < C.ops.size) : ∀ (f : Nat) (l : Array Bool) (s : D) (σ : Sg) (a : Act) (w : World),Good C F f l s → DSim ds C w0 B hb σ s l a w →
  (∀ σ' l' a' w',SubX C.nx0 σ σ' → DSim ds C w0 B hb σ' F l' a' w' → Q .normal a' w') → wpAnyIn (fen ro) 0 C.P .any C.ops Q f l a w
 | 0,l,s,σ,a,w,hg,S,hQ => ⟨hg.1,hQ σ l a w (SubX.refl _ σ) (hg.2 ▸ S)⟩
 | f + 1,l,s,σ,a,w,hg,S,hQ => by
  refine ⟨fun h0 => hQ σ l a w (SubX.refl _ σ) (hg.1 h0 ▸ S),fun i hi => ?_⟩
  obtain ⟨o,s',ho,hs,hg'⟩ := hg.2 i hi
  refine dstep_ok hK hpd hed S ho (mem_ready.1 hi).1 hs (fun σ' a' w' hx S' => ?_)
  exact good_wp hK hpd hed f _ s' σ' a' w' hg' S' (fun σ'' l' a'' w'' hx' S'' => hQ σ'' l' a'' w'' (hx.trans hx' (Nat.le_refl _)) S'')
end
end I
end Go.Proofs.YtohjpggjgomgoaaGreatDoor
