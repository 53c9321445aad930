/- The rounds of the digest, as numbers. -/
import Derived.Test.YtphnkangpboplaaDoorShaS
namespace Go.Proofs.YtphnkangpboplaaDoor
open K
set_option linter.unusedVariables false

/-- The rounds' numbers. -/
def Kc : List Nat := [1116352408, 1899447441, 3049323471, 3921009573, 961987163, 1508970993, 2453635748, 2870763221, 3624381080, 310598401, 607225278, 1426881987, 1925078388, 2162078206, 2614888103, 3248222580, 3835390401, 4022224774, 264347078, 604807628, 770255983, 1249150122, 1555081692, 1996064986, 2554220882, 2821834349, 2952996808, 3210313671, 3336571891, 3584528711, 113926993, 338241895, 666307205, 773529912, 1294757372, 1396182291, 1695183700, 1986661051, 2177026350, 2456956037, 2730485921, 2820302411, 3259730800, 3345764771, 3516065817, 3600352804, 4094571909, 275423344, 430227734, 506948616, 659060556, 883997877, 958139571, 1322822218, 1537002063, 1747873779, 1955562222, 2024104815, 2227730452, 2361852424, 2428436474, 2756734187, 3204031479, 3329325298]
structure W8 where
  a : Nat
  b : Nat
  c : Nat
  d : Nat
  e : Nat
  f : Nat
  g : Nat
  h : Nat
structure W8.Ok (s : W8) : Prop where
  a : s.a < 2 ^ 32
  b : s.b < 2 ^ 32
  c : s.c < 2 ^ 32
  d : s.d < 2 ^ 32
  e : s.e < 2 ^ 32
  f : s.f < 2 ^ 32
  g : s.g < 2 ^ 32
  h : s.h < 2 ^ 32
def bigE (x : Nat) : Nat := (rotl x 67108864 64 ^^^ rotl x 2097152 2048) ^^^ rotl x 128 33554432
def bigA (x : Nat) : Nat := (rotl x 1073741824 4 ^^^ rotl x 524288 8192) ^^^ rotl x 1024 4194304
def choi (e f g : Nat) : Nat := (e &&& f) ^^^ ((4294967295 ^^^ e) &&& g)
def most (a b c : Nat) : Nat := ((a &&& b) ^^^ (a &&& c)) ^^^ (b &&& c)
def fst5 (h x c k w : Nat) : Nat := ((((h + x) % 4294967296 + c) % 4294967296 + k) % 4294967296 + w) % 4294967296
def frst (k w : Nat) (s : W8) : Nat := fst5 s.h (bigE s.e) (choi s.e s.f s.g) k w
def scnd (s : W8) : Nat := (bigA s.a + most s.a s.b s.c) % 4294967296
def rnd (k w : Nat) (s : W8) : W8 := ⟨(frst k w s + scnd s) % 4294967296, s.a, s.b, s.c, (s.d + frst k w s) % 4294967296, s.e, s.f, s.g⟩
def w8 (l : List Nat) : W8 := ⟨rg l 0, rg l 1, rg l 2, rg l 3, rg l 4, rg l 5, rg l 6, rg l 7⟩
def w8l (s : W8) : List Nat := [s.a, s.b, s.c, s.d, s.e, s.f, s.g, s.h]
def rv (hs : List Nat) (bl : List UInt8) : Nat → W8
  | 0 => w8 hs
  | t + 1 => rnd (rg Kc t) (rg (row bl 64) t) (rv hs bl t)
theorem rv_ok {hs : List Nat} (hlt : ∀ i, rg hs i < 2 ^ 32) (bl : List UInt8) : ∀ t, (rv hs bl t).Ok
  | 0 => ⟨hlt 0, hlt 1, hlt 2, hlt 3, hlt 4, hlt 5, hlt 6, hlt 7⟩
  | t + 1 => by
    have ih := rv_ok hlt bl t
    exact ⟨Nat.mod_lt _ (by decide), ih.a, ih.b, ih.c, Nat.mod_lt _ (by decide), ih.e, ih.f, ih.g⟩
theorem add32 (x y : Nat) : ((x : Int) + (y : Int)) % 4294967296 = (((x + y) % 4294967296 : Nat) : Int) := by omega
theorem fst5_eq (h x c k w : Nat) : ((((((((h : Int) + (x : Int)) % 4294967296) + (c : Int)) % 4294967296) + (k : Int)) % 4294967296) + (w : Int)) % 4294967296 = ((fst5 h x c k w : Nat) : Int) := by unfold fst5; omega
/-- The sums behind k of the additions. -/
def sm (hs vs : List Nat) : Nat → List Nat
  | 0 => hs
  | k + 1 => (sm hs vs k).set k ((rg (sm hs vs k) k + rg vs k) % 4294967296)
theorem sm_len {hs : List Nat} (vs : List Nat) (hh : hs.length = 8) : ∀ k, (sm hs vs k).length = 8
  | 0 => hh
  | k + 1 => by rw [sm, List.length_set]; exact sm_len vs hh k
theorem sm_lt {hs : List Nat} (vs : List Nat) (hlt : ∀ i, rg hs i < 2 ^ 32) : ∀ k i, rg (sm hs vs k) i < 2 ^ 32
  | 0, i => hlt i
  | k + 1, i => by
    have ih := sm_lt vs hlt k i
    simp only [rg, sm, List.getD_eq_getElem?_getD, List.getElem?_set] at *
    split
    · split
      · exact Nat.mod_lt _ (by decide)
      · simp
    · exact ih
def mixF (hs : List Nat) (bl : List UInt8) : List Nat := sm hs (w8l (rv hs bl 64)) 8
theorem sm_step {hs vs : List Nat} {bl : List UInt8} {held total k : Nat} (hh : hs.length = 8) (hk : k < 8) :
    (stC (sm hs vs k) bl held total).setIfInBounds k (.int .u32 (((rg (sm hs vs k) k : Int) + (rg vs k : Int)) % 4294967296)) = stC (sm hs vs (k + 1)) bl held total := by
  rw [add32, st_setSum (sm_len vs hh k) hk (by omega), Int.toNat_natCast]
  rfl
theorem tn (n : Nat) : ((n : Int)).toNat = n := rfl
theorem xx3 (p q r : Nat) : ((((((((p : Nat) : Int)).toNat ^^^ (((q : Nat) : Int)).toNat : Nat) : Int)).toNat ^^^ (((r : Nat) : Int)).toNat : Nat) : Int) = (((p ^^^ q) ^^^ r : Nat) : Int) := rfl
theorem cc4 (m e f g : Nat) : (((((((e : Nat) : Int)).toNat &&& (((f : Nat) : Int)).toNat : Nat) : Int)).toNat ^^^ ((((((m ^^^ (((e : Nat) : Int)).toNat : Nat) : Int)).toNat &&& (((g : Nat) : Int)).toNat : Nat) : Int)).toNat : Nat) = (((e &&& f) ^^^ ((m ^^^ e) &&& g) : Nat) : Int) := rfl
theorem bigE_eq (x : Nat) : ((((((rotl x 67108864 64 : Int)).toNat ^^^ ((rotl x 2097152 2048 : Int)).toNat : Nat) : Int)).toNat ^^^ ((rotl x 128 33554432 : Int)).toNat : Nat) = ((bigE x : Nat) : Int) := by unfold bigE; exact xx3 _ _ _
theorem bigA_eq (x : Nat) : ((((((rotl x 1073741824 4 : Int)).toNat ^^^ ((rotl x 524288 8192 : Int)).toNat : Nat) : Int)).toNat ^^^ ((rotl x 1024 4194304 : Int)).toNat : Nat) = ((bigA x : Nat) : Int) := by unfold bigA; exact xx3 _ _ _
theorem choi_eq (e f g : Nat) : (((((((e : Nat) : Int)).toNat &&& (((f : Nat) : Int)).toNat : Nat) : Int)).toNat ^^^ ((((((4294967295 ^^^ (((e : Nat) : Int)).toNat : Nat) : Int)).toNat &&& (((g : Nat) : Int)).toNat : Nat) : Int)).toNat : Nat) = ((choi e f g : Nat) : Int) := by unfold choi; exact cc4 _ _ _ _
theorem most_eq (a b c : Nat) : ((((((((((a : Int)).toNat &&& ((b : Int)).toNat : Nat) : Int)).toNat ^^^ (((((a : Int)).toNat &&& ((c : Int)).toNat : Nat) : Int)).toNat : Nat) : Int)).toNat ^^^ (((((b : Int)).toNat &&& ((c : Int)).toNat : Nat) : Int)).toNat : Nat) : Int) = ((most a b c : Nat) : Int) := rfl
theorem frst_eq (k w : Nat) (s : W8) : ((((((((s.h : Int) + (bigE s.e : Int)) % 4294967296) + (choi s.e s.f s.g : Int)) % 4294967296) + (k : Int)) % 4294967296) + (w : Int)) % 4294967296 = ((frst k w s : Nat) : Int) := by unfold frst; exact fst5_eq _ _ _ _ _
theorem scnd_eq (s : W8) : ((bigA s.a : Int) + (most s.a s.b s.c : Int)) % 4294967296 = ((scnd s : Nat) : Int) := by unfold scnd; exact add32 _ _
theorem rv_succ (hs : List Nat) (bl : List UInt8) (t : Nat) : rv hs bl (t + 1) = rnd (rg Kc t) (rg (row bl 64) t) (rv hs bl t) := rfl
theorem rnd_def (k w : Nat) (s : W8) : rnd k w s = ⟨(frst k w s + scnd s) % 4294967296, s.a, s.b, s.c, (s.d + frst k w s) % 4294967296, s.e, s.f, s.g⟩ := rfl
section
variable (a b c d e f g h : Nat)
theorem pa : (W8.mk a b c d e f g h).a = a := rfl
theorem pb : (W8.mk a b c d e f g h).b = b := rfl
theorem pc : (W8.mk a b c d e f g h).c = c := rfl
theorem pd : (W8.mk a b c d e f g h).d = d := rfl
theorem pe : (W8.mk a b c d e f g h).e = e := rfl
theorem pf : (W8.mk a b c d e f g h).f = f := rfl
theorem pg : (W8.mk a b c d e f g h).g = g := rfl
theorem ph : (W8.mk a b c d e f g h).h = h := rfl
end
section
variable (hs : List Nat) (bl : List UInt8) (t : Nat)
theorem rv_a : ((frst (rg Kc t) (rg (row bl 64) t) (rv hs bl t) : Int) + (scnd (rv hs bl t) : Int)) % 4294967296 = ((rv hs bl (t + 1)).a : Int) := by rw [rv_succ, rnd_def, pa, add32]
theorem rv_b : ((rv hs bl t).a : Int) = ((rv hs bl (t + 1)).b : Int) := by rw [rv_succ, rnd_def, pb]
theorem rv_c : ((rv hs bl t).b : Int) = ((rv hs bl (t + 1)).c : Int) := by rw [rv_succ, rnd_def, pc]
theorem rv_d : ((rv hs bl t).c : Int) = ((rv hs bl (t + 1)).d : Int) := by rw [rv_succ, rnd_def, pd]
theorem rv_e : (((rv hs bl t).d : Int) + (frst (rg Kc t) (rg (row bl 64) t) (rv hs bl t) : Int)) % 4294967296 = ((rv hs bl (t + 1)).e : Int) := by rw [rv_succ, rnd_def, pe, add32]
theorem rv_f : ((rv hs bl t).e : Int) = ((rv hs bl (t + 1)).f : Int) := by rw [rv_succ, rnd_def, pf]
theorem rv_g : ((rv hs bl t).f : Int) = ((rv hs bl (t + 1)).g : Int) := by rw [rv_succ, rnd_def, pg]
theorem rv_h : ((rv hs bl t).g : Int) = ((rv hs bl (t + 1)).h : Int) := by rw [rv_succ, rnd_def, ph]
end
theorem w8l_len (s : W8) : (w8l s).length = 8 := rfl
def KT (kt : Array Value) : Prop := ∀ t, t < 64 → kt[t]? = some (.int .u32 (rg Kc t : Int))
theorem kget {t : Nat} (h : t < 64) : (wv Kc)[t]? = some (.int .u32 (rg Kc t : Int)) := wv_get (n := 64) rfl h

end Go.Proofs.YtphnkangpboplaaDoor
