/- A text is written into a digest: byte by byte. Conditions: the state lies in its block, the rounds in theirs. -/
import Derived.Test.YtphnkangpboplaaDoorShaU
import Derived.Test.YtphnkangpboplaaDoorSha3
namespace Go.Proofs.YtphnkangpboplaaDoor
open K
set_option linter.unusedVariables false

set_option maxRecDepth 100000 in
theorem shaWrite (b : Nat) (z : Sh) (total : Nat) (s : ByteArray) {kt : Array Value} {t0 : TypeId} {fr0 : Nat × Nat} (w : World) (hx : z.Ok) (hR : Has w [(0, .cells kt t0 fr0)]) (hS : w.heap[b]? = some (.cells (stC z.hs z.bl z.held total) 67 (0, 0))) (hne : b ≠ 0) (hK : KT kt := by assumption) :
    Calls Tryd.prog 16 #[.pointer (some ⟨b, 0, none⟩), .string s] w fun e w' => e = .returned (.tuple #[]) ∧ Ext [b] w w' ∧ w'.heap[b]? = some (.cells (stC (feed z s.data.toList).hs (feed z s.data.toList).bl (feed z s.data.toList).held ((total + s.size) % 18446744073709551616)) 67 (0, 0)) := by
  refine enter (vs := [.pointer (some ⟨b, 0, none⟩), .string s]) [b] [(0, .cells kt t0 fr0)] [(b, .cells (stC z.hs z.bl z.held total) 67 (0, 0))] Tryd.func16 rfl (by kernel_rfl) (HP.startM hR hS (by simpa using hne)) ?_
  refine Cfg.begL rfl ?_
  refine CfgL.pure 10 [(0, false, none), (0, false, none), (0, false, none), (0, false, some (.int .u64 (total : Int)))] none (Γ' := [(14, [], .pointer (some ⟨b, 73, none⟩)), (13, [], .pointer (some ⟨b, 0, none⟩)), (12, [], .int .u64 (((total : Int) + ((s.size : Int) % 18446744073709551616)) % 18446744073709551616)), (11, [], .int .u64 ((s.size : Int) % 18446744073709551616)), (10, [], .int .i64 (s.size : Int)), (9, [], .string s), (8, [], .int .u64 (total : Int)), (7, [], .pointer (some ⟨b, 73, none⟩)), (6, [], .pointer (some ⟨b, 0, none⟩)), (5, [], .pointer (some ⟨b, 0, none⟩)), (0, [], .pointer (some ⟨b, 0, none⟩)), (1, [], .string s)]) (nd := (fun S => [(∀ w1, S w1 → w1.cell? ⟨b, 73, none⟩ = some (.int .u64 (total : Int)))])) (by kernel_rfl) (fun _ => by kernel_rfl) ⟨(fun w1 h => h.ocell 0 rfl (st_total hx.hh hx.hb)), trivial⟩ ?_
  refine CfgL.eff (o := _) rfl (by kernel_rfl) (by kernel_rfl) (Eff.store1 (b := b) (off := 73) (v := .int .u64 (((total : Int) + ((s.size : Int) % 18446744073709551616)) % 18446744073709551616)) rfl (by kernel_rfl) (by kernel_rfl) rfl (by kernel_rfl) 0 (cs := (stC z.hs z.bl z.held total)) (e := 67) (by kernel_rfl) (by rw [st_size hx.hh hx.hb]; omega)) ?_
  rintro ⟨⟩ -
  refine CfgL.done rfl ?_
  refine Conv.cfg (Γ' := [(0, [], .pointer (some ⟨b, 0, none⟩)), (1, [], .string s)]) (Conv.mk (by kernel_rfl)) ?_
  refine Cfg.setO (O' := [(b, .cells (stC z.hs z.bl z.held ((total + s.size) % 18446744073709551616)) 67 (0, 0))]) (congrArg (fun (xq : Array Value) => ([(b, .cells xq 67 (0, 0))] : List (Nat × Obj))) (st_setTotal hx.hh hx.hb (by omega))) ?_
  refine Cfg.loop rfl (ι := ByteArray × Sh) (fun (x : ByteArray × Sh) => match x with | (p, y) => [(0, [], .pointer (some ⟨b, 0, none⟩)), (1, [], .string p)]) (fun (x : ByteArray × Sh) => match x with | (p, y) => [(b, .cells (stC y.hs y.bl y.held ((total + s.size) % 18446744073709551616)) 67 (0, 0))]) (fun (x : ByteArray × Sh) => match x with | (p, y) => (y.Ok) ∧ (feed y p.data.toList = feed z s.data.toList)) (fun (x : ByteArray × Sh) => match x with | (p, y) => p.size) (s, z) ?_ (Conv.mk (by kernel_rfl)) (.cons_cons _ .slnil) ?_
  · exact ⟨hx, rfl⟩
  · rintro ⟨p, y⟩ ⟨oky, hf⟩
    obtain ⟨hs, bl, held⟩ := y
    obtain ⟨hh, hb, hlt, hld⟩ := oky
    dsimp only at hh hb hlt hld
    have hcn : cn p held = min p.size (64 - held) := rfl
    refine Cfg.reg rfl [0, 1, 17] [] (Γ' := [(17, [], .bool (decide ((p.size : Int) > (0 : Int)))), (0, [], .pointer (some ⟨b, 0, none⟩)), (1, [], .string p)]) (nd := (fun _ => [])) (fun _ => by kernel_rfl) trivial ?_
    refine Cfg.cond rfl (b := (decide ((p.size : Int) > (0 : Int)))) (by kernel_rfl) (fun c1r => ?_) (fun c1r => ?_)
    · have c1 : ((p.size : Int) > (0 : Int)) := (of_decide_eq_true c1r)
      refine Cfg.begA rfl (by kernel_rfl) [] ?_
      refine CfgA.pure [0, 1, 2, 3, 4, 5, 8] [] none (l' := #[true, true, true, true, true, true, false, false, true, false, false]) (by kernel_rfl) (by kernel_rfl) (.cons _ .slnil) 4 rfl (Γ' := [(26, [], .string p), (23, [], .pointer (some ⟨b, 72, none⟩)), (22, [], .pointer (some ⟨b, 0, none⟩)), (21, [], .pointer (some ⟨b, 0, none⟩)), (20, [], .pointer (some ⟨b, 8, none⟩)), (19, [], .pointer (some ⟨b, 0, none⟩)), (18, [], .pointer (some ⟨b, 0, none⟩)), (17, [], .bool (decide ((p.size : Int) > (0 : Int)))), (0, [], .pointer (some ⟨b, 0, none⟩)), (1, [], .string p)]) (nd := (fun _ => [])) (fun _ => by kernel_rfl) trivial ?_
      refine CfgA.eff 6 (o := _) rfl (by kernel_rfl) (fuel' := 3) rfl (by kernel_rfl) (by kernel_rfl) (Eff.quiet (raw := false) (orc := some (.int .i64 (held : Int))) (v := .int .i64 (held : Int)) (nd := (fun S => [(∀ w1, S w1 → w1.cell? ⟨b, 72, none⟩ = some (.int .i64 (held : Int)))])) (fun _ => by kernel_rfl) ⟨(fun w1 h => h.ocell 0 rfl (st_held hh hb)), trivial⟩ (by kernel_rfl)) (fun _ _ => (.cons _ .slnil)) ?_
      rintro ⟨⟩ -
      refine CfgA.pure [7] [] none (l' := #[true, true, true, true, true, true, true, true, true, false, false]) (by kernel_rfl) (by kernel_rfl) (.cons _ .slnil) 2 rfl (Γ' := [(25, [], .slice (some ⟨b, (if 64 = held then 8 else (addO 8 held)), none⟩) (64 - held) (64 - held)), (24, [], .int .i64 (held : Int)), (26, [], .string p), (23, [], .pointer (some ⟨b, 72, none⟩)), (22, [], .pointer (some ⟨b, 0, none⟩)), (21, [], .pointer (some ⟨b, 0, none⟩)), (20, [], .pointer (some ⟨b, 8, none⟩)), (19, [], .pointer (some ⟨b, 0, none⟩)), (18, [], .pointer (some ⟨b, 0, none⟩)), (17, [], .bool (decide ((p.size : Int) > (0 : Int)))), (0, [], .pointer (some ⟨b, 0, none⟩)), (1, [], .string p)]) (nd := (fun _ => [(0 ≤ (held : Int)), (held ≤ 64 ∧ 64 ≤ 64)])) (fun _ => by kernel_rfl) ⟨(by omega), (by omega), trivial⟩ ?_
      refine CfgA.eff 9 (o := _) rfl (by kernel_rfl) (fuel' := 1) rfl (by kernel_rfl) (by kernel_rfl) (Eff.copyS rfl Tryd.underlying46 (by kernel_rfl) (b := b) (off := (if 64 = held then 8 else (addO 8 held))) (dl := ((64 - held))) (c := ((64 - held))) (by kernel_rfl) (s := p) (by kernel_rfl) 0 (cs := (stC hs bl held ((total + s.size) % 18446744073709551616))) (te := 67) (by kernel_rfl) (cn p held) rfl (by rw [off_eq hld, st_size hh hb]; omega)) (fun _ _ => (.cons _ .slnil)) ?_
      rintro ⟨⟩ -
      refine CfgA.pure [10] [] (some [0, 1, 4]) (l' := #[true, true, true, true, true, true, true, true, true, true, true]) (by kernel_rfl) (by kernel_rfl) (.cons _ .slnil) 0 rfl (Γ' := [(4, [], .int .i64 ((cn p held) : Int)), (0, [], .pointer (some ⟨b, 0, none⟩)), (1, [], .string p)]) (nd := (fun _ => [])) (fun _ => by kernel_rfl) trivial ?_
      refine CfgA.done (by kernel_rfl) ?_
      refine Cfg.setO (O' := [(b, .cells (stC hs (lay bl held (p.data.toList.take (cn p held))) held ((total + s.size) % 18446744073709551616)) 67 (0, 0))]) (congrArg (fun (xq : Array Value) => ([(b, .cells xq 67 (0, 0))] : List (Nat × Obj))) (by rw [off_eq hld]; exact spl_lay _ hh hb (by rw [part_len (by omega)]; omega))) ?_
      refine Cfg.reg rfl [0, 1, 4] [] (Γ' := [(1, [], .string (p.extract (((cn p held))) p.size)), (4, [], .int .i64 ((cn p held) : Int)), (0, [], .pointer (some ⟨b, 0, none⟩))]) (nd := (fun _ => [(0 ≤ ((cn p held) : Int)), (((cn p held)) ≤ p.size ∧ p.size ≤ p.size)])) (fun _ => by kernel_rfl) ⟨(by omega), (by omega), trivial⟩ ?_
      refine Cfg.begL rfl ?_
      refine CfgL.pure 8 [(0, false, none), (0, false, none), (0, false, none), (0, false, some (.int .i64 (held : Int)))] none (Γ' := [(38, [], .pointer (some ⟨b, 72, none⟩)), (37, [], .pointer (some ⟨b, 0, none⟩)), (36, [], .int .i64 ((held : Int) + ((cn p held) : Int))), (35, [], .int .i64 ((cn p held) : Int)), (34, [], .int .i64 (held : Int)), (33, [], .pointer (some ⟨b, 72, none⟩)), (32, [], .pointer (some ⟨b, 0, none⟩)), (31, [], .pointer (some ⟨b, 0, none⟩)), (1, [], .string (p.extract (((cn p held))) p.size)), (4, [], .int .i64 ((cn p held) : Int)), (0, [], .pointer (some ⟨b, 0, none⟩))]) (nd := (fun S => [(∀ w1, S w1 → w1.cell? ⟨b, 72, none⟩ = some (.int .i64 (held : Int))), ((-9223372036854775808 : Int) ≤ ((held : Int) + ((cn p held) : Int)) ∧ ((held : Int) + ((cn p held) : Int)) ≤ 9223372036854775807)])) (by kernel_rfl) (fun _ => by kernel_rfl) ⟨(fun w1 h => h.ocell 0 rfl (st_held hh ((lay_len _ _ _).trans hb))), (by omega), trivial⟩ ?_
      refine CfgL.eff (o := _) rfl (by kernel_rfl) (by kernel_rfl) (Eff.store1 (b := b) (off := 72) (v := .int .i64 ((held : Int) + ((cn p held) : Int))) rfl (by kernel_rfl) (by kernel_rfl) rfl (by kernel_rfl) 0 (cs := (stC hs (lay bl held (p.data.toList.take (cn p held))) held ((total + s.size) % 18446744073709551616))) (e := 67) (by kernel_rfl) (by rw [st_size hh ((lay_len _ _ _).trans hb)]; omega)) ?_
      rintro ⟨⟩ -
      refine CfgL.done rfl ?_
      refine Conv.cfg (Γ' := [(1, [], .string (p.extract (((cn p held))) p.size)), (0, [], .pointer (some ⟨b, 0, none⟩))]) (Conv.mk (by kernel_rfl)) ?_
      refine Cfg.setO (O' := [(b, .cells (stC hs (lay bl held (p.data.toList.take (cn p held))) (held + (cn p held)) ((total + s.size) % 18446744073709551616)) 67 (0, 0))]) (congrArg (fun (xq : Array Value) => ([(b, .cells xq 67 (0, 0))] : List (Nat × Obj))) (st_setHeld hh ((lay_len _ _ _).trans hb) (by omega))) ?_
      refine Cfg.reg rfl [0, 1, 43] [(0, false, none), (0, false, none), (0, false, none), (0, false, some (.int .i64 ((held + (cn p held)) : Int)))] (Γ' := [(43, [], .bool (((held + (cn p held)) : Int) == (64 : Int))), (1, [], .string (p.extract (((cn p held))) p.size)), (0, [], .pointer (some ⟨b, 0, none⟩))]) (nd := (fun S => [(∀ w1, S w1 → w1.cell? ⟨b, 72, none⟩ = some (.int .i64 ((held + (cn p held)) : Int)))])) (fun _ => by kernel_rfl) ⟨(fun w1 h => h.ocell 0 rfl (st_held hh ((lay_len _ _ _).trans hb))), trivial⟩ ?_
      refine Cfg.cond rfl (b := (((held + (cn p held)) : Int) == (64 : Int))) (by kernel_rfl) (fun c2r => ?_) (fun c2r => ?_)
      · have c2 : (((held + (cn p held)) : Int) = (64 : Int)) := (beq_iff_eq.1 c2r)
        refine Cfg.begL rfl ?_
        refine CfgL.pure 1 [] none (Γ' := [(44, [], .pointer (some ⟨b, 0, none⟩)), (43, [], .bool (((held + (cn p held)) : Int) == (64 : Int))), (1, [], .string (p.extract (((cn p held))) p.size)), (0, [], .pointer (some ⟨b, 0, none⟩))]) (nd := (fun _ => [])) (by kernel_rfl) (fun _ => by kernel_rfl) trivial ?_
        refine CfgL.eff (o := _) rfl (by kernel_rfl) (by kernel_rfl) (Eff.callM (vs := [.pointer (some ⟨b, 0, none⟩)]) (.tuple #[]) 0 (b := b) (ob := .cells (stC hs (lay bl held (p.data.toList.take (cn p held))) (held + (cn p held)) ((total + s.size) % 18446744073709551616)) 67 (0, 0)) (.cells (stC (mixF hs (lay bl held (p.data.toList.take (cn p held)))) (lay bl held (p.data.toList.take (cn p held))) (held + (cn p held)) ((total + s.size) % 18446744073709551616)) 67 (0, 0)) rfl Tryd.func28 rfl rfl (by kernel_rfl) (by kernel_rfl) (fun w1 h => shaMix b hs (lay bl held (p.data.toList.take (cn p held))) (held + (cn p held)) ((total + s.size) % 18446744073709551616) w1 hh ((lay_len _ _ _).trans hb) hlt (h.hasR (fun e he => he)) (h.own _ (List.mem_cons_self ..)) hne)) ?_
        rintro ⟨⟩ -
        refine CfgL.done rfl ?_
        refine Conv.cfg (Γ' := [(1, [], .string (p.extract (((cn p held))) p.size)), (0, [], .pointer (some ⟨b, 0, none⟩))]) (Conv.mk (by kernel_rfl)) ?_
        refine Cfg.begL rfl ?_
        refine CfgL.pure 3 [] none (Γ' := [(48, [], .pointer (some ⟨b, 72, none⟩)), (47, [], .pointer (some ⟨b, 0, none⟩)), (46, [], .pointer (some ⟨b, 0, none⟩)), (1, [], .string (p.extract (((cn p held))) p.size)), (0, [], .pointer (some ⟨b, 0, none⟩))]) (nd := (fun _ => [])) (by kernel_rfl) (fun _ => by kernel_rfl) trivial ?_
        refine CfgL.eff (o := _) rfl (by kernel_rfl) (by kernel_rfl) (Eff.store1 (b := b) (off := 72) (v := .int .i64 0) rfl (by kernel_rfl) (by kernel_rfl) rfl (by kernel_rfl) 0 (cs := (stC (mixF hs (lay bl held (p.data.toList.take (cn p held)))) (lay bl held (p.data.toList.take (cn p held))) (held + (cn p held)) ((total + s.size) % 18446744073709551616))) (e := 67) (by kernel_rfl) (by rw [st_size (mixF_len _ hh) ((lay_len _ _ _).trans hb)]; omega)) ?_
        rintro ⟨⟩ -
        refine CfgL.done rfl ?_
        refine Conv.cfg (Γ' := [(1, [], .string (p.extract (((cn p held))) p.size)), (0, [], .pointer (some ⟨b, 0, none⟩))]) (Conv.mk (by kernel_rfl)) ?_
        have hfull : held + (cn p held) = 64 := by omega
        have hfd := feed_full (p.data.toList.take (cn p held)) hs bl held hld (by rw [part_len (by omega)]; omega)
        refine Cfg.setO (O' := [(b, .cells (stC (mixF hs (lay bl held (p.data.toList.take (cn p held)))) (lay bl held (p.data.toList.take (cn p held))) 0 ((total + s.size) % 18446744073709551616)) 67 (0, 0))]) (congrArg (fun (xq : Array Value) => ([(b, .cells xq 67 (0, 0))] : List (Nat × Obj))) (st_setHeld (mixF_len _ hh) ((lay_len _ _ _).trans hb) rfl)) ?_
        refine Cfg.again rfl (p.extract (cn p held) p.size, ⟨mixF hs (lay bl held (p.data.toList.take (cn p held))), (lay bl held (p.data.toList.take (cn p held))), 0⟩) ⟨by rw [← hfd]; exact feed_ok _ ⟨hh, hb, hlt, hld⟩, by rw [← hfd, feed_ext]; exact hf⟩ (by show (p.extract (cn p held) p.size).size < p.size; rw [ext_size _ _ (by omega)]; omega) (Conv.mk (by kernel_rfl)) (.cons_cons _ .slnil)
      · have c2 : (((held + (cn p held)) : Int) ≠ (64 : Int)) := (beq_eq_false_iff_ne.1 c2r)
        have hpart : held + (cn p held) < 64 := by omega
        have hfd := feed_part (p.data.toList.take (cn p held)) hs bl held (by rw [part_len (by omega)]; omega)
        rw [part_len (by omega)] at hfd
        refine Cfg.again rfl (p.extract (cn p held) p.size, ⟨hs, (lay bl held (p.data.toList.take (cn p held))), held + (cn p held)⟩) ⟨by rw [← hfd]; exact feed_ok _ ⟨hh, hb, hlt, hld⟩, by rw [← hfd, feed_ext]; exact hf⟩ (by show (p.extract (cn p held) p.size).size < p.size; rw [ext_size _ _ (by omega)]; omega) (Conv.mk (by kernel_rfl)) (.cons_cons _ .slnil)
    · have c1 : (¬ ((p.size : Int) > (0 : Int))) := (of_decide_eq_false c1r)
      refine Cfg.fin rfl (rs := []) rfl [] trivial (fun w1 hp => ?_)
      have hp0 : p.size = 0 := by omega
      have hnil : p.data.toList = [] := List.eq_nil_of_length_eq_zero (by simpa using hp0)
      rw [hnil, feed_nil] at hf
      rw [← hf]
      exact ⟨rfl, hp.ext, hp.own (b, _) (List.mem_cons_self ..)⟩

end Go.Proofs.YtphnkangpboplaaDoor
