/- Walks: the sip sum. -/
import Derived.Test.YtfblmlfadgkfkaaProg
import Derived.Test.YtfblmlfadgkfkaaBase
import Derived.Test.YtfblmlfadgkfkaaSipP
import Derived.StillTailTactics
set_option linter.unusedVariables false
namespace Go.Proofs.Ytfblmlfadgkfkaa
open Go.RowKit
theorem and_u64_63 (n : Int) (h0 : 0 ≤ n) (h1 : n ≤ 18446744073709551615) : bits .and .u64 n 63 = n % 64 := by
  rw [u64_and n 63 h0 (by omega) (by decide) (by decide)]
  have : (63 : Int).toNat = 2 ^ 6 - 1 := by decide
  rw [this, Nat.and_two_pow_sub_one_eq_mod]
  omega
set_option maxRecDepth 100000 in
theorem rotl_any (x : Int) (k : Nat) (w : World) (hx : Sip.U x) (h0 : 0 < k) (h1 : k < 64) :
    Calls Try.prog 281 #[.int .u64 x, .int .i64 k] w fun e w' => e = .returned (.int .u64 (Sip.rot x k)) ∧ w = w' := by
  obtain ⟨hx0, hx1⟩ := hx
  have ha : bits .and .u64 (k : Int) 63 = (k : Int) := by rw [and_u64_63 k (by omega) (by omega)]; omega
  go_enter Try.func281, Try.ntmps281
  go_wp2
  go_ret
  exact ⟨rfl, rfl⟩
/-- The state's four cells. -/
def StAt (w : World) (b : Nat) (s : Sip.St) : Prop :=
  w.heap[b]? = some (.cells #[.int .u64 s.a, .int .u64 s.b, .int .u64 s.c, .int .u64 s.d] 319 (0, 0))
theorem StAt.cells {w : World} {b : Nat} {s : Sip.St} (h : StAt w b s) :
    (w.cell? ⟨b, 0, none⟩ = some (.int .u64 s.a) ∧ w.cell? ⟨b, 1, none⟩ = some (.int .u64 s.b) ∧ w.cell? ⟨b, 2, none⟩ = some (.int .u64 s.c) ∧ w.cell? ⟨b, 3, none⟩ = some (.int .u64 s.d)) ∧
    w.frozen? ⟨b, 0, none⟩ = false ∧ w.frozen? ⟨b, 1, none⟩ = false ∧ w.frozen? ⟨b, 2, none⟩ = false ∧ w.frozen? ⟨b, 3, none⟩ = false :=
  ⟨⟨by rw [(block_cell h 0).1]; rfl, by rw [(block_cell h 1).1]; rfl, by rw [(block_cell h 2).1]; rfl, by rw [(block_cell h 3).1]; rfl⟩, (block_cell h 0).2, (block_cell h 1).2, (block_cell h 2).2, (block_cell h 3).2⟩
/-- One step of a round, on the four numbers. -/
def ops (s : Sip.St) : Nat → Sip.St
  | 0 => ⟨Sip.add64 s.a s.b, s.b, s.c, s.d⟩
  | 1 => ⟨s.a, Sip.xor64 (Sip.rot s.b 13) s.a, s.c, s.d⟩
  | 2 => ⟨Sip.rot s.a 32, s.b, s.c, s.d⟩
  | 3 => ⟨s.a, s.b, Sip.add64 s.c s.d, s.d⟩
  | 4 => ⟨s.a, s.b, s.c, Sip.xor64 (Sip.rot s.d 16) s.c⟩
  | 5 => ⟨Sip.add64 s.a s.d, s.b, s.c, s.d⟩
  | 6 => ⟨s.a, s.b, s.c, Sip.xor64 (Sip.rot s.d 21) s.a⟩
  | 7 => ⟨s.a, s.b, Sip.add64 s.c s.b, s.d⟩
  | 8 => ⟨s.a, Sip.xor64 (Sip.rot s.b 17) s.c, s.c, s.d⟩
  | _ => ⟨s.a, s.b, Sip.rot s.c 32, s.d⟩
theorem ops_u {s : Sip.St} (h : s.U) (n : Nat) : (ops s n).U := by
  obtain ⟨h1, h2, h3, h4⟩ := h
  unfold ops
  split
  · exact ⟨Sip.add64_u _ _, h2, h3, h4⟩
  · exact ⟨h1, Sip.xor64_u (Sip.rot_u h2 _) h1, h3, h4⟩
  · exact ⟨Sip.rot_u h1 _, h2, h3, h4⟩
  · exact ⟨h1, h2, Sip.add64_u _ _, h4⟩
  · exact ⟨h1, h2, h3, Sip.xor64_u (Sip.rot_u h4 _) h3⟩
  · exact ⟨Sip.add64_u _ _, h2, h3, h4⟩
  · exact ⟨h1, h2, h3, Sip.xor64_u (Sip.rot_u h4 _) h1⟩
  · exact ⟨h1, h2, Sip.add64_u _ _, h4⟩
  · exact ⟨h1, Sip.xor64_u (Sip.rot_u h2 _) h3, h3, h4⟩
  · exact ⟨h1, h2, Sip.rot_u h3 _, h4⟩
theorem round_ops (s : Sip.St) : ops (ops (ops (ops (ops (ops (ops (ops (ops (ops s 0) 1) 2) 3) 4) 5) 6) 7) 8) 9 = Sip.round s := rfl
theorem rotl_st (x : Int) (k : Nat) (w : World) (hx : Sip.U x) (h0 : 0 < k) (h1 : k < 64) :
    Calls Try.prog 281 #[.int .u64 x, .int .i64 k] w fun e w' => e = .returned (.int .u64 (Sip.rot x k)) ∧ w' = w :=
  (rotl_any x k w hx h0 h1).mono fun e w' h => ⟨h.1, h.2.symm⟩
set_option maxRecDepth 100000 in
set_option maxHeartbeats 4000000 in
theorem round_any (b n : Nat) (s0 : Sip.St) (w : World) (hs : s0.U) (h : StAt w b s0) (hn : n ≤ 100) :
    Calls Try.prog 233 #[.pointer (some ⟨b, 0, none⟩), .int .i64 n] w fun e w' => e = .returned (.tuple #[]) ∧ StAt w' b (Sip.rounds n s0) ∧ Upd w w' b := by
  have H := Lib.hid h
  have HU := Lib.hid hs
  clear h hs
  go_enter Try.func233, Try.ntmps233
  go_wp2
  go_loopw [5] (fun i wr => ∃ (k : Nat), k ≤ n ∧ i = .int .i64 k ∧ StAt wr b (Sip.rounds k s0) ∧ Upd w wr b)
                 (fun i _ => n - (intOf i).toNat)
  case atStart => exact ⟨0, by omega, rfl, H.out, Upd.refl _ _⟩
  case round =>
    obtain ⟨k, hk, rfl, hst0, hupd0⟩ := hrel
    have HR := Lib.hid (And.intro hst0 hupd0)
    clear hst0 hupd0
    by_cases hlt : k < n
    · go_wp2_with fail
      have hs0 := Sip.rounds_u HU.out k
      have HE := Lib.hid (show Sip.rounds (k + 1) s0 = Sip.round (Sip.rounds k s0) from rfl)
      generalize Sip.rounds k s0 = s at *
      refine cut_world (fun W => StAt W b s ∧ Upd w W b) HR.out ?_
      clear HR
      -- step 0
      rintro W ⟨hst, hupd⟩
      obtain ⟨⟨c0, c1, c2, c3⟩, f0, f1, f2, f3⟩ := hst.cells
      have HST := Lib.hid hst
      clear hst
      go_still_tail 9, (by kernel_rfl)
      go_wp2_with fail
      refine cut_world (fun W => StAt W b (ops s 0) ∧ Upd w W b) (by first | exact ⟨block_set HST.out 0 _, hupd.set _ _⟩ | exact ⟨block_set HST.out 0 _, (hupd.set _ _).drew⟩) ?_
      clear c0 c1 c2 c3 f0 f1 f2 f3 HST hupd
      have hs1 := ops_u hs0 0
      -- step 1
      rintro W ⟨hst, hupd⟩
      obtain ⟨⟨c0, c1, c2, c3⟩, f0, f1, f2, f3⟩ := hst.cells
      have HST := Lib.hid hst
      clear hst
      refine wp_region_still_tail 11 (by kernel_rfl) (by kernel_rfl) ?_
      simp only [List.take_succ_cons, List.take_zero, List.drop_succ_cons, List.drop_zero]
      repeat still_step
      still_call (rotl_st _ 13 _ hs1.2.1 (by decide) (by decide))
      repeat still_step
      refine wpStill_nil ?_
      change wpList _ _ _ _ _ W.drew
      go_upto_region 4 with fail
      refine cut_world (fun W => StAt W b (ops (ops s 0) 1) ∧ Upd w W b) (by first | exact ⟨block_set HST.out 1 _, hupd.set _ _⟩ | exact ⟨block_set HST.out 1 _, (hupd.set _ _).drew⟩) ?_
      clear c0 c1 c2 c3 f0 f1 f2 f3 HST hupd
      have hs2 := ops_u hs1 1
      -- step 2
      rintro W ⟨hst, hupd⟩
      obtain ⟨⟨c0, c1, c2, c3⟩, f0, f1, f2, f3⟩ := hst.cells
      have HST := Lib.hid hst
      clear hst
      go_wp2_with (go_at_call 281; refine (rotl_any _ 32 _ hs2.1 (by decide) (by decide)).mono ?_; rintro e w' ⟨rfl, rfl⟩)
      refine cut_world (fun W => StAt W b (ops (ops (ops s 0) 1) 2) ∧ Upd w W b) (by first | exact ⟨block_set HST.out 0 _, hupd.set _ _⟩ | exact ⟨block_set HST.out 0 _, (hupd.set _ _).drew⟩) ?_
      clear c0 c1 c2 c3 f0 f1 f2 f3 HST hupd
      have hs3 := ops_u hs2 2
      -- step 3
      rintro W ⟨hst, hupd⟩
      obtain ⟨⟨c0, c1, c2, c3⟩, f0, f1, f2, f3⟩ := hst.cells
      have HST := Lib.hid hst
      clear hst
      go_still_tail 9, (by kernel_rfl)
      go_wp2_with fail
      refine cut_world (fun W => StAt W b (ops (ops (ops (ops s 0) 1) 2) 3) ∧ Upd w W b) (by first | exact ⟨block_set HST.out 2 _, hupd.set _ _⟩ | exact ⟨block_set HST.out 2 _, (hupd.set _ _).drew⟩) ?_
      clear c0 c1 c2 c3 f0 f1 f2 f3 HST hupd
      have hs4 := ops_u hs3 3
      -- step 4
      rintro W ⟨hst, hupd⟩
      obtain ⟨⟨c0, c1, c2, c3⟩, f0, f1, f2, f3⟩ := hst.cells
      have HST := Lib.hid hst
      clear hst
      refine wp_region_still_tail 11 (by kernel_rfl) (by kernel_rfl) ?_
      simp only [List.take_succ_cons, List.take_zero, List.drop_succ_cons, List.drop_zero]
      repeat still_step
      still_call (rotl_st _ 16 _ hs4.2.2.2 (by decide) (by decide))
      repeat still_step
      refine wpStill_nil ?_
      change wpList _ _ _ _ _ W.drew
      go_wp2_with fail
      refine cut_world (fun W => StAt W b (ops (ops (ops (ops (ops s 0) 1) 2) 3) 4) ∧ Upd w W b) (by first | exact ⟨block_set HST.out 3 _, hupd.set _ _⟩ | exact ⟨block_set HST.out 3 _, (hupd.set _ _).drew⟩) ?_
      clear c0 c1 c2 c3 f0 f1 f2 f3 HST hupd
      have hs5 := ops_u hs4 4
      -- step 5
      rintro W ⟨hst, hupd⟩
      obtain ⟨⟨c0, c1, c2, c3⟩, f0, f1, f2, f3⟩ := hst.cells
      have HST := Lib.hid hst
      clear hst
      go_still_tail 9, (by kernel_rfl)
      go_wp2_with fail
      refine cut_world (fun W => StAt W b (ops (ops (ops (ops (ops (ops s 0) 1) 2) 3) 4) 5) ∧ Upd w W b) (by first | exact ⟨block_set HST.out 0 _, hupd.set _ _⟩ | exact ⟨block_set HST.out 0 _, (hupd.set _ _).drew⟩) ?_
      clear c0 c1 c2 c3 f0 f1 f2 f3 HST hupd
      have hs6 := ops_u hs5 5
      -- step 6
      rintro W ⟨hst, hupd⟩
      obtain ⟨⟨c0, c1, c2, c3⟩, f0, f1, f2, f3⟩ := hst.cells
      have HST := Lib.hid hst
      clear hst
      refine wp_region_still_tail 11 (by kernel_rfl) (by kernel_rfl) ?_
      simp only [List.take_succ_cons, List.take_zero, List.drop_succ_cons, List.drop_zero]
      repeat still_step
      still_call (rotl_st _ 21 _ hs6.2.2.2 (by decide) (by decide))
      repeat still_step
      refine wpStill_nil ?_
      change wpList _ _ _ _ _ W.drew
      go_wp2_with fail
      refine cut_world (fun W => StAt W b (ops (ops (ops (ops (ops (ops (ops s 0) 1) 2) 3) 4) 5) 6) ∧ Upd w W b) (by first | exact ⟨block_set HST.out 3 _, hupd.set _ _⟩ | exact ⟨block_set HST.out 3 _, (hupd.set _ _).drew⟩) ?_
      clear c0 c1 c2 c3 f0 f1 f2 f3 HST hupd
      have hs7 := ops_u hs6 6
      -- step 7
      rintro W ⟨hst, hupd⟩
      obtain ⟨⟨c0, c1, c2, c3⟩, f0, f1, f2, f3⟩ := hst.cells
      have HST := Lib.hid hst
      clear hst
      go_still_tail 9, (by kernel_rfl)
      go_wp2_with fail
      refine cut_world (fun W => StAt W b (ops (ops (ops (ops (ops (ops (ops (ops s 0) 1) 2) 3) 4) 5) 6) 7) ∧ Upd w W b) (by first | exact ⟨block_set HST.out 2 _, hupd.set _ _⟩ | exact ⟨block_set HST.out 2 _, (hupd.set _ _).drew⟩) ?_
      clear c0 c1 c2 c3 f0 f1 f2 f3 HST hupd
      have hs8 := ops_u hs7 7
      -- step 8
      rintro W ⟨hst, hupd⟩
      obtain ⟨⟨c0, c1, c2, c3⟩, f0, f1, f2, f3⟩ := hst.cells
      have HST := Lib.hid hst
      clear hst
      refine wp_region_still_tail 11 (by kernel_rfl) (by kernel_rfl) ?_
      simp only [List.take_succ_cons, List.take_zero, List.drop_succ_cons, List.drop_zero]
      repeat still_step
      still_call (rotl_st _ 17 _ hs8.2.1 (by decide) (by decide))
      repeat still_step
      refine wpStill_nil ?_
      change wpList _ _ _ _ _ W.drew
      go_upto_region 11 with fail
      refine cut_world (fun W => StAt W b (ops (ops (ops (ops (ops (ops (ops (ops (ops s 0) 1) 2) 3) 4) 5) 6) 7) 8) ∧ Upd w W b) (by first | exact ⟨block_set HST.out 1 _, hupd.set _ _⟩ | exact ⟨block_set HST.out 1 _, (hupd.set _ _).drew⟩) ?_
      clear c0 c1 c2 c3 f0 f1 f2 f3 HST hupd
      have hs9 := ops_u hs8 8
      -- step 9
      rintro W ⟨hst, hupd⟩
      obtain ⟨⟨c0, c1, c2, c3⟩, f0, f1, f2, f3⟩ := hst.cells
      have HST := Lib.hid hst
      clear hst
      go_upto_region 12 with (go_at_call 281; refine (rotl_any _ 32 _ hs9.2.2.1 (by decide) (by decide)).mono ?_; rintro e w' ⟨rfl, rfl⟩)
      refine cut_world (fun W => StAt W b (ops (ops (ops (ops (ops (ops (ops (ops (ops (ops s 0) 1) 2) 3) 4) 5) 6) 7) 8) 9) ∧ Upd w W b) (by first | exact ⟨block_set HST.out 2 _, hupd.set _ _⟩ | exact ⟨block_set HST.out 2 _, (hupd.set _ _).drew⟩) ?_
      clear c0 c1 c2 c3 f0 f1 f2 f3 HST hupd
      rintro W ⟨hst, hupd⟩
      go_wp2
      go_roundw
      case rel => exact ⟨k + 1, by omega, by go_num, by rw [HE.out]; exact hst, hupd⟩
      case measure => simp [intOf]; omega
    · obtain rfl : k = n := by omega
      go_wp2
      go_end0
      exact ⟨rfl, HR.out⟩
end Go.Proofs.Ytfblmlfadgkfkaa
