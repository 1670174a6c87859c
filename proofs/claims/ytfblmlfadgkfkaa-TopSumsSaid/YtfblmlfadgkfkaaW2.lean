/- Walks: sums, 2. -/
import Derived.Test.YtfblmlfadgkfkaaProg
import Derived.Test.YtfblmlfadgkfkaaBase
import Derived.Test.YtfblmlfadgkfkaaSumsP
import Derived.Test.YtfblmlfadgkfkaaW1
set_option linter.unusedVariables false
namespace Go.Proofs.Ytfblmlfadgkfkaa
open Go.RowKit
theorem and_u64_65535 (n : Int) (h0 : 0 ≤ n) (h1 : n ≤ 18446744073709551615) : bits .and .u64 n 65535 = n % 65536 := by
  rw [u64_and n 65535 h0 (by omega) (by decide) (by decide)]
  have : (65535 : Int).toNat = 2 ^ 16 - 1 := by decide
  rw [this, Nat.and_two_pow_sub_one_eq_mod]
  omega
theorem fold_step (n : Int) (h0 : 65535 < n) (h1 : n ≤ 18446744073709551615) : ∃ m : Int, IntKind.u64.wrap (n / 65536 + bits .and .u64 n 65535) = m ∧ 0 ≤ m ∧ m < n ∧ Sm.canon m = Sm.canon n := by
  refine ⟨_, rfl, ?_⟩
  rw [and_u64_65535 n (by omega) h1, IntKind.wrap_u64, Int.emod_eq_of_lt (by omega) (by omega)]
  refine ⟨by omega, by omega, ?_⟩
  unfold Sm.canon
  rw [if_neg (by omega), if_neg (by omega)]
  omega
theorem canon_bd (n : Int) : 0 ≤ Sm.canon n ∧ Sm.canon n ≤ 65535 := by unfold Sm.canon; split <;> omega
theorem canon_low (n : Int) (h0 : 0 ≤ n) (h1 : n ≤ 65535) : Sm.canon n = n := by unfold Sm.canon; split <;> omega
set_option maxHeartbeats 400000 in
theorem fold_any (n0 : Int) (w : World) (h0 : 0 ≤ n0) (h1 : n0 ≤ 18446744073709551615) :
    Calls Try.prog 24 #[.int .u64 n0] w fun e w' => e = .returned (.int .u16 (Sm.canon n0)) ∧ w = w' := by
  go_enter Try.func24, Try.ntmps24
  go_wp2
  go_loop [0] (fun t => ∃ (n : Int), 0 ≤ n ∧ n ≤ n0 ∧ Sm.canon n = Sm.canon n0 ∧ t = .int .u64 n)
                 (fun t => (intOf t).toNat)
  case atStart => exact ⟨n0, by omega, by omega, rfl, rfl⟩
  case round =>
    obtain ⟨n, hn0, hn1, hc, rfl⟩ := hrel
    have HC := Lib.hid hc
    clear hc
    have h2 : n ≤ 18446744073709551615 := by omega
    by_cases h3 : 65535 < n
    · obtain ⟨m, hm, h4, h5, h6⟩ := fold_step n h3 h2
      have HM := Lib.hid hm
      have H6 := Lib.hid h6
      clear hm h6
      go_wp2
      rw [HM.out]
      go_round
      case rel => exact ⟨m, h4, by omega, by rw [H6.out, HC.out], rfl⟩
      case measure => simp [intOf]; omega
    · go_wp2
      go_ret
      exact ⟨ret_int (by rw [← HC.out, canon_low n hn0 (by omega)]), rfl⟩
theorem fold_at (m n0 : Int) (w : World) (e : m = n0) (h0 : 0 ≤ n0) (h1 : n0 ≤ 18446744073709551615) :
    Calls Try.prog 24 #[.int .u64 m] w fun e w' => e = .returned (.int .u16 (Sm.canon n0)) ∧ w = w' := by subst e; exact fold_any m w h0 h1
theorem xor_u16_max (s : Int) (h0 : 0 ≤ s) (h1 : s ≤ 65535) : bits .xor .u16 IntKind.u16.max s = 65535 - s := by
  have hm : IntKind.u16.max = 65535 := by decide
  rw [hm, u16_xor 65535 s (by decide) (by decide) h0 (by omega)]
  have h : (65535 : Int).toNat ^^^ s.toNat = 2 ^ 16 - (s.toNat + 1) := by
    apply Nat.eq_of_testBit_eq
    intro i
    rw [Nat.testBit_xor, Nat.testBit_two_pow_sub_succ (by omega), show (65535 : Int).toNat = 2 ^ 16 - 1 from by decide, Nat.testBit_two_pow_sub_one]
    by_cases hi : i < 16
    · simp [hi]
    · have : s.toNat.testBit i = false := Nat.testBit_lt_two_pow (Nat.lt_of_lt_of_le (show s.toNat < 2 ^ 16 by omega) (Nat.pow_le_pow_right (by decide) (by omega)))
      simp [hi, this]
  rw [h]; omega
theorem turn_any (s o n : Int) (w : World) (h0 : 0 ≤ s) (h1 : s ≤ 65535) (h2 : 0 ≤ o) (h3 : o ≤ 65535) (h4 : 0 ≤ n) (h5 : n ≤ 65535) :
    Calls Try.prog 28 #[.int .u16 s, .int .u16 o, .int .u16 n] w fun e w' => e = .returned (.int .u16 (65535 - Sm.canon (65535 - s + (65535 - o) + n))) ∧ w = w' := by
  obtain ⟨hb0, hb1⟩ := canon_bd (65535 - s + (65535 - o) + n)
  go_enter Try.func28, Try.ntmps28
  go_wp2_with fail
  refine (fold_at _ (65535 - s + (65535 - o) + n) _ (by rw [xor_u16_max s h0 h1, xor_u16_max o h2 h3]; simp only [IntKind.wrap_u64]; omega) (by omega) (by omega)).mono ?_
  rintro e w' ⟨rfl, rfl⟩
  go_wp2_with fail
  go_ret
  exact ⟨ret_int (by rw [xor_u16_max _ hb0 hb1]), rfl⟩
theorem turn_at (s o n s' o' n' : Int) (w : World) (es : s' = s) (eo : o' = o) (en : n' = n) (h0 : 0 ≤ s) (h1 : s ≤ 65535) (h2 : 0 ≤ o) (h3 : o ≤ 65535) (h4 : 0 ≤ n) (h5 : n ≤ 65535) :
    Calls Try.prog 28 #[.int .u16 s', .int .u16 o', .int .u16 n'] w fun e w' => e = .returned (.int .u16 (65535 - Sm.canon (65535 - s + (65535 - o) + n))) ∧ w = w' := by
  subst es eo en; exact turn_any _ _ _ w h0 h1 h2 h3 h4 h5
theorem turn32_any (s o n : Int) (w : World) (h0 : 0 ≤ s) (h1 : s ≤ 65535) (h2 : 0 ≤ o) (h3 : o ≤ 4294967295) (h4 : 0 ≤ n) (h5 : n ≤ 4294967295) :
    Calls Try.prog 29 #[.int .u16 s, .int .u32 o, .int .u32 n] w fun e w' => e = .returned (.int .u16 (65535 - Sm.canon (Sm.canon (65535 - s + (65535 - o / 65536) + n / 65536) + (65535 - o % 65536) + n % 65536))) ∧ w = w' := by
  obtain ⟨hb0, hb1⟩ := canon_bd (65535 - s + (65535 - o / 65536) + n / 65536)
  go_enter Try.func29, Try.ntmps29
  go_wp2_with fail
  refine (turn_at s (o / 65536) (n / 65536) _ _ _ _ rfl (by first | omega | (simp only [IntKind.wrap_u16]; try omega)) (by first | omega | (simp only [IntKind.wrap_u16]; try omega)) (by omega) (by omega) (by omega) (by omega) (by omega) (by omega)).mono ?_
  rintro e w' ⟨rfl, rfl⟩
  go_wp2_with fail
  refine (turn_at (65535 - Sm.canon (65535 - s + (65535 - o / 65536) + n / 65536)) (o % 65536) (n % 65536) _ _ _ _ rfl (by first | omega | (simp only [IntKind.wrap_u16]; try omega)) (by first | omega | (simp only [IntKind.wrap_u16]; try omega)) (by omega) (by omega) (by omega) (by omega) (by omega) (by omega)).mono ?_
  rintro e w' ⟨rfl, rfl⟩
  go_wp2_with fail
  go_ret
  exact ⟨ret_int (by rw [show ∀ x : Int, 65535 - (65535 - x) = x from by intro x; omega]), rfl⟩
end Go.Proofs.Ytfblmlfadgkfkaa
