/- Walks: sums. -/
import Derived.Test.YtfblmlfadgkfkaaProg
import Derived.Test.YtfblmlfadgkfkaaBase
import Derived.Test.YtfblmlfadgkfkaaSumsP
set_option linter.unusedVariables false
namespace Go.Proofs.Ytfblmlfadgkfkaa
open Go.RowKit
theorem ret_int {k : IntKind} {a b : Int} (h : a = b) : Ending.returned (.int k a) = .returned (.int k b) := by rw [h]

/-! onesOf -/
theorem ones_snoc (xs : List Int) (k : Nat) (hk : k < xs.length) : Sm.ones 0 0 (xs.take (k + 1)) = Sm.step k (Sm.ones 0 0 (xs.take k)) (xs.getD k 0) := by
  have gen : ∀ (l : List Int) (i : Nat) (n x : Int), Sm.ones i n (l ++ [x]) = Sm.step (i + l.length) (Sm.ones i n l) x := by
    intro l
    induction l with
    | nil => intro i n x; simp [Sm.ones]
    | cons y r ih => intro i n x; simp only [List.cons_append, Sm.ones, List.length_cons]; rw [ih]; congr 1; omega
  rw [List.take_succ_eq_append_getElem hk, gen, List.length_take, Nat.min_eq_left (by omega), Nat.zero_add]
  simp [List.getD_eq_getElem?_getD, List.getElem?_eq_getElem hk]
theorem ones_bd (l : List Int) (h : Byt l) : 0 ≤ Sm.ones 0 0 l ∧ Sm.ones 0 0 l ≤ 65535 := by
  rw [Sm.ones_eq l h]; unfold Sm.canon; split <;> omega
theorem step_of (k : Nat) (s x : Int) : Sm.step k s x = if ((k : Int) % 2 == 0) = true then (if 65535 < s + x * 256 then s + x * 256 - 65535 else s + x * 256) else (if 65535 < s + x then s + x - 65535 else s + x) := by
  have e : ((k : Int) % 2 == 0) = decide (k % 2 = 0) := by
    rw [Bool.eq_iff_iff]; simp; omega
  unfold Sm.step
  rw [e]
  by_cases h : k % 2 = 0 <;> simp [h]
set_option maxHeartbeats 400000 in
theorem onesOf_any (A : Option Addr) (c : Nat) (xs : List Int) (w : World) (h : RI w .u8 A c xs) (hb : Byt xs) (hn : xs.length ≤ 1000000) :
    Calls Try.prog 20 #[.slice A xs.length c] w fun e w' => e = .returned (.int .i64 (Sm.ones 0 0 xs)) ∧ w = w' := by
  have H := Lib.hid h
  have HB := Lib.hid hb
  clear h hb
  generalize hL : xs.length = n at hn ⊢
  have HL := Lib.hid hL
  clear hL
  go_enter Try.func20, Try.ntmps20
  go_wp2
  go_loop [3, 8] (fun t i => ∃ (k : Nat), k ≤ n ∧ i = .int .i64 k ∧ t = .int .i64 (Sm.ones 0 0 (xs.take k)))
                 (fun _ i => n - (intOf i).toNat)
  case atStart => exact ⟨0, by omega, rfl, rfl⟩
  case round =>
    obtain ⟨k, hk, rfl, rfl⟩ := hrel
    have hbd := ones_bd _ (HB.out.take k)
    obtain ⟨h0, h1⟩ := hbd
    by_cases hlt : k < n
    · obtain ⟨b, off, rfl, hbw, hcell⟩ := H.out.at k (by rw [HL.out]; exact hlt)
      obtain ⟨h2, h3⟩ := HB.out.getD k
      have HS := Lib.hid (ones_snoc xs k (by rw [HL.out]; exact hlt))
      have HT := Lib.hid (step_of k (Sm.ones 0 0 (xs.take k)) (xs.getD k 0))
      generalize hx : xs.getD k 0 = x at *
      generalize hs : Sm.ones 0 0 (xs.take k) = s at *
      clear hx hs
      go_wp2
      all_goals
        go_round
        case rel => exact ⟨k + 1, by omega, by go_num, by rw [HS.out, HT.out]; simp only [*, if_true, if_false, Bool.false_eq_true]; try (rw [if_neg (by omega)])⟩
        case measure => simp [intOf]; omega
    · have hkn : k = n := by omega
      go_wp2
      go_ret
      exact ⟨ret_int (by rw [List.take_of_length_le (by rw [HL.out]; omega)]), rfl⟩
end Go.Proofs.Ytfblmlfadgkfkaa
