/- Walks: big, slices.Grow, slices.Concat. -/
import Derived.Test.YtfblmlfadgkfkaaProg
import Derived.Test.YtfblmlfadgkfkaaBase
import Derived.Test.YtfblmlfadgkfkaaSumsP
import Derived.Test.YtfblmlfadgkfkaaW1
import Derived.Test.YtfblmlfadgkfkaaW2
import Derived.Test.YtfblmlfadgkfkaaW3
import Derived.Test.YtfblmlfadgkfkaaW4
set_option linter.unusedVariables false
namespace Go.Proofs.Ytfblmlfadgkfkaa
open Go.RowKit
/-- A number's lowest bytes, the highest first. -/
def bigB (n : Int) : Nat → List Int
  | 0 => []
  | s + 1 => (n / 2 ^ (8 * s) % 256) :: bigB n s
theorem bigB_length (n : Int) : ∀ s, (bigB n s).length = s
  | 0 => rfl
  | s + 1 => by simp [bigB, bigB_length n s]
theorem bigB_byt (n : Int) : ∀ s, Byt (bigB n s)
  | 0 => Byt.nil
  | s + 1 => Byt.cons (by omega) (bigB_byt n s)
set_option maxRecDepth 100000 in
set_option maxHeartbeats 800000 in
theorem big_any (A : Option Addr) (c : Nat) (xs : List Int) (n : Int) (size : Nat) (w : World) (h : RI w .u8 A c xs) (hx : xs.length ≤ 900000) (h0 : 0 ≤ n) (h1 : n ≤ 18446744073709551615) (hs : size ≤ 8) :
    Calls Try.prog 26 #[.slice A xs.length c, .int .u64 n, .int .i64 size] w fun e w' => (∃ v, e = .returned v ∧ OI w' w.heap.size 5 .u8 v (xs ++ bigB n size)) ∧ Below w.heap.size w w' := by
  obtain ⟨i0, hi, hz0, hz1, hz2⟩ := info_parts info5
  have HI := Lib.hid hi
  have HZ := Lib.hid (And.intro hz0 (And.intro hz1 hz2))
  clear hi hz0 hz1 hz2
  have HC := Lib.hid (clone_any A c xs w h (by omega))
  clear h
  go_enter Try.func26, Try.ntmps26
  go_wp2_with fail
  refine HC.out.mono ?_
  rintro e w1 ⟨⟨v, rfl, hown⟩, hbel⟩
  have HO := Lib.hid hown
  have HB := Lib.hid hbel
  clear hown hbel
  go_wp2
  go_loopw [0, 7] (fun v i wr => ∃ (k : Nat), k ≤ size ∧ i = .int .i64 ((k : Int) - 1) ∧ (∃ ys, OI wr w.heap.size 5 .u8 v ys ∧ ys ++ bigB n k = xs ++ bigB n size) ∧ Below w.heap.size w wr)
                 (fun _ i _ => (intOf i + 1).toNat)
  case atStart => exact ⟨size, by omega, rfl, ⟨xs, HO.out, rfl⟩, HB.out⟩
  case round =>
    obtain ⟨k, hk, rfl, ⟨ys, hown, hys⟩, hbel⟩ := hrel
    have HO2 := Lib.hid hown
    have HB2 := Lib.hid hbel
    have HY := Lib.hid hys
    clear hown hbel hys HO HB
    have hlen : ys.length ≤ 900008 := by
      have := congrArg List.length HY.out
      simp only [List.length_append, bigB_length] at this
      omega
    rcases Nat.eq_zero_or_pos k with h2 | h2
    · subst h2
      go_wp2
      go_ret
      exact ⟨⟨_, rfl, by have := HY.out; simp only [bigB, List.append_nil] at this; rw [← this]; exact HO2.out⟩, HB2.out⟩
    · obtain ⟨m, rfl⟩ : ∃ m, k = m + 1 := ⟨k - 1, by omega⟩
      go_wp2_with (at_builtin; refine append_row rfl (.tmp 16) (.tmp 22) 22 rfl w.heap.size 5 i0 (.int .u8 0) 1 Try.underlying22 HI.out HZ.out.1 HZ.out.2.1 HZ.out.2.2 rfl _ _ _ rfl (HO2.out.alloc _) _ _ _ _ rfl (row_one _ _ _) (by intro u hu; simp at hu; subst hu; rfl) (by unfold maxLen; omega) (by omega) (by have := HB2.out.size; simp; omega) ?_)
      intro v' w1 hown' hgrow _
      have R : (∃ ys', OI w1 w.heap.size 5 .u8 v' ys' ∧ ys' ++ bigB n m = xs ++ bigB n size) ∧ Below w.heap.size w w1 :=
        ⟨⟨ys ++ [n / 2 ^ (8 * m) % 256], by unfold OI; rw [List.length_append, nums_append]; exact hown', by rw [← HY.out]; simp [bigB]⟩,
          (HB2.out.alloc HB2.out.size _).grown hgrow (by have := HB2.out.size; simp; omega) (own_below_row HO2.out)⟩
      have HR2 := Lib.hid R
      clear R hown' hgrow
      go_wp2
      go_roundw
      case rel => exact ⟨m, by omega, by first | rfl | go_num, HR2.out.1, HR2.out.2⟩
      case measure => simp [intOf]
theorem info5i : ∃ i, Try.prog.info? 5 = some i ∧ i.zero = some (.int .u8 0) ∧ i.size = 1 ∧ i.bytes = 1 := by
  obtain ⟨i0, hi, hz0, hz1, hz2⟩ := info_parts info5
  exact ⟨i0, hi, hz0, hz1, hz2⟩
set_option maxRecDepth 100000 in
set_option maxHeartbeats 800000 in
theorem grow_nil (n : Nat) (w : World) (hn : n ≤ 1000000) :
    Calls Try.prog 196 #[.slice none 0 0, .int .i64 n] w fun e w' => (∃ v, e = .returned v ∧ OI w' w.heap.size 5 .u8 v []) ∧ Below w.heap.size w w' := by
  rcases Nat.eq_zero_or_pos n with h0 | h0
  · subst h0
    go_enter Try.func196, Try.ntmps196
    go_wp2
    go_ret
    exact ⟨⟨_, rfl, OI.nil _ _ _ _⟩, Below.refl _ _⟩
  · obtain ⟨i0, hi, hz0, hz1, hz2⟩ := info5i
    have hr := Lib.hid (fun ty => Lib.run_append_nil_zeros (P := Try.prog) w 22 3 ty 5 i0 (.int .u8 0) .i64 .i64 Try.underlying22 Try.underlying3 hi hz0 n h0 (by omega) (by omega) (by rw [hz2]; omega))
    clear hi hz0 hz1 hz2
    go_enter Try.func196, Try.ntmps196
    go_wp2_with (at_builtin; refine Lib.wpList_append_run _ rfl (.tmp 20) (.tmp 21) 22 3 rfl _ _ rfl rfl _ _ (hr.out _) ?_)
    go_ret
    exact ⟨⟨_, rfl, World.ownsRow.drew (World.ownsRow_made w _ _ (Nat.le_refl _) (grownCap_le_maxLen w n 0 5 (by unfold maxLen; omega)) (by
      have := grownCap_ge w n 0 5
      simp [Builtin.zeroCells]; omega))⟩, ((Below.refl _ _).alloc (Nat.le_refl _) _).drew⟩
theorem flat_one (x : List Int) : flat [x] = x := by simp [flat]
set_option maxRecDepth 100000 in
set_option maxHeartbeats 800000 in
theorem concat_any (A : Option Addr) (c : Nat) (ls : List (List Int)) (w : World) (h : RR w A c ls) (hn : ls.length ≤ 1000000) (ht : (flat ls).length ≤ 1000000) :
    Calls Try.prog 19 #[.slice A ls.length c] w fun e w' => (∃ v, e = .returned v ∧ OI w' w.heap.size 5 .u8 v (flat ls)) ∧ Below w.heap.size w w' := by
  have H := Lib.hid h
  clear h
  obtain ⟨i0, hi, hz⟩ := info5i
  have HI := Lib.hid hi
  have HZ := Lib.hid hz
  clear hi hz
  have HT := Lib.hid ht
  clear ht
  generalize hL : ls.length = n at hn ⊢
  have HL := Lib.hid hL
  clear hL
  go_enter Try.func19, Try.ntmps19
  go_wp2
  go_loop [3, 11] (fun v i => ∃ (k : Nat), k ≤ n ∧ i = .int .i64 k ∧ v = .int .i64 (flat (ls.take k)).length)
                 (fun _ i => n - (intOf i).toNat)
  case atStart => exact ⟨0, by omega, rfl, rfl⟩
  case round =>
    obtain ⟨k, hk, rfl, rfl⟩ := hrel
    have HK0 := Lib.hid (flat_le ls k)
    have hk0 : (flat (ls.take k)).length ≤ 1000000 := by have := HK0.out; have := HT.out; omega
    by_cases hlt : k < n
    · obtain ⟨b, off, A', c', rfl, hbw, hcell, hrow⟩ := H.out.at k (by rw [HL.out]; exact hlt)
      have HS := Lib.hid (flat_snoc ls k (by rw [HL.out]; exact hlt))
      have HK := Lib.hid (flat_le ls (k + 1))
      generalize ls.getD k [] = x at *
      clear hrow
      have hlen : (flat (ls.take k)).length + x.length ≤ 1000000 := by have := HK.out; have := HT.out; rw [HS.out, List.length_append] at *; omega
      go_wp2
      go_round
      case rel => exact ⟨k + 1, by omega, by go_num, by rw [HS.out, List.length_append]; go_num⟩
      case measure => simp [intOf]; omega
    · obtain rfl : k = n := by omega
      go_wp2_with fail
      refine (grow_nil _ _ hk0).mono ?_
      rintro e w1 ⟨⟨v, rfl, hown⟩, hbel⟩
      have HO := Lib.hid hown
      have HB := Lib.hid hbel
      clear hown hbel
      go_wp2
      go_loopw [6, 27] (fun v i wr => ∃ (j : Nat), j ≤ k ∧ i = .int .i64 j ∧ OI wr w.heap.size 5 .u8 v (flat (ls.take j)) ∧ Below w.heap.size w wr)
                 (fun _ i _ => k - (intOf i).toNat)
      case atStart => exact ⟨0, by omega, rfl, HO.out, HB.out⟩
      case round =>
        obtain ⟨j, hj, rfl, hown, hbel⟩ := hrel
        have HO := Lib.hid hown
        have HB := Lib.hid hbel
        clear hown hbel
        by_cases hlt : j < k
        · obtain ⟨b, off, A', c', rfl, hbw, hcell, hrow⟩ := (H.out.below HB.out).at j (by rw [HL.out]; exact hlt)
          have HS := Lib.hid (flat_snoc ls j (by rw [HL.out]; exact hlt))
          have HK := Lib.hid (flat_le ls (j + 1))
          generalize ls.getD j [] = x at *
          have HR := Lib.hid hrow
          clear hrow
          have hlen : (flat (ls.take j)).length + x.length ≤ 1000000 := by have := HK.out; have := HT.out; rw [HS.out, List.length_append] at *; omega
          go_wp2_with (at_builtin; refine append_row rfl (.tmp 31) (.tmp 32) 22 rfl w.heap.size 5 i0 (.int .u8 0) 1 Try.underlying22 HI.out HZ.out.1 HZ.out.2.1 HZ.out.2.2 rfl _ _ _ rfl HO.out _ _ _ _ rfl HR.out (nums_one _ _) (by unfold maxLen; omega) (by omega) HB.out.size ?_)
          intro v' w1 hown' hgrow _
          have R : OI w1 w.heap.size 5 .u8 v' (flat (ls.take (j + 1))) ∧ Below w.heap.size w w1 :=
            ⟨by rw [HS.out]; unfold OI; rw [List.length_append, nums_append]; exact hown', HB.out.grown hgrow HB.out.size (own_below_row HO.out)⟩
          have HR2 := Lib.hid R
          clear R hown' hgrow
          go_wp2
          go_roundw
          case rel => exact ⟨j + 1, by omega, by go_num, HR2.out.1, HR2.out.2⟩
          case measure => simp [intOf]; omega
        · obtain rfl : j = k := by omega
          go_wp2
          go_ret
          exact ⟨⟨_, rfl, by have := HO.out; rwa [List.take_of_length_le (by rw [HL.out]; omega)] at this⟩, HB.out⟩
end Go.Proofs.Ytfblmlfadgkfkaa
