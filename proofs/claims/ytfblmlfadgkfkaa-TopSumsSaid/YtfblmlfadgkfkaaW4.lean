/- Walks: sum.Ones, Of, Right. -/
import Derived.Test.YtfblmlfadgkfkaaProg
import Derived.Test.YtfblmlfadgkfkaaBase
import Derived.Test.YtfblmlfadgkfkaaSumsP
import Derived.Test.YtfblmlfadgkfkaaW1
import Derived.Test.YtfblmlfadgkfkaaW2
import Derived.Test.YtfblmlfadgkfkaaW3
set_option linter.unusedVariables false
namespace Go.Proofs.Ytfblmlfadgkfkaa
open Go.RowKit
theorem tot_snoc (xs : List Int) (k : Nat) (hk : k < xs.length) : Sm.tot 0 (xs.take (k + 1)) = if ((k : Int) % 2 == 0) = true then Sm.tot 0 (xs.take k) + xs.getD k 0 * 256 else Sm.tot 0 (xs.take k) + xs.getD k 0 := by
  rw [List.take_succ_eq_append_getElem hk, Sm.tot_append, List.length_take, Nat.min_eq_left (by omega), Nat.zero_add]
  have e : ((k : Int) % 2 == 0) = decide (k % 2 = 0) := by rw [Bool.eq_iff_iff]; simp; omega
  rw [e, show xs[k] = xs.getD k 0 from by simp [List.getD_eq_getElem?_getD, List.getElem?_eq_getElem hk]]
  by_cases h : k % 2 = 0 <;> simp [Sm.tot, h]
theorem tot_take_bd (xs : List Int) (h : Byt xs) (k : Nat) (hl : xs.length ≤ 1000000) : 0 ≤ Sm.tot 0 (xs.take k) ∧ Sm.tot 0 (xs.take k) ≤ 65280000000 := by
  have h1 := Sm.tot_nonneg _ 0 (h.take k)
  have h2 := Sm.tot_le _ 0 (h.take k)
  rw [List.length_take] at h2
  omega
theorem flat_byt (ls : List (List Int)) (h : ∀ l ∈ ls, Byt l) : Byt (flat ls) := fun x hx => by
  obtain ⟨l, hl, hx⟩ := List.mem_flatten.1 hx
  exact h l hl x hx
set_option maxRecDepth 100000 in
set_option maxHeartbeats 800000 in
theorem sumOnes_any (A : Option Addr) (c : Nat) (ls : List (List Int)) (w : World) (h : RR w A c ls) (hby : ∀ l ∈ ls, Byt l) (hn : ls.length ≤ 1000000) (ht : (flat ls).length ≤ 1000000) :
    Calls Try.prog 21 #[.slice A ls.length c] w fun e w' => e = .returned (.int .u16 (Sm.canon (Sm.tot 0 (flat ls)))) ∧ Below w.heap.size w w' := by
  have HBY := Lib.hid (flat_byt ls hby)
  clear hby
  have HJ := Lib.hid (join_any A c ls w h hn ht)
  clear h hn
  generalize flat ls = xs at *
  generalize hL : xs.length = n at ht ⊢
  have HL := Lib.hid hL
  clear hL
  go_enter Try.func21, Try.ntmps21
  go_wp2_with fail
  refine HJ.out.mono ?_
  rintro e w1 ⟨⟨v, rfl, hown⟩, hbel⟩
  obtain ⟨A', c', rfl, hrow⟩ := hown.row
  have H := Lib.hid hrow
  have HB := Lib.hid hbel
  clear hrow hown hbel
  rw [HL.out]
  go_wp2
  go_loop [3, 9] (fun t i => ∃ (k : Nat), k ≤ n ∧ i = .int .i64 k ∧ t = .int .u64 (Sm.tot 0 (xs.take k)))
                 (fun _ i => n - (intOf i).toNat)
  case atStart => exact ⟨0, by omega, rfl, rfl⟩
  case round =>
    obtain ⟨k, hk, rfl, rfl⟩ := hrel
    obtain ⟨h0, h1⟩ := tot_take_bd xs HBY.out k (by rw [HL.out]; exact ht)
    by_cases hlt : k < n
    · obtain ⟨b, off, rfl, hbw, hcell⟩ := H.out.at k (by rw [HL.out]; exact hlt)
      obtain ⟨h2, h3⟩ := HBY.out.getD k
      have HS := Lib.hid (tot_snoc xs k (by rw [HL.out]; exact hlt))
      generalize hx : xs.getD k 0 = x at *
      generalize hs : Sm.tot 0 (xs.take k) = s at *
      clear hx hs
      go_wp2
      all_goals
        go_round
        case rel => exact ⟨k + 1, by omega, by go_num, by rw [HS.out]; simp only [*, if_true, if_false, Bool.false_eq_true]⟩
        case measure => simp [intOf]; omega
    · obtain rfl : k = n := by omega
      go_wp2_with fail
      refine (fold_any _ _ h0 (by omega)).mono ?_
      rintro e w' ⟨rfl, rfl⟩
      go_wp2_with fail
      go_ret
      exact ⟨ret_int (by rw [List.take_of_length_le (by rw [HL.out]; omega)]), HB.out⟩
set_option maxRecDepth 100000 in
theorem sumOf_any (A : Option Addr) (c : Nat) (ls : List (List Int)) (w : World) (h : RR w A c ls) (hby : ∀ l ∈ ls, Byt l) (hn : ls.length ≤ 1000000) (ht : (flat ls).length ≤ 1000000) :
    Calls Try.prog 22 #[.slice A ls.length c] w fun e w' => e = .returned (.int .u16 (65535 - Sm.canon (Sm.tot 0 (flat ls)))) ∧ Below w.heap.size w w' := by
  obtain ⟨hb0, hb1⟩ := canon_bd (Sm.tot 0 (flat ls))
  go_enter Try.func22, Try.ntmps22
  go_wp2_with fail
  refine (sumOnes_any A c ls w h hby hn ht).mono ?_
  rintro e w1 ⟨rfl, hbel⟩
  go_wp2_with fail
  go_ret
  exact ⟨ret_int (by rw [xor_u16_max _ hb0 hb1]), hbel⟩
theorem ret_bool {a b : Bool} (h : a = b) : Ending.returned (.bool a) = .returned (.bool b) := by rw [h]
theorem sumRight_any (A : Option Addr) (c : Nat) (ls : List (List Int)) (w : World) (h : RR w A c ls) (hby : ∀ l ∈ ls, Byt l) (hn : ls.length ≤ 1000000) (ht : (flat ls).length ≤ 1000000) :
    Calls Try.prog 23 #[.slice A ls.length c] w fun e w' => e = .returned (.bool (Sm.canon (Sm.tot 0 (flat ls)) == 65535)) ∧ Below w.heap.size w w' := by
  go_enter Try.func23, Try.ntmps23
  go_wp2_with fail
  refine (sumOnes_any A c ls w h hby hn ht).mono ?_
  rintro e w1 ⟨rfl, hbel⟩
  go_wp2_with fail
  go_ret
  exact ⟨ret_bool rfl, hbel⟩
theorem noneClosure_any (A : Option Addr) (c : Nat) (xs : List Int) (w : World) (h : RI w .u8 A c xs) (hb : Byt xs) (hn : xs.length ≤ 1000000) :
    Calls Try.prog 27 #[.slice A xs.length c] w fun e w' => e = .returned (.bool (Sm.ones 0 0 xs == 0)) ∧ w = w' := by
  go_enter Try.func27, Try.ntmps27
  go_wp2_with fail
  refine (onesOf_any A c xs w h hb hn).mono ?_
  rintro e w1 ⟨rfl, rfl⟩
  go_wp2_with fail
  go_ret
  exact ⟨ret_bool rfl, rfl⟩
set_option maxRecDepth 100000 in
set_option maxHeartbeats 800000 in
theorem clone_any (A : Option Addr) (c : Nat) (xs : List Int) (w : World) (h : RI w .u8 A c xs) (hn : xs.length ≤ 1000000) :
    Calls Try.prog 25 #[.slice A xs.length c] w fun e w' => (∃ v, e = .returned v ∧ OI w' w.heap.size 5 .u8 v xs) ∧ Below w.heap.size w w' := by
  obtain ⟨i0, hi, hz0, hz1, hz2⟩ := info_parts info5
  have HI := Lib.hid hi
  have HZ := Lib.hid (And.intro hz0 (And.intro hz1 hz2))
  clear hi hz0 hz1 hz2
  have H := Lib.hid h
  clear h
  cases A with
  | none =>
    obtain rfl : xs = [] := by
      have := H.out.2.2.1 rfl
      have := H.out.2.1
      exact List.length_eq_zero_iff.1 (by omega)
    obtain rfl : c = 0 := H.out.2.2.1 rfl
    have he : ∀ w, (binOp .eql 22 (.slice none 0 0) (.slice none 0 0)).run Try.prog w = .ok (.bool true) w := fun w => Lib.run_eql_slice_nil (P := Try.prog) w 22 5 none 0 0 0 0 Try.underlying22
    go_enter Try.func25, Try.ntmps25
    go_wp2
    go_ret
    exact ⟨⟨_, rfl, OI.nil _ _ _ _⟩, Below.refl _ _⟩
  | some a =>
    have he : ∀ w, (binOp .eql 22 (.slice (some a) xs.length c) (.slice none 0 0)).run Try.prog w = .ok (.bool false) w := fun w => Lib.run_eql_slice_nil (P := Try.prog) w 22 5 (some a) _ c 0 0 Try.underlying22
    go_enter Try.func25, Try.ntmps25
    go_wp2_with (at_builtin; refine append_row rfl (.tmp 5) (.tmp 6) 22 rfl w.heap.size 5 i0 (.int .u8 0) 1 Try.underlying22 HI.out HZ.out.1 HZ.out.2.1 HZ.out.2.2 rfl _ _ _ rfl (World.ownsRow_made w #[] 0 (Nat.le_refl _) (by unfold maxLen; omega) rfl) _ _ _ _ rfl (H.out.below (below_alloc (Below.refl _ _) _)) (nums_one _ _) (by unfold maxLen; omega) (by omega) (by simp) ?_)
    intro v' w1 hown' hgrow _
    have R : OI w1 w.heap.size 5 .u8 v' xs ∧ Below w.heap.size w w1 :=
      ⟨by simpa [OI] using hown', ((Below.refl _ w).alloc (Nat.le_refl _) _).grown hgrow (by simp) (fun k hk => by simp [Value.ownBlock] at hk; omega)⟩
    have HR2 := Lib.hid R
    clear R hown' hgrow
    go_wp2
    go_ret
    exact ⟨⟨_, rfl, HR2.out.1⟩, HR2.out.2⟩
end Go.Proofs.Ytfblmlfadgkfkaa
