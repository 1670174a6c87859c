/- Walks: sip.Sum. -/
import Derived.Test.YtfblmlfadgkfkaaProg
import Derived.Test.YtfblmlfadgkfkaaBase
import Derived.Test.YtfblmlfadgkfkaaSipP
import Derived.Test.YtfblmlfadgkfkaaW6
import Derived.Test.YtfblmlfadgkfkaaW7
set_option linter.unusedVariables false
namespace Go.Proofs.Ytfblmlfadgkfkaa
open Go.RowKit
theorem RI.take {w : World} {k : IntKind} {b off c : Nat} {xs : List Int} (h : RI w k (some ⟨b, off, none⟩) c xs) (j : Nat) (hj : j ≤ xs.length) : RI w k (some ⟨b, off, none⟩) c (xs.take j) := by
  have := Row.cut h 0 j (by omega) hj c (by have := h.2.1; omega)
  unfold RI
  rw [List.length_take, Nat.min_eq_left hj, nums, List.map_take]
  simpa [nums] using this
theorem RI.drop {w : World} {k : IntKind} {b off c : Nat} {xs : List Int} (h : RI w k (some ⟨b, off, none⟩) c xs) (j c' : Nat) (hj : j ≤ xs.length) (hc : xs.length - j ≤ c') : RI w k (some ⟨b, off + j, none⟩) c' (xs.drop j) := by
  have := Row.cut h j xs.length hj (Nat.le_refl _) c' hc
  unfold RI
  rw [List.length_drop, nums, List.map_drop]
  rwa [List.take_of_length_le (by simp [nums])] at this
/-- An empty slice, wherever it lies. -/
theorem RI.empty (w : World) (k : IntKind) (a : Addr) (c : Nat) : RI w k (some a) c [] := ⟨rfl, Nat.zero_le _, (fun h => by cases h), fun i hi => by simp at hi⟩
theorem getD_take (xs : List Int) (i j : Nat) (h : i < j) : (xs.take j).getD i 0 = xs.getD i 0 := by
  simp [List.getD_eq_getElem?_getD, h]
theorem wordAt_take (xs : List Int) (j : Nat) : ∀ k, k ≤ j → Sip.wordAt (xs.take j) k = Sip.wordAt xs k
  | 0, _ => rfl
  | k + 1, h => by simp only [Sip.wordAt]; rw [wordAt_take xs j k (by omega), getD_take xs k j (by omega)]
theorem word_at (A : Option Addr) (n c : Nat) (xs : List Int) (w : World) (hl : xs.length = n) (h : RI w .u8 A c xs) (hb : Byt xs) (hn : xs.length ≤ 8) :
    Calls Try.prog 232 #[.slice A n c] w fun e w' => e = .returned (.int .u64 (Sip.wordAt xs n)) ∧ w = w' := by subst hl; exact word_any A c xs w h hb hn
theorem take_at (b : Nat) (m n : Int) (s : Sip.St) (w : World) (e : m = n) (hs : s.U) (hn : Sip.U n) (h : StAt w b s) :
    Calls Try.prog 231 #[.pointer (some ⟨b, 0, none⟩), .int .u64 m] w fun e w' => e = .returned (.tuple #[]) ∧ StAt w' b (Sip.take s n) ∧ Upd w w' b := by subst e; exact take_any b m s w hs hn h
theorem pw_drewN {B : Nat} {w W : World} (h : Below B w W) (n : Nat) : Below B w (W.drewN n) := ⟨h.os, h.tape, h.output, h.size, h.block⟩
set_option maxRecDepth 100000 in
set_option maxHeartbeats 1600000 in
theorem sipSum_any (lo hi : Int) (A : Option Addr) (c : Nat) (xs : List Int) (w : World) (h : RI w .u8 A c xs) (hb : Byt xs) (hn : xs.length ≤ 100000) (hlo : Sip.U lo) (hhi : Sip.U hi) :
    Calls Try.prog 121 #[.agg #[.int .u64 lo, .int .u64 hi], .slice A xs.length c] w fun e w' => e = .returned (.int .u64 (Sip.sum lo hi xs)) ∧ Below w.heap.size w w' := by
  have H := Lib.hid h
  have HB := Lib.hid hb
  have HU := Lib.hid (Sip.start_u hlo hhi)
  clear h hb
  obtain ⟨l0, l1⟩ := hlo
  obtain ⟨l2, l3⟩ := hhi
  generalize hL : xs.length = n at hn ⊢
  have HL := Lib.hid hL
  clear hL
  go_enter Try.func121, Try.ntmps121
  go_wp2
  go_loopw [1] (fun v wr => ∃ (k m : Nat) (A' : Option Addr) (c' : Nat), Hid (m + 8 * k = n) ∧ m ≤ n ∧ v = .slice A' m c' ∧ RI w .u8 A' c' (xs.drop (8 * k)) ∧ StAt wr (w.heap.size + 1) (Sip.eights (Sip.start lo hi) xs k) ∧ Below w.heap.size w wr)
                 (fun v _ => match v with | .slice _ m _ => m | _ => 0)
  case atStart => exact ⟨0, n, A, c, rfl, Nat.le_refl _, rfl, by simpa using H.out, alloc2_at _ _ _, (below_alloc (below_alloc (Below.refl _ _) _) _)⟩
  case round =>
    obtain ⟨k, m, A', c', hk, hm, rfl, hrow, hst, hbel⟩ := hrel
    have HK := Lib.hid hk.out
    have HR := Lib.hid hrow
    have HS := Lib.hid (And.intro hst hbel)
    have hmc : m ≤ c' := by
      have := hrow.2.1
      rw [List.length_drop, HL.out] at this
      have := HK.out
      omega
    clear hk hrow hst hbel
    by_cases h8 : 8 ≤ m
    · have hne : A' ≠ none := by
        intro e
        have := HR.out.2.2.1 e
        omega
      obtain ⟨⟨ab, ao, asp⟩, rfl⟩ := Option.ne_none_iff_exists'.1 hne
      obtain ⟨b', o', e', _, _⟩ := HR.out.at 0 (by rw [List.length_drop, HL.out]; have := HK.out; omega)
      cases e'
      clear hne
      have hl8 : (List.drop (8 * k) xs).length = m := by rw [List.length_drop, HL.out]; have := HK.out; omega
      have HL8 := Lib.hid hl8
      clear hl8
      have HT := Lib.hid ((HR.out.take 8 (by rw [HL8.out]; exact h8)).below HS.out.2)
      have HW := Lib.hid (Sip.wordAt_u (xs.drop (8 * k)) 8)
      have HE := Lib.hid (show Sip.eights (Sip.start lo hi) xs (k + 1) = Sip.take (Sip.eights (Sip.start lo hi) xs k) (Sip.wordAt (xs.drop (8 * k)) 8) from rfl)
      by_cases hc8 : c' = 8
      · subst hc8
        go_wp2_with fail
        refine (word_at _ 8 _ ((xs.drop (8 * k)).take 8) _ (by rw [List.length_take, HL8.out]; omega) HT.out ((HB.out.drop _).take _) (by rw [List.length_take]; omega)).mono ?_
        rintro e w1 ⟨rfl, rfl⟩
        rw [wordAt_take _ _ _ (Nat.le_refl _)]
        go_wp2_with fail
        refine (take_any _ _ _ _ (Sip.eights_u HU.out xs k) HW.out HS.out.1).mono ?_
        rintro e w1 ⟨rfl, hst, hupd⟩
        have HS2 := Lib.hid (And.intro hst (HS.out.2.trans (hupd.below (by omega))))
        have HB2 := Lib.hid (hupd.below (B := w.heap.size + 1) (by omega))
        clear hst hupd
        obtain rfl : m = 8 := by omega
        go_wp2
        go_roundw
        case rel => exact ⟨k + 1, 0, _, 0, by have := HK.out; show 0 + 8 * (k + 1) = n; omega, by omega, rfl, by
          have : xs.drop (8 * (k + 1)) = [] := List.drop_eq_nil_of_le (by rw [HL.out]; have := HK.out; omega)
          rw [this]; exact RI.empty _ _ _ _, by rw [HE.out]; exact HS2.out.1, HS2.out.2⟩
        case measure => simp
      · go_wp2_with fail
        refine (word_at _ 8 _ ((xs.drop (8 * k)).take 8) _ (by rw [List.length_take, HL8.out]; omega) HT.out ((HB.out.drop _).take _) (by rw [List.length_take]; omega)).mono ?_
        rintro e w1 ⟨rfl, rfl⟩
        rw [wordAt_take _ _ _ (Nat.le_refl _)]
        go_wp2_with fail
        refine (take_any _ _ _ _ (Sip.eights_u HU.out xs k) HW.out HS.out.1).mono ?_
        rintro e w1 ⟨rfl, hst, hupd⟩
        have HS2 := Lib.hid (And.intro hst (HS.out.2.trans (hupd.below (by omega))))
        have HR2 := Lib.hid (HR.out.drop 8 (c' - 8) (by rw [HL8.out]; exact h8) (by rw [HL8.out]; omega))
        clear hst hupd
        have hc9 : 8 < c' := by omega
        go_wp2
        go_roundw
        case rel => exact ⟨k + 1, m - 8, _, c' - 8, by have := HK.out; show m - 8 + 8 * (k + 1) = n; omega, by omega, rfl, by
          have := HR2.out
          rw [List.drop_drop] at this
          rwa [show 8 * (k + 1) = 8 * k + 8 from by omega], by rw [HE.out]; exact HS2.out.1, HS2.out.2⟩
        case measure => simp; omega
    · have hkq : k = n / 8 := by have := HK.out; omega
      have hmr : m = n % 8 := by have := HK.out; omega
      have hl8 : (List.drop (8 * k) xs).length = m := by rw [List.length_drop, HL.out]; have := HK.out; omega
      have HL8 := Lib.hid hl8
      have HM := Lib.hid (And.intro hkq hmr)
      have HLU := Lib.hid (Sip.last_u xs)
      have HLE := Lib.hid (show Sip.last xs = Sip.or64 ((n : Int) % 256 * 72057594037927936) (Sip.wordAt (xs.drop (8 * k)) m) by unfold Sip.last; rw [HL.out, ← hkq, ← hmr])
      have HSE := Lib.hid (show Sip.sum lo hi xs = Sip.fin (Sip.take (Sip.eights (Sip.start lo hi) xs k) (Sip.last xs)) by unfold Sip.sum; rw [HL.out, ← hkq])
      have HEU := Lib.hid (Sip.eights_u HU.out xs k)
      clear hl8 hkq hmr
      go_wp2_with fail
      refine (word_at _ m _ (xs.drop (8 * k)) _ HL8.out (HR.out.below HS.out.2) (HB.out.drop _) (by rw [HL8.out]; omega)).mono ?_
      rintro e w1 ⟨rfl, rfl⟩
      go_wp2_with fail
      refine (take_at _ _ (Sip.last xs) _ _ (by rw [HLE.out]; rfl) HEU.out HLU.out HS.out.1).mono ?_
      rintro e w1 ⟨rfl, hst, hupd⟩
      have HS2 := Lib.hid (And.intro hst (HS.out.2.trans (hupd.below (by omega))))
      clear hst hupd HS
      generalize Sip.eights (Sip.start lo hi) xs k = s at *
      have HTU := Lib.hid (Sip.take_u HEU.out HLU.out)
      generalize Sip.take s (Sip.last xs) = s2 at *
      obtain ⟨⟨c0, c1, c2, c3⟩, f0, f1, f2, f3⟩ := HS2.out.1.cells
      go_upto_region 8 with fail
      refine cut_world (fun W => StAt W (w.heap.size + 1) (Sip.xc s2 255) ∧ Below w.heap.size w W) (by exact ⟨block_set HS2.out.1 2 _, HS2.out.2.setCell (by simp) _⟩) ?_
      rintro W ⟨hst, hbel⟩
      have HS3 := Lib.hid (And.intro hst hbel)
      clear hst hbel c0 c1 c2 c3 f0 f1 f2 f3 HS2
      go_wp2_with fail
      refine (round_any _ 4 (Sip.xc s2 255) _ (Sip.xc_u HTU.out (by unfold Sip.U; omega)) HS3.out.1 (by omega)).mono ?_
      rintro e w1 ⟨rfl, hst, hupd⟩
      have HS4 := Lib.hid (And.intro hst (HS3.out.2.trans (hupd.below (by omega))))
      clear hst hupd
      obtain ⟨⟨c0, c1, c2, c3⟩, f0, f1, f2, f3⟩ := HS4.out.1.cells
      have HSE2 := Lib.hid (show Sip.sum lo hi xs = Sip.mix (Sip.rounds 4 (Sip.xc s2 255)) from HSE.out)
      generalize Sip.rounds 4 (Sip.xc s2 255) = s4 at *
      go_wp2_with fail
      go_quiet (fail)
      go_wp2
      go_ret
      exact ⟨by rw [HSE2.out]; rfl, pw_drewN HS4.out.2 _⟩
end Go.Proofs.Ytfblmlfadgkfkaa
