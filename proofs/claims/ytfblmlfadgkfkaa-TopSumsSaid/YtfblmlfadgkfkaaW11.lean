/- Walks: addr.Parse. -/
import Derived.Test.YtfblmlfadgkfkaaProg
import Derived.Test.YtfblmlfadgkfkaaBase
import Derived.Test.YtfblmlfadgkfkaaTextP
import Derived.Test.YtfblmlfadgkfkaaParseP
import Derived.Test.YtfblmlfadgkfkaaW10
set_option linter.unusedVariables false
namespace Go.Proofs.Ytfblmlfadgkfkaa
open Go.RowKit
theorem or_join (a n : Nat) (ha : a < 16777216) (hn : n ≤ 255) : bits .or .u32 ((a : Int) * 256) (n : Int) = ((a * 256 + n : Nat) : Int) := by
  rw [u32_or _ _ (by omega) (by omega) (by omega) (by omega), show ((a : Int) * 256).toNat = a * 256 from by omega, show ((n : Int)).toNat = n from by omega, nat_join 8 (a * 256) n (by omega) (by omega)]
theorem text_at (m : Int) (a : Nat) (w : World) (e : m = a) (ha : a < 4294967296) :
    Calls Try.prog 265 #[.int .u32 m] w fun e w' => e = .returned (str (textL a)) ∧ Below w.heap.size w w' := by subst e; exact text_any a w ha
theorem iter_below (w : World) (s : ByteArray) (k : Nat) : Below w.heap.size w (w.iter s k) := (Below.refl _ _).alloc (Nat.le_refl _) _
set_option maxRecDepth 100000 in
set_option maxHeartbeats 1600000 in
theorem parse_any (l : List UInt8) (w : World) (ha : ∀ c ∈ l, c.toNat < 128) (hl : l.length ≤ 1000000) :
    Calls Try.prog 195 #[.string ⟨l.toArray⟩] w fun e w' => e = .returned (.tuple #[.int .u32 (Pa.res textL l).1, .int .i64 (Pa.res textL l).2]) ∧ Below w.heap.size w w' := by
  have HA := Lib.hid ha
  clear ha
  go_enter Try.func195, Try.ntmps195
  go_wp2
  go_loopw [4, 5, 6, 7] (fun a n p s wr => ∃ (k : Nat) (st : Pa.St), k ≤ l.length ∧ st.ok ∧ Hid (Pa.run (some Pa.init) (l.take k) = some st) ∧ a = .int .u32 st.a ∧ n = .int .u32 st.n ∧ p = .int .i64 st.p ∧ s = .bool st.some ∧ wr = w.iter ⟨l.toArray⟩ k)
      (fun a n p s wr => match wr.heap[w.heap.size]? with | some (.stringIter _ pos) => l.length - pos | _ => 0)
  case atStart => exact ⟨0, Pa.init, by omega, Pa.init_ok, rfl, rfl, rfl, rfl, rfl, rfl⟩
  case round =>
    obtain ⟨k, st, hk, hok, hrun, rfl, rfl, rfl, rfl, rfl⟩ := hrel
    have HRU := Lib.hid hrun.out
    have HOK := Lib.hid hok
    obtain ⟨hn, hp, hap⟩ := hok
    have ha24 : st.a < 16777216 := by
      have : 256 ^ st.p ≤ 256 ^ 3 := Nat.pow_le_pow_right (by decide) hp
      omega
    clear hrun hap
    by_cases hlt : k < l.length
    · obtain ⟨c, hc, hc128, hstep⟩ : ∃ c : Nat, (l[k]'hlt).toNat = c ∧ c < 128 ∧ Pa.run (some Pa.init) (l.take (k + 1)) = Pa.run (Pa.step st c) [] :=
        ⟨_, rfl, HA.out _ (List.getElem_mem hlt), by rw [Pa.run_snoc l k hlt, HRU.out]; rfl⟩
      have HC := Lib.hid (And.intro hc hstep)
      clear hc hstep
      have hnx : (Instr.next (.pointer (some ⟨w.heap.size, 0, none⟩)) true 0).run Try.prog (w.iter ⟨l.toArray⟩ k) = .ok (.tuple #[.bool true, .int .i64 k, .int .i32 c]) (w.iter ⟨l.toArray⟩ (k + 1)) := by
        have h1 := run_next_ascii (P := Try.prog) w ⟨l.toArray⟩ k 0 (by simpa [ByteArray.size] using hlt) (by show (l.toArray[k]).toNat < 128; simp; have := HC.out.1; omega)
        have h2 : (((⟨l.toArray⟩ : ByteArray)[k]'(by simpa [ByteArray.size] using hlt)).toNat : Int) = (c : Int) := by
          have : ((⟨l.toArray⟩ : ByteArray)[k]'(by simpa [ByteArray.size] using hlt)) = l[k] := by show l.toArray[k] = _; simp
          rw [this, HC.out.1]
        rwa [h2] at h1
      have fail : Pa.step st c = none → Pa.res textL l = (0, 3) := fun h => by
        have h2 := HC.out.2
        rw [h] at h2
        unfold Pa.res
        rw [Pa.run_fail l (k + 1) _ h2]
      have FAIL := Lib.hid fail
      clear fail
      by_cases hd : 48 ≤ c ∧ c ≤ 57
      · obtain ⟨hd0, hd1⟩ := hd
        by_cases hbig : st.n * 10 + (c - 48) > 255
        · have HF := Lib.hid (FAIL.out (by unfold Pa.step; rw [if_pos ⟨hd0, hd1⟩, if_pos hbig]))
          go_wp2
          go_ret2
          exact ⟨by rw [HF.out]; rfl, iter_below _ _ _⟩
        · have HSt := Lib.hid (show Pa.step st c = some ⟨st.a, st.n * 10 + (c - 48), st.p, true⟩ by unfold Pa.step; rw [if_pos ⟨hd0, hd1⟩, if_neg hbig])
          go_wp2
          go_roundw
          case rel => exact ⟨k + 1, ⟨st.a, st.n * 10 + (c - 48), st.p, true⟩, by omega, Pa.step_ok HOK.out HSt.out, by rw [Hid, HC.out.2, HSt.out]; rfl, rfl, by congr 1; simp; omega, rfl, rfl, rfl⟩
          case measure => simp [World.iter_heap]; omega
      · by_cases hpt : c = 46 ∧ st.some = true ∧ st.p < 3
        · obtain ⟨rfl, hsm, hp3⟩ := hpt
          have HSt := Lib.hid (show Pa.step st 46 = some ⟨st.a * 256 + st.n, 0, st.p + 1, false⟩ by unfold Pa.step; rw [if_neg hd, if_pos ⟨rfl, hsm, hp3⟩])
          have HJ := Lib.hid (or_join st.a st.n ha24 hn)
          go_wp2
          go_roundw
          case rel => exact ⟨k + 1, ⟨st.a * 256 + st.n, 0, st.p + 1, false⟩, by omega, Pa.step_ok HOK.out HSt.out, by rw [Hid, HC.out.2, HSt.out]; rfl, by rw [HJ.out], rfl, by go_num, rfl, rfl⟩
          case measure => simp [World.iter_heap]; omega
        · have HF := Lib.hid (FAIL.out (by unfold Pa.step; rw [if_neg hd, if_neg hpt]))
          have hc1 : (c : Int) < 48 ∨ (57 : Int) < c := by omega
          have HP := Lib.hid hpt
          have HNX := Lib.hid hnx
          clear hd hpt hnx
          by_cases h46 : c = 46
          · subst h46
            have hnx := HNX.out
            by_cases hsm : st.some = true
            · have hp3 : ¬ ((st.p : Int) < 3) := by have := HP.out; simp [hsm] at this; omega
              go_wp2
              go_ret2
              exact ⟨by rw [HF.out]; rfl, iter_below _ _ _⟩
            · have hsf : st.some = false := by simpa using hsm
              go_wp2
              go_ret2
              exact ⟨by rw [HF.out]; rfl, iter_below _ _ _⟩
          · have hb46 : ((c : Int) == 46) = false := by simp; omega
            have hnx := HNX.out
            rcases hc1 with hlo | hhi
            · go_wp2
              go_ret2
              exact ⟨by rw [HF.out]; rfl, iter_below _ _ _⟩
            · have hge : (48 : Int) ≤ c := by omega
              go_wp2
              go_ret2
              exact ⟨by rw [HF.out]; rfl, iter_below _ _ _⟩
    · have hkl : k = l.length := by omega
      have HX := Lib.hid (show Pa.run (some Pa.init) l = some st by have := HRU.out; rwa [List.take_of_length_le (by omega)] at this)
      have hnx : (Instr.next (.pointer (some ⟨w.heap.size, 0, none⟩)) true 0).run Try.prog (w.iter ⟨l.toArray⟩ k) = .ok (.tuple #[.bool false]) (w.iter ⟨l.toArray⟩ k) := run_next_end (P := Try.prog) w ⟨l.toArray⟩ k 0 (by simp [ByteArray.size]; omega)
      have HJ := Lib.hid (or_join st.a st.n ha24 hn)
      have hv : st.a * 256 + st.n < 4294967296 := by omega
      clear hkl
      go_wp2_with fail
      refine (text_at _ (st.a * 256 + st.n) _ HJ.out hv).mono ?_
      rintro e w1 ⟨rfl, hbel⟩
      have HB := Lib.hid (below_trans (iter_below _ _ _) hbel)
      clear hbel
      by_cases ht : textL (st.a * 256 + st.n) = l
      · have HR := Lib.hid (show Pa.res textL l = (st.a * 256 + st.n, 0) by unfold Pa.res; rw [HX.out]; simp [ht])
        have htb : (!textL (st.a * 256 + st.n) == l) = false := by simp [ht]
        clear ht
        go_wp2
        go_ret2
        refine ⟨?_, HB.out⟩
        show Ending.returned (Value.tuple #[.int .u32 (bits .or .u32 ((st.a : Int) * 256) (st.n : Int)), .int .i64 0]) = _
        rw [HR.out, HJ.out]; rfl
      · have HR := Lib.hid (show Pa.res textL l = (0, 3) by unfold Pa.res; rw [HX.out]; simp [ht])
        have htb : (!textL (st.a * 256 + st.n) == l) = true := by simpa using ht
        clear ht
        go_wp2
        go_ret2
        exact ⟨by rw [HR.out]; rfl, HB.out⟩
theorem parse_lit (w : World) :
    Calls Try.prog 195 #[.string ⟨#[49, 48, 46, 48, 46, 48, 46, 50, 53, 53]⟩] w fun e w' => e = .returned (.tuple #[.int .u32 167772415, .int .i64 0]) ∧ Below w.heap.size w w' := by
  have h := parse_any [49, 48, 46, 48, 46, 48, 46, 50, 53, 53] w (by decide) (by decide)
  have e : Pa.res textL [49, 48, 46, 48, 46, 48, 46, 50, 53, 53] = (167772415, 0) := by
    have h1 : Pa.run (some Pa.init) [49, 48, 46, 48, 46, 48, 46, 50, 53, 53] = some ⟨655360, 255, 3, true⟩ := by decide
    have d2 : Tx.digs 0 = [48] := Tx.digs_low 0 (by decide)
    have d1 : Tx.digs 10 = [49, 48] := by rw [Tx.digs_high 10 (by decide), Tx.digs_low (10 / 10) (by decide)]; rfl
    have d3 : Tx.digs 255 = [50, 53, 53] := by rw [Tx.digs_high 255 (by decide), Tx.digs_high (255 / 10) (by decide), Tx.digs_low (255 / 10 / 10) (by decide)]; rfl
    have h2 : textL 167772415 = [49, 48, 46, 48, 46, 48, 46, 50, 53, 53] := by
      unfold textL
      rw [show 167772415 / 16777216 = 10 from by decide, show 167772415 / 65536 % 256 = 0 from by decide, show 167772415 % 256 = 255 from by decide, d1, d2, d3]; rfl
    unfold Pa.res
    rw [h1]
    show (if textL (655360 * 256 + 255) = _ then _ else _) = _
    rw [show 655360 * 256 + 255 = 167772415 from by decide, h2]; rfl
  rw [e] at h
  exact h
end Go.Proofs.Ytfblmlfadgkfkaa
