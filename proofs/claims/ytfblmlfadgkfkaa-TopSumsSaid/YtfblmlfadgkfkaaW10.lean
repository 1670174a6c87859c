/- Walks: addr.Text. -/
import Derived.Test.YtfblmlfadgkfkaaProg
import Derived.Test.YtfblmlfadgkfkaaBase
import Derived.Test.YtfblmlfadgkfkaaTextP
import Derived.Test.YtfblmlfadgkfkaaW9
import Derived.Test.YtfblmlfadgkfkaaShJoin
set_option linter.unusedVariables false
namespace Go.Proofs.Ytfblmlfadgkfkaa
open Go.RowKit
abbrev str (l : List UInt8) : Value := .string ⟨l.toArray⟩
theorem info9 : (Try.prog.info? 9).map (fun i => (i.zero, i.size, i.bytes)) = some (some (.string ⟨#[]⟩), 1, 16) := by kernel_rfl
/-- An address' four numbers, the highest first. -/
def quad (a : Nat) : List Nat := [a / 16777216, a / 65536 % 256, a / 256 % 256, a % 256]
def textL (a : Nat) : List UInt8 := Tx.digs (a / 16777216) ++ [46] ++ Tx.digs (a / 65536 % 256) ++ [46] ++ Tx.digs (a / 256 % 256) ++ [46] ++ Tx.digs (a % 256)
theorem and_u32_255 (n : Int) (h0 : 0 ≤ n) (h1 : n ≤ 4294967295) : bits .and .u32 n 255 = n % 256 := by
  rw [u32_and n 255 h0 (by omega) (by decide) (by decide)]
  have : (255 : Int).toNat = 2 ^ 8 - 1 := by decide
  rw [this, Nat.and_two_pow_sub_one_eq_mod]
  omega
theorem digits_at (m : Int) (n0 : Nat) (w : World) (hm : m = n0) (hn : n0 < 1000) :
    Calls Try.prog 337 #[.int .u32 m] w fun e w' => e = .returned (str (Tx.digs n0)) ∧ Below w.heap.size w w' := by subst hm; exact digits_any n0 w hn
theorem quad_at (a k : Nat) (ha : a < 4294967296) (hk : k ≤ 3) : ∃ n : Nat, n < 256 ∧ (quad a).take (k + 1) = (quad a).take k ++ [n] ∧ bits .and .u32 ((a : Int) / 2 ^ (24 - 8 * k)) 255 = n := by
  have hd : ∀ p : Nat, 0 < p → (0 : Int) ≤ ((a / p : Nat) : Int) ∧ ((a / p : Nat) : Int) ≤ 4294967295 := fun p hp => by
    have := Nat.div_le_self a p
    generalize a / p = q at *
    omega
  have key : ∀ p : Nat, 0 < p → bits .and .u32 ((a : Int) / (p : Int)) 255 = ((a / p % 256 : Nat) : Int) := fun p hp => by
    rw [show (a : Int) / (p : Int) = ((a / p : Nat) : Int) from by push_cast; rfl, and_u32_255 _ (hd p hp).1 (hd p hp).2]
    omega
  match k, hk with
  | 0, _ => exact ⟨a / 16777216, by omega, rfl, by have := key 16777216 (by decide); rw [show (2 : Int) ^ (24 - 8 * 0) = ((16777216 : Nat) : Int) from by decide, this]; omega⟩
  | 1, _ => exact ⟨a / 65536 % 256, by omega, rfl, by rw [show (2 : Int) ^ (24 - 8 * 1) = ((65536 : Nat) : Int) from by decide, key _ (by decide)]⟩
  | 2, _ => exact ⟨a / 256 % 256, by omega, rfl, by rw [show (2 : Int) ^ (24 - 8 * 2) = ((256 : Nat) : Int) from by decide, key _ (by decide)]⟩
  | 3, _ => exact ⟨a % 256, by omega, rfl, by rw [show (2 : Int) ^ (24 - 8 * 3) = ((1 : Nat) : Int) from by decide, key _ (by decide)]; omega⟩
set_option maxRecDepth 100000 in
set_option maxHeartbeats 1600000 in
theorem text_any (a : Nat) (w : World) (ha : a < 4294967296) :
    Calls Try.prog 265 #[.int .u32 a] w fun e w' => e = .returned (str (textL a)) ∧ Below w.heap.size w w' := by
  obtain ⟨i0, hi, hz0, hz1, hz2⟩ := info_parts info9
  have HI := Lib.hid hi
  have HZ := Lib.hid (And.intro hz0 (And.intro hz1 hz2))
  clear hi hz0 hz1 hz2
  go_enter Try.func265, Try.ntmps265
  go_wp2
  go_loopw [3, 4] (fun v i wr => ∃ (k : Nat), k ≤ 4 ∧ i = .int .i64 (24 - 8 * (k : Int)) ∧ wr.ownsRow w.heap.size 9 1 v k (((quad a).take k).map fun n => str (Tx.digs n)) ∧ Below w.heap.size w wr)
      (fun _ i _ => (intOf i + 8).toNat)
  case atStart => exact ⟨0, by omega, rfl, World.ownsRow_nil _ _ _ _, Below.refl _ _⟩
  case round =>
    obtain ⟨k, hk, rfl, hown, hbel⟩ := hrel
    have HO := Lib.hid hown
    have HB := Lib.hid hbel
    clear hown hbel
    by_cases h4 : k = 4
    · subst h4
      obtain ⟨A, c, rfl, hr⟩ := own_row HO.out
      have HR := Lib.hid hr
      clear hr HO
      obtain ⟨b, o, rfl, hbw, h0⟩ := HR.out.at 0 (by omega)
      clear h0
      have HJ := Lib.hid (Try.strings_Join b o c ([a / 16777216, a / 65536 % 256, a / 256 % 256, a % 256].map fun n => (⟨(Tx.digs n).toArray⟩ : ByteArray)) ⟨#[46]⟩ wr (fun j x hj => by
        have hj4 : j < 4 := by
          rcases Nat.lt_or_ge j 4 with h | h
          · exact h
          · rw [List.getElem?_eq_none (by simpa using h)] at hj; cases hj
        obtain ⟨b', o', e', _, hc⟩ := HR.out.at j hj4
        cases e'
        rw [hc]
        match j, hj4, hj with
        | 0, _, hj => simp [quad, str] at hj ⊢; rw [← hj]
        | 1, _, hj => simp [quad, str] at hj ⊢; rw [← hj]
        | 2, _, hj => simp [quad, str] at hj ⊢; rw [← hj]
        | 3, _, hj => simp [quad, str] at hj ⊢; rw [← hj]) hbw (by simp) HR.out.2.1 (by
          have h1 := Tx.digs_length (a / 16777216) (by omega)
          have h2 := Tx.digs_length (a / 65536 % 256) (by omega)
          have h3 := Tx.digs_length (a / 256 % 256) (by omega)
          have h4 := Tx.digs_length (a % 256) (by omega)
          simp [Lib.join]; omega))
      go_wp2_with fail
      refine HJ.out.mono ?_
      rintro e w1 ⟨rfl, hbel⟩
      have HB2 := Lib.hid (below_to HB.out HB.out.size hbel)
      clear hbel
      go_wp2
      go_ret
      refine ⟨?_, HB2.out⟩
      show Ending.returned (Value.string _) = Ending.returned (str _)
      simp [str, textL, Lib.join]
    · have hk3 : k ≤ 3 := by omega
      clear h4
      obtain ⟨n, hn, hq, he⟩ := quad_at a k ha hk3
      have HQ := Lib.hid hq
      have HE := Lib.hid he
      clear hq he
      go_wp2_with fail
      refine (digits_at _ n _ HE.out (by omega)).mono ?_
      rintro e w1 ⟨rfl, hbel⟩
      have HO2 := Lib.hid (own_below HO.out hbel)
      have HB2 := Lib.hid (below_to HB.out HB.out.size hbel)
      clear hbel
      go_wp2_with (at_builtin; refine append_row rfl (.tmp 9) (.tmp 15) 424 rfl w.heap.size 9 i0 (.string ⟨#[]⟩) 16 Try.underlying424 HI.out HZ.out.1 HZ.out.2.1 HZ.out.2.2 rfl _ _ _ rfl (HO2.out.alloc _) _ _ _ _ rfl (row_one _ _ _) (by intro u hu; simp at hu; subst hu; rfl) (by unfold maxLen; omega) (by omega) (by have := HB2.out.size; simp; omega) ?_)
      intro v' w2 hown' hgrow _
      have R : w2.ownsRow w.heap.size 9 1 v' (k + 1) (((quad a).take (k + 1)).map fun n => str (Tx.digs n)) ∧ Below w.heap.size w w2 :=
        ⟨by rw [HQ.out, List.map_append, List.map_take]; exact hown', (HB2.out.alloc HB2.out.size _).grown hgrow (by have := HB2.out.size; simp; omega) (own_below_row HO2.out)⟩
      have HR2 := Lib.hid R
      clear R hown' hgrow
      go_wp2
      go_roundw
      case rel => exact ⟨k + 1, by omega, by go_num, HR2.out.1, HR2.out.2⟩
      case measure => simp [intOf]; omega
end Go.Proofs.Ytfblmlfadgkfkaa
