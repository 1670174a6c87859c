/- Texts: the plain law; own work. -/
import Derived.Test.YtfblmlfadgkfkaaBase
set_option linter.unusedVariables false
namespace Go.Proofs.Ytfblmlfadgkfkaa.Tx
/-- A number in figures. -/
def digs (n : Nat) : List UInt8 := if h : n < 10 then [UInt8.ofNat (48 + n)] else digs (n / 10) ++ [UInt8.ofNat (48 + n % 10)]
termination_by n
decreasing_by omega
theorem digs_low (n : Nat) (h : n < 10) : digs n = [UInt8.ofNat (48 + n)] := by rw [digs]; simp [h]
theorem digs_high (n : Nat) (h : ¬ n < 10) : digs n = digs (n / 10) ++ [UInt8.ofNat (48 + n % 10)] := by rw [digs]; simp [h]
theorem digs_length (n : Nat) (h : n < 1000) : 1 ≤ (digs n).length ∧ (digs n).length ≤ 3 := by
  by_cases h1 : n < 10
  · rw [digs_low n h1]; simp
  · rw [digs_high n h1]
    by_cases h2 : n / 10 < 10
    · rw [digs_low _ h2]; simp
    · rw [digs_high _ h2, digs_low (n / 10 / 10) (by omega)]; simp
theorem digs_step (n : Nat) (s t : List UInt8) (h : digs n ++ s = t) : (¬ n / 10 > 0 → [UInt8.ofNat (48 + n % 10)] ++ s = t) ∧ (n / 10 > 0 → digs (n / 10) ++ ([UInt8.ofNat (48 + n % 10)] ++ s) = t) := by
  refine ⟨fun h1 => ?_, fun h1 => ?_⟩
  · rw [digs_low n (by omega)] at h
    rw [show n % 10 = n from by omega]; exact h
  · rw [digs_high n (by omega), List.append_assoc] at h
    exact h
/-- A number's last figure. -/
def fig (n : Nat) : UInt8 := UInt8.ofNat (48 + n % 10)
theorem digs_fig (n : Nat) (s t : List UInt8) (h : digs n ++ s = t) : (¬ n / 10 > 0 → fig n :: s = t) ∧ (n / 10 > 0 → digs (n / 10) ++ fig n :: s = t) := digs_step n s t h
end Go.Proofs.Ytfblmlfadgkfkaa.Tx
