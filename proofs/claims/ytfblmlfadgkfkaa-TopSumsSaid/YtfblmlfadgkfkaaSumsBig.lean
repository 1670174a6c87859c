/- The walk of TopSums: texts that are too long. -/
import Derived.Test.YtfblmlfadgkfkaaProg
import Derived.Test.YtfblmlfadgkfkaaBase
import Derived.Test.YtfblmlfadgkfkaaW12
set_option linter.unusedVariables false
namespace Go.Proofs.Ytfblmlfadgkfkaa
open Go.RowKit
set_option maxRecDepth 100000 in
set_option maxHeartbeats 1000000 in
theorem topSums_big (A0 A1 A2 : Option Addr) (c0 c1 c2 n0 n1 n2 : Nat) (n at_ next word : Int) (w : World) (h : ¬ (n0 ≤ 80 ∧ n1 ≤ 80 ∧ n2 ≤ 80)) (m0 : n0 ≤ maxLen) (m1 : n1 ≤ maxLen) (m2 : n2 ≤ maxLen) :
    Calls Try.prog 3 #[.slice A0 n0 c0, .slice A1 n1 c1, .slice A2 n2 c2, .int .u64 n, .int .u8 at_, .int .u16 next, .int .u32 word] w fun e w' => e = .returned (.bool true) ∧ Below w.heap.size w w' := by
  unfold maxLen at m0 m1 m2
  by_cases h0 : 80 < n0
  · go_enter Try.func3, Try.ntmps3
    go_wp2_with fail
    refine (lit_any _).mono ?_
    rintro e w' ⟨rfl, hbel⟩
    go_wp2
    go_ret
    exact ⟨rfl, hbel⟩
  · by_cases h1 : 80 < n1
    · clear h
      go_enter Try.func3, Try.ntmps3
      go_wp2_with fail
      refine (lit_any _).mono ?_
      rintro e w' ⟨rfl, hbel⟩
      go_wp2
      go_ret
      exact ⟨rfl, hbel⟩
    · have h2 : 80 < n2 := by omega
      clear h
      go_enter Try.func3, Try.ntmps3
      go_wp2_with fail
      refine (lit_any _).mono ?_
      rintro e w' ⟨rfl, hbel⟩
      go_wp2
      go_ret
      exact ⟨rfl, hbel⟩
end Go.Proofs.Ytfblmlfadgkfkaa
