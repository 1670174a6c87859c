/- Walks: lit. -/
import Derived.Test.YtfblmlfadgkfkaaProg
import Derived.Test.YtfblmlfadgkfkaaBase
import Derived.Test.YtfblmlfadgkfkaaBase2
import Derived.Test.YtfblmlfadgkfkaaSumsP
import Derived.Test.YtfblmlfadgkfkaaSipP
import Derived.Test.YtfblmlfadgkfkaaW3
import Derived.Test.YtfblmlfadgkfkaaW4
import Derived.Test.YtfblmlfadgkfkaaW8
import Derived.Test.YtfblmlfadgkfkaaW11
set_option linter.unusedVariables false
namespace Go.Proofs.Ytfblmlfadgkfkaa
open Go.RowKit
theorem sipSum_at (lo hi : Int) (A : Option Addr) (n c : Nat) (xs : List Int) (w : World) (hl : xs.length = n) (h : RI w .u8 A c xs) (hb : Byt xs) (hn : xs.length ≤ 100000) (hlo : Sip.U lo) (hhi : Sip.U hi) :
    Calls Try.prog 121 #[.agg #[.int .u64 lo, .int .u64 hi], .slice A n c] w fun e w' => e = .returned (.int .u64 (Sip.sum lo hi xs)) ∧ Below w.heap.size w w' := by
  subst hl; exact sipSum_any lo hi A c xs w h hb hn hlo hhi
theorem sumOf_at (A : Option Addr) (n c : Nat) (ls : List (List Int)) (w : World) (hl : ls.length = n) (h : RR w A c ls) (hby : ∀ l ∈ ls, Byt l) (hn : ls.length ≤ 1000000) (ht : (flat ls).length ≤ 1000000) :
    Calls Try.prog 22 #[.slice A n c] w fun e w' => e = .returned (.int .u16 (65535 - Sm.canon (Sm.tot 0 (flat ls)))) ∧ Below w.heap.size w w' := by
  subst hl; exact sumOf_any A c ls w h hby hn ht
def tenB : List Int := [0, 1, 2, 3, 4, 5, 6, 7, 8, 9, 10, 11, 12, 13, 14]
set_option maxRecDepth 100000 in
set_option maxHeartbeats 1600000 in
theorem lit_any (w : World) : Calls Try.prog 18 #[] w fun e w' => e = .returned (.bool true) ∧ Below w.heap.size w w' := by
  go_enter Try.func18, Try.ntmps18
  go_wp2_with fail
  refine (parse_lit _).mono ?_
  rintro e w1 ⟨rfl, hbel⟩
  have HT := Lib.hid (row_new w (nums .u8 tenB) 5 15 rfl)
  have HB := Lib.hid (below_trans (below_alloc (Below.refl w.heap.size w) (.cells #[.int .u8 0, .int .u8 1, .int .u8 2, .int .u8 3, .int .u8 4, .int .u8 5, .int .u8 6, .int .u8 7, .int .u8 8, .int .u8 9, .int .u8 10, .int .u8 11, .int .u8 12, .int .u8 13, .int .u8 14] 5)) hbel)
  have HR := Lib.hid (show RI w1 .u8 (some ⟨w.heap.size, 0, none⟩) 15 tenB from Row.below HT.out hbel)
  clear hbel
  go_wp2_with fail
  refine (sipSum_at 506097522914230528 1084818905618843912 _ 15 _ tenB _ rfl HR.out (by unfold tenB Byt; decide) (by decide) (by unfold Sip.U; omega) (by unfold Sip.U; omega)).mono ?_
  rintro e w2 ⟨rfl, hbel⟩
  have HB2 := Lib.hid (below_trans HB.out hbel)
  have hten : Sip.sum 506097522914230528 1084818905618843912 tenB = 11613035633349379557 := Sip.ten
  clear hbel
  go_wp2_with fail
  have HF := Lib.hid (row_new w2 (nums .u8 [0, 1, 242, 3]) 5 4 rfl)
  have HF2 := Lib.hid (show RI (w2.alloc (.cells #[.int .u8 0, .int .u8 1, .int .u8 242, .int .u8 3] 5)) .u8 (some ⟨w2.heap.size, 0, none⟩) 4 [0, 1, 242, 3] from HF.out)
  have HF3 := Lib.hid (rr_one (w2.alloc (.cells #[.int .u8 0, .int .u8 1, .int .u8 242, .int .u8 3] 5)) 22 _ _ (RI.rs HF2.out (n := 4) rfl))
  refine (sumOf_at _ 1 _ [[0, 1, 242, 3]] _ rfl (by have := HF3.out; simpa using this) (by unfold Byt; decide) (by decide) (by decide)).mono ?_
  rintro e w3 ⟨rfl, hbel⟩
  have HB3 := Lib.hid (below_to (below_alloc (below_alloc HB2.out _) _) (by have := HB2.out.size; simp; omega) hbel)
  have hs : 65535 - Sm.canon (Sm.tot 0 (flat [[0, 1, 242, 3]])) = 3579 := by decide
  clear hbel
  go_wp2
  go_ret
  exact ⟨rfl, HB3.out⟩
end Go.Proofs.Ytfblmlfadgkfkaa
