/- Walks: rows of bytes joined, copied, put. -/
import Derived.Test.YtfblmlfadgkfkaaProg
import Derived.Test.YtfblmlfadgkfkaaBase
import Derived.Test.YtfblmlfadgkfkaaSumsP
import Derived.Test.YtfblmlfadgkfkaaW1
import Derived.Test.YtfblmlfadgkfkaaW2
set_option linter.unusedVariables false
namespace Go.Proofs.Ytfblmlfadgkfkaa
open Go.RowKit
theorem info5 : (Try.prog.info? 5).map (fun i => (i.zero, i.size, i.bytes)) = some (some (.int .u8 0), 1, 1) := by kernel_rfl
def flat (ls : List (List Int)) : List Int := ls.flatten
theorem flat_snoc (ls : List (List Int)) (k : Nat) (hk : k < ls.length) : flat (ls.take (k + 1)) = flat (ls.take k) ++ ls.getD k [] := by
  unfold flat
  rw [List.take_succ_eq_append_getElem hk, List.flatten_append]
  simp [List.getD_eq_getElem?_getD, List.getElem?_eq_getElem hk]
theorem flat_le (ls : List (List Int)) : ∀ k, (flat (ls.take k)).length ≤ (flat ls).length := fun k => by
  have : flat ls = flat (ls.take k) ++ flat (ls.drop k) := by unfold flat; rw [← List.flatten_append, List.take_append_drop]
  rw [this, List.length_append]; omega
set_option maxHeartbeats 800000 in
theorem join_any (A : Option Addr) (c : Nat) (ls : List (List Int)) (w : World) (h : RR w A c ls) (hn : ls.length ≤ 1000000) (ht : (flat ls).length ≤ 1000000) :
    Calls Try.prog 117 #[.slice A ls.length c] w fun e w' => (∃ v, e = .returned v ∧ OI w' w.heap.size 5 .u8 v (flat ls)) ∧ Below w.heap.size w w' := by
  have H := Lib.hid h
  clear h
  obtain ⟨i0, hi, hz0, hz1, hz2⟩ := info_parts info5
  have HI := Lib.hid hi
  have HZ := Lib.hid (And.intro hz0 (And.intro hz1 hz2))
  clear hi hz0 hz1 hz2
  have HT := Lib.hid ht
  clear ht
  generalize hL : ls.length = n at hn ⊢
  have HL := Lib.hid hL
  clear hL
  go_enter Try.func117, Try.ntmps117
  go_wp2
  go_loopw [3, 8] (fun v i wr => ∃ (k : Nat), k ≤ n ∧ i = .int .i64 k ∧ OI wr w.heap.size 5 .u8 v (flat (ls.take k)) ∧ Below w.heap.size w wr)
                 (fun _ i _ => n - (intOf i).toNat)
  case atStart => exact ⟨0, by omega, rfl, OI.nil _ _ _ _, Below.refl _ _⟩
  case round =>
    obtain ⟨k, hk, rfl, hown, hbel⟩ := hrel
    have HO := Lib.hid hown
    have HB := Lib.hid hbel
    clear hown hbel
    by_cases hlt : k < n
    · obtain ⟨b, off, A', c', rfl, hbw, hcell, hrow⟩ := (H.out.below HB.out).at k (by rw [HL.out]; exact hlt)
      have HS := Lib.hid (flat_snoc ls k (by rw [HL.out]; exact hlt))
      have HK := Lib.hid (flat_le ls (k + 1))
      generalize ls.getD k [] = x at *
      have HR := Lib.hid hrow
      clear hrow
      have hlen : (flat (ls.take k)).length + x.length ≤ 1000000 := by have := HK.out; have := HT.out; rw [HS.out, List.length_append] at *; omega
      go_wp2_with (at_builtin; refine append_row rfl (.tmp 12) (.tmp 13) 22 rfl w.heap.size 5 i0 (.int .u8 0) 1 Try.underlying22 HI.out HZ.out.1 HZ.out.2.1 HZ.out.2.2 rfl _ _ _ rfl HO.out _ _ _ _ rfl HR.out (nums_one _ _) (by unfold maxLen; omega) (by omega) HB.out.size ?_)
      intro v' w1 hown' hgrow _
      have R : OI w1 w.heap.size 5 .u8 v' (flat (ls.take (k + 1))) ∧ Below w.heap.size w w1 :=
        ⟨by rw [HS.out]; unfold OI; rw [List.length_append, nums_append]; exact hown', HB.out.grown hgrow HB.out.size (own_below_row HO.out)⟩
      have HR2 := Lib.hid R
      clear R hown' hgrow
      go_wp2
      go_roundw
      case rel => exact ⟨k + 1, by omega, by go_num, HR2.out.1, HR2.out.2⟩
      case measure => simp [intOf]; omega
    · have hkn : k = n := by omega
      go_wp2
      go_ret
      exact ⟨⟨_, rfl, by have := HO.out; rwa [List.take_of_length_le (by rw [HL.out]; omega)] at this⟩, HB.out⟩
end Go.Proofs.Ytfblmlfadgkfkaa
