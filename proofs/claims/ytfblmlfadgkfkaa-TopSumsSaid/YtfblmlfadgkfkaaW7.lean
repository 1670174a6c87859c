/- Walks: sip.Sum. -/
import Derived.Test.YtfblmlfadgkfkaaProg
import Derived.Test.YtfblmlfadgkfkaaBase
import Derived.Test.YtfblmlfadgkfkaaSipP
import Derived.Test.YtfblmlfadgkfkaaW6
set_option linter.unusedVariables false
namespace Go.Proofs.Ytfblmlfadgkfkaa
open Go.RowKit
set_option maxRecDepth 100000 in
set_option maxHeartbeats 800000 in
theorem word_any (A : Option Addr) (c : Nat) (xs : List Int) (w : World) (h : RI w .u8 A c xs) (hb : Byt xs) (hn : xs.length ≤ 8) :
    Calls Try.prog 232 #[.slice A xs.length c] w fun e w' => e = .returned (.int .u64 (Sip.wordAt xs xs.length)) ∧ w = w' := by
  have H := Lib.hid h
  have HB := Lib.hid hb
  clear h hb
  generalize hL : xs.length = n at hn ⊢
  have HL := Lib.hid hL
  clear hL
  go_enter Try.func232, Try.ntmps232
  go_wp2
  go_loop [3, 8] (fun t i => ∃ (k : Nat), k ≤ n ∧ i = .int .i64 k ∧ t = .int .u64 (Sip.wordAt xs k))
                 (fun _ i => n - (intOf i).toNat)
  case atStart => exact ⟨0, by omega, rfl, rfl⟩
  case round =>
    obtain ⟨k, hk, rfl, rfl⟩ := hrel
    by_cases hlt : k < n
    · obtain ⟨b, off, rfl, hbw, hcell⟩ := H.out.at k (by rw [HL.out]; exact hlt)
      obtain ⟨h2, h3⟩ := HB.out.getD k
      have HS := Lib.hid (show Sip.wordAt xs (k + 1) = Sip.or64 (Sip.wordAt xs k) (IntKind.u64.wrap (xs.getD k 0 * 2 ^ (8 * k))) from rfl)
      generalize hx : xs.getD k 0 = x at *
      generalize hs : Sip.wordAt xs k = s at *
      clear hx hs
      go_wp2
      go_round
      case rel => exact ⟨k + 1, by omega, by go_num, by rw [HS.out]; rfl⟩
      case measure => simp [intOf]; omega
    · obtain rfl : k = n := by omega
      go_wp2
      go_ret
      exact ⟨rfl, rfl⟩
set_option maxRecDepth 100000 in
set_option maxHeartbeats 1600000 in
theorem take_any (b : Nat) (n : Int) (s : Sip.St) (w : World) (hs : s.U) (hn : Sip.U n) (h : StAt w b s) :
    Calls Try.prog 231 #[.pointer (some ⟨b, 0, none⟩), .int .u64 n] w fun e w' => e = .returned (.tuple #[]) ∧ StAt w' b (Sip.take s n) ∧ Upd w w' b := by
  have HU := Lib.hid hs
  have HN := Lib.hid hn
  obtain ⟨⟨c0, c1, c2, c3⟩, f0, f1, f2, f3⟩ := h.cells
  have HST := Lib.hid h
  clear h hs hn
  go_enter Try.func231, Try.ntmps231
  go_upto_region 1 with fail
  refine cut_world (fun W => StAt W b (Sip.xd s n) ∧ Upd w W b) (by exact ⟨block_set HST.out 3 _, (Upd.refl _ _).set _ _⟩) ?_
  rintro W ⟨hst, hupd⟩
  have HR := Lib.hid (And.intro hst hupd)
  clear hst hupd c0 c1 c2 c3 f0 f1 f2 f3 HST
  go_upto_region 2 with (go_at_call 233; refine (round_any b 2 (Sip.xd s n) _ (Sip.xd_u HU.out HN.out) HR.out.1 (by omega)).mono ?_; rintro e w' ⟨rfl, hst, hupd⟩)
  have HR2 := Lib.hid (And.intro hst (HR.out.2.trans hupd))
  clear hst hupd HR
  obtain ⟨⟨c0, c1, c2, c3⟩, f0, f1, f2, f3⟩ := HR2.out.1.cells
  go_wp2
  go_end0
  exact ⟨rfl, block_set HR2.out.1 0 _, HR2.out.2.set _ _⟩
end Go.Proofs.Ytfblmlfadgkfkaa
