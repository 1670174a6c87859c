/- Walks: figures. -/
import Derived.Test.YtfblmlfadgkfkaaProg
import Derived.Test.YtfblmlfadgkfkaaBase
import Derived.Test.YtfblmlfadgkfkaaTextP
set_option linter.unusedVariables false
namespace Go.Proofs.Ytfblmlfadgkfkaa
open Go.RowKit
/-- 'string([]byte{x})'. -/
theorem conv_one (W : World) (x : Int) (h0 : 0 ≤ x) (h1 : x ≤ 255) (e : TypeId) :
    (convert 22 9 (.slice (some ⟨W.heap.size, 0, none⟩) 1 1)).run Try.prog (W.alloc (.cells #[.int .u8 x] e)) = .ok (.string ⟨[UInt8.ofNat x.toNat].toArray⟩) (W.alloc (.cells #[.int .u8 x] e)) := by
  refine run_convert_bytes_back (W.alloc (.cells #[.int .u8 x] e)) 22 9 5 ⟨W.heap.size, 0, none⟩ 1 [UInt8.ofNat x.toNat] Try.underlying22 Try.underlying5 Try.underlying9 (fun j hj => ?_)
  have : j = 0 := by simpa using hj
  subst this
  rw [show (⟨W.heap.size, 0, none⟩ : Addr).add 0 = ⟨W.heap.size, 0, none⟩ from rfl, World.cell?_alloc_at _ _ _ _ rfl]
  simp [UInt8.toNat_ofNat']; omega
theorem str_append (l r : List UInt8) : (⟨l.toArray⟩ : ByteArray) ++ ⟨r.toArray⟩ = ⟨(l ++ r).toArray⟩ := by
  rw [ByteArray.mk_append_mk]
set_option maxRecDepth 100000 in
set_option maxHeartbeats 1600000 in
theorem digits_any (n0 : Nat) (w : World) (hn : n0 < 1000) :
    Calls Try.prog 337 #[.int .u32 n0] w fun e w' => e = .returned (.string ⟨(Tx.digs n0).toArray⟩) ∧ Below w.heap.size w w' := by
  go_enter Try.func337, Try.ntmps337
  go_wp2
  go_loopw [0, 3, 4] (fun t s ok wr => ∃ (n : Nat) (l : List UInt8), n < 1000 ∧ l.length ≤ 3 ∧ t = .int .u32 n ∧ s = .string ⟨l.toArray⟩ ∧ Below w.heap.size w wr ∧
        ((ok = .bool true ∧ Hid (Tx.digs n ++ l = Tx.digs n0)) ∨ (ok = .bool false ∧ n = 0 ∧ Hid (l = Tx.digs n0))))
      (fun t _ ok _ => match ok with | .bool true => (intOf t).toNat + 1 | _ => 0)
  case atStart => exact ⟨n0, [], hn, by simp, rfl, rfl, Below.refl _ _, .inl ⟨rfl, by simp [Hid]⟩⟩
  case round =>
    obtain ⟨n, l, hn1, hl, rfl, rfl, hbel, hc⟩ := hrel
    have HB := Lib.hid hbel
    clear hbel
    rcases hc with ⟨rfl, hy⟩ | ⟨rfl, rfl, hy⟩
    · have HY := Lib.hid (Tx.digs_fig n l _ hy.out)
      have hlen : (Tx.digs n).length + l.length = (Tx.digs n0).length := by rw [← List.length_append, hy.out]
      have hl0 := Tx.digs_length n0 hn
      have hl1 := Tx.digs_length n hn1
      have hl2 : l.length + 1 ≤ 3 := by omega
      clear hy hlen hl0 hl1
      have hcv : ∀ W : World, (convert 22 9 (.slice (some ⟨W.heap.size, 0, none⟩) 1 1)).run Try.prog (W.alloc (.cells #[.int .u8 (48 + (n : Int) % 10)] 5)) = .ok (.string ⟨#[Tx.fig n]⟩) (W.alloc (.cells #[.int .u8 (48 + (n : Int) % 10)] 5)) := fun W => by
        have := conv_one W (48 + (n : Int) % 10) (by omega) (by omega) 5
        rwa [show (48 + (n : Int) % 10).toNat = 48 + n % 10 from by omega] at this
      have HA := Lib.hid (str_append [Tx.fig n] l)
      by_cases hz : 0 < n / 10
      · have hzb : decide ((0 : Int) < (n : Int) / 10) = true := by simp; omega
        go_wp2
        go_roundw
        case rel => exact ⟨n / 10, Tx.fig n :: l, by omega, by simp; omega, by go_num, by exact congrArg Value.string HA.out, (HB.out.alloc HB.out.size _), .inl ⟨by first | rfl | (rw [hzb]), HY.out.2 hz⟩⟩
        case measure => simp [intOf]; omega
      · have hzb : decide ((0 : Int) < (n : Int) / 10) = false := by simp; omega
        go_wp2
        go_roundw
        case rel => exact ⟨n / 10, Tx.fig n :: l, by omega, by simp; omega, by go_num, by exact congrArg Value.string HA.out, (HB.out.alloc HB.out.size _), .inr ⟨by first | rfl | (rw [hzb]), by omega, HY.out.1 hz⟩⟩
        case measure => simp
    · have HY := Lib.hid hy.out
      clear hy
      go_wp2
      go_ret
      exact ⟨by show Ending.returned (Value.string ⟨l.toArray⟩) = _; rw [HY.out], HB.out⟩
end Go.Proofs.Ytfblmlfadgkfkaa
