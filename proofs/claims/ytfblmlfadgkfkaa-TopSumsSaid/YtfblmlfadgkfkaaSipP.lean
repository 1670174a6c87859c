/- The sip sum: the plain law; own work. -/
import Derived.Test.YtfblmlfadgkfkaaBase
set_option linter.unusedVariables false
namespace Go.Proofs.Ytfblmlfadgkfkaa.Sip
open Go.RowKit
def U (x : Int) : Prop := 0 ≤ x ∧ x < 18446744073709551616
def add64 (x y : Int) : Int := IntKind.u64.wrap (x + y)
def xor64 (x y : Int) : Int := bits .xor .u64 x y
def or64 (x y : Int) : Int := bits .or .u64 x y
def rot (x : Int) (k : Nat) : Int := or64 (IntKind.u64.wrap (x * 2 ^ k)) (x / 2 ^ (64 - k))
theorem add64_u (x y : Int) : U (add64 x y) := by unfold U add64; rw [IntKind.wrap_u64]; omega
theorem wrap_u (x : Int) : U (IntKind.u64.wrap x) := by unfold U; rw [IntKind.wrap_u64]; omega
theorem xor64_u {x y : Int} (hx : U x) (hy : U y) : U (xor64 x y) := by
  unfold U xor64 at *
  rw [u64_xor x y hx.1 hx.2 hy.1 hy.2]
  have := Nat.xor_lt_two_pow (n := 64) (x := x.toNat) (y := y.toNat) (by omega) (by omega)
  omega
theorem or64_u {x y : Int} (hx : U x) (hy : U y) : U (or64 x y) := by
  unfold U or64 at *
  rw [u64_or x y hx.1 hx.2 hy.1 hy.2]
  have := Nat.or_lt_two_pow (n := 64) (x := x.toNat) (y := y.toNat) (by omega) (by omega)
  omega
theorem div_u {x : Int} (hx : U x) (k : Nat) : U (x / 2 ^ k) := by
  obtain ⟨n, rfl⟩ := Int.eq_ofNat_of_zero_le hx.1
  have h : ((n : Int) / 2 ^ k) = ((n / 2 ^ k : Nat) : Int) := by push_cast; rfl
  have h2 := Nat.div_le_self n (2 ^ k)
  have h3 := hx.2
  unfold U
  rw [h]
  generalize n / 2 ^ k = m at *
  omega
theorem rot_u {x : Int} (hx : U x) (k : Nat) : U (rot x k) := or64_u (wrap_u _) (div_u hx _)
/-- The four numbers. -/
structure St where
  a : Int
  b : Int
  c : Int
  d : Int
def St.U (s : St) : Prop := Sip.U s.a ∧ Sip.U s.b ∧ Sip.U s.c ∧ Sip.U s.d
def round (s : St) : St :=
  let a := add64 s.a s.b
  let b := xor64 (rot s.b 13) a
  let a := rot a 32
  let c := add64 s.c s.d
  let d := xor64 (rot s.d 16) c
  let a := add64 a d
  let d := xor64 (rot d 21) a
  let c := add64 c b
  let b := xor64 (rot b 17) c
  let c := rot c 32
  ⟨a, b, c, d⟩
theorem round_u {s : St} (h : s.U) : (round s).U := by
  obtain ⟨h1, h2, h3, h4⟩ := h
  refine ⟨add64_u _ _, xor64_u (rot_u (xor64_u (rot_u h2 _) (add64_u _ _)) _) (add64_u _ _), rot_u (add64_u _ _) _, xor64_u (rot_u (xor64_u (rot_u h4 _) (add64_u _ _)) _) (add64_u _ _)⟩
def rounds : Nat → St → St
  | 0, s => s
  | n + 1, s => round (rounds n s)
theorem rounds_u {s : St} (h : s.U) : ∀ n, (rounds n s).U
  | 0 => h
  | n + 1 => round_u (rounds_u h n)
def xa (s : St) (n : Int) : St := ⟨xor64 s.a n, s.b, s.c, s.d⟩
def xc (s : St) (n : Int) : St := ⟨s.a, s.b, xor64 s.c n, s.d⟩
def xd (s : St) (n : Int) : St := ⟨s.a, s.b, s.c, xor64 s.d n⟩
theorem xa_u {s : St} (h : s.U) {n : Int} (hn : U n) : (xa s n).U := ⟨xor64_u h.1 hn, h.2.1, h.2.2.1, h.2.2.2⟩
theorem xc_u {s : St} (h : s.U) {n : Int} (hn : U n) : (xc s n).U := ⟨h.1, h.2.1, xor64_u h.2.2.1 hn, h.2.2.2⟩
theorem xd_u {s : St} (h : s.U) {n : Int} (hn : U n) : (xd s n).U := ⟨h.1, h.2.1, h.2.2.1, xor64_u h.2.2.2 hn⟩
def take (s : St) (n : Int) : St := xa (rounds 2 (xd s n)) n
theorem take_u {s : St} (h : s.U) {n : Int} (hn : U n) : (take s n).U := xa_u (rounds_u (xd_u h hn) 2) hn
/-- A number of bytes, the lowest first. -/
def word (l : List Int) : Int := go 0 0 l
where go (i : Nat) (n : Int) : List Int → Int
  | [] => n
  | x :: r => go (i + 1) (or64 n (IntKind.u64.wrap (x * 2 ^ (8 * i)))) r
def wordAt (l : List Int) : Nat → Int
  | 0 => 0
  | k + 1 => or64 (wordAt l k) (IntKind.u64.wrap (l.getD k 0 * 2 ^ (8 * k)))
theorem wordAt_u (l : List Int) : ∀ k, U (wordAt l k)
  | 0 => by unfold U wordAt; omega
  | k + 1 => or64_u (wordAt_u l k) (wrap_u _)
def start (lo hi : Int) : St := ⟨xor64 lo 8317987319222330741, xor64 hi 7237128888997146477, xor64 lo 7816392313619706465, xor64 hi 8387220255154660723⟩
theorem start_u {lo hi : Int} (h1 : U lo) (h2 : U hi) : (start lo hi).U := by
  refine ⟨xor64_u h1 ?_, xor64_u h2 ?_, xor64_u h1 ?_, xor64_u h2 ?_⟩ <;> (unfold U; omega)
/-- All but the last bytes, eight by eight. -/
def eights (s : St) (b : List Int) : Nat → St
  | 0 => s
  | k + 1 => take (eights s b k) (wordAt (b.drop (8 * k)) 8)
theorem eights_u {s : St} (h : s.U) (b : List Int) : ∀ k, (eights s b k).U
  | 0 => h
  | k + 1 => take_u (eights_u h b k) (wordAt_u _ _)
def last (b : List Int) : Int := or64 ((b.length : Int) % 256 * 72057594037927936) (wordAt (b.drop (8 * (b.length / 8))) (b.length % 8))
theorem last_u (b : List Int) : U (last b) := or64_u (by unfold U; omega) (wordAt_u _ _)
def mix (s : St) : Int := xor64 (xor64 (xor64 s.a s.b) s.c) s.d
theorem mix_u {s : St} (h : s.U) : U (mix s) := xor64_u (xor64_u (xor64_u h.1 h.2.1) h.2.2.1) h.2.2.2
def fin (s : St) : Int := mix (rounds 4 (xc s 255))
def sum (lo hi : Int) (b : List Int) : Int := fin (take (eights (start lo hi) b (b.length / 8)) (last b))
theorem fin_u {s : St} (h : s.U) : U (fin s) := mix_u (rounds_u (xc_u h (by unfold U; omega)) 4)
theorem sum_u {lo hi : Int} (h1 : U lo) (h2 : U hi) (b : List Int) : U (sum lo hi b) := fin_u (take_u (eights_u (start_u h1 h2) _ _) (last_u b))
theorem ten : sum 506097522914230528 1084818905618843912 [0, 1, 2, 3, 4, 5, 6, 7, 8, 9, 10, 11, 12, 13, 14] = 11613035633349379557 := by decide +kernel
end Go.Proofs.Ytfblmlfadgkfkaa.Sip
