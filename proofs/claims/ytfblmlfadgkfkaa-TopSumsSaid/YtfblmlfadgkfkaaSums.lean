/- The walk of TopSums. -/
import Derived.Test.YtfblmlfadgkfkaaProg
import Derived.Test.YtfblmlfadgkfkaaBase
import Derived.Test.YtfblmlfadgkfkaaBase2
import Derived.Test.YtfblmlfadgkfkaaSumsP
import Derived.Test.YtfblmlfadgkfkaaW3
import Derived.Test.YtfblmlfadgkfkaaW4
import Derived.Test.YtfblmlfadgkfkaaW5
import Derived.Test.YtfblmlfadgkfkaaW12
import Derived.Test.YtfblmlfadgkfkaaCopy
import Derived.Test.YtfblmlfadgkfkaaSumsLaw
import Derived.Deep.RegionHeld3
import Derived.Deep.Cut
set_option linter.unusedVariables false
namespace Go.Proofs.Ytfblmlfadgkfkaa
open Go.RowKit
theorem ones_canon' (l : List Int) (h : Byt l) : Sm.canon (Sm.tot 0 l) = Sm.ones 0 0 l := (Sm.ones_eq l h).symm
theorem concat_at (A : Option Addr) (n c : Nat) (ls : List (List Int)) (all : List Int) (w : World) (hl : ls.length = n) (h : RR w A c ls) (hn : ls.length ≤ 1000000) (he : flat ls = all) (ht : all.length ≤ 1000000) :
    Calls Try.prog 19 #[.slice A n c] w fun e w' => (∃ v, e = .returned v ∧ OI w' w.heap.size 5 .u8 v all) ∧ Below w.heap.size w w' := by
  subst hl he; exact concat_any A c ls w h hn ht
theorem onesOf_at (A : Option Addr) (n c : Nat) (xs : List Int) (w : World) (hl : xs.length = n) (h : RI w .u8 A c xs) (hb : Byt xs) (hn : n ≤ 1000000) :
    Calls Try.prog 20 #[.slice A n c] w fun e w' => e = .returned (.int .i64 (Sm.ones 0 0 xs)) ∧ w = w' := by subst hl; exact onesOf_any A c xs w h hb hn
theorem sumOnes_at (A : Option Addr) (n c : Nat) (ls : List (List Int)) (all : List Int) (w : World) (hl : ls.length = n) (h : RR w A c ls) (hby : ∀ l ∈ ls, Byt l) (hn : ls.length ≤ 1000000) (he : flat ls = all) (ht : all.length ≤ 1000000) :
    Calls Try.prog 21 #[.slice A n c] w fun e w' => e = .returned (.int .u16 (Sm.ones 0 0 all)) ∧ Below w.heap.size w w' := by
  subst hl he
  rw [← ones_canon' _ (flat_byt _ hby)]; exact sumOnes_any A c ls w h hby hn ht
theorem sumOf_at' (A : Option Addr) (n c : Nat) (ls : List (List Int)) (all : List Int) (w : World) (hl : ls.length = n) (h : RR w A c ls) (hby : ∀ l ∈ ls, Byt l) (hn : ls.length ≤ 1000000) (he : flat ls = all) (ht : all.length ≤ 1000000) :
    Calls Try.prog 22 #[.slice A n c] w fun e w' => e = .returned (.int .u16 (65535 - Sm.ones 0 0 all)) ∧ Below w.heap.size w w' := by
  subst hl he
  rw [← ones_canon' _ (flat_byt _ hby)]; exact sumOf_any A c ls w h hby hn ht
theorem sumRight_at (A : Option Addr) (n c : Nat) (ls : List (List Int)) (all : List Int) (w : World) (hl : ls.length = n) (h : RR w A c ls) (hby : ∀ l ∈ ls, Byt l) (hn : ls.length ≤ 1000000) (he : flat ls = all) (ht : all.length ≤ 1000000) :
    Calls Try.prog 23 #[.slice A n c] w fun e w' => e = .returned (.bool (Sm.ones 0 0 all == 65535)) ∧ Below w.heap.size w w' := by
  subst hl he
  rw [← ones_canon' _ (flat_byt _ hby)]; exact sumRight_any A c ls w h hby hn ht
theorem fold_to (n F : Int) (w : World) (h0 : 0 ≤ n) (h1 : n ≤ 18446744073709551615) (e : Sm.canon n = F) :
    Calls Try.prog 24 #[.int .u64 n] w fun e w' => e = .returned (.int .u16 F) ∧ w = w' := by subst e; exact fold_any n w h0 h1
theorem clone_at (A : Option Addr) (n c : Nat) (xs : List Int) (w : World) (hl : xs.length = n) (h : RI w .u8 A c xs) (hn : n ≤ 1000000) :
    Calls Try.prog 25 #[.slice A n c] w fun e w' => (∃ v, e = .returned v ∧ OI w' w.heap.size 5 .u8 v xs) ∧ Below w.heap.size w w' := by subst hl; exact clone_any A c xs w h hn
theorem OI.set' {w : World} {base g c n : Nat} {e : TypeId} {k : IntKind} {xs : List Int} (h : OI w base e k (.slice (some ⟨g, 0, none⟩) n c) xs) (hn : xs.length = n) (j : Nat) (x : Int) : OI (w.setCell ⟨g, j, none⟩ (.int k x)) base e k (.slice (some ⟨g, 0, none⟩) n c) (xs.set j x) := by
  subst hn
  have := OI.set h j x
  rwa [List.length_set] at this
theorem OI.known {w : World} {base g c n : Nat} {e : TypeId} {k : IntKind} {xs : List Int} (h : OI w base e k (.slice (some ⟨g, 0, none⟩) n c) xs) (hn : xs.length = n) (hp : 0 < n) :
    base ≤ g ∧ g < w.heap.size ∧ (∀ i, i < n → w.cell? ⟨g, i, none⟩ = some (.int k (xs.getD i 0))) ∧ ∀ i, w.frozen? ⟨g, i, none⟩ = false := by
  subst hn
  obtain ⟨g', c', e, h1, h2, h3, h4⟩ := h.form hp
  cases e
  exact ⟨h1, h2, h3, h4⟩
theorem big_at (n' n : Int) (m : Int) (size : Nat) (w : World) (hn : n' = n) (hm : m = size) (h0 : 0 ≤ n) (h1 : n ≤ 18446744073709551615) (hs : size ≤ 8) :
    Calls Try.prog 26 #[.slice none 0 0, .int .u64 n', .int .i64 m] w fun e w' => (∃ v, e = .returned v ∧ OI w' w.heap.size 5 .u8 v (bigB n size)) ∧ Below w.heap.size w w' := by
  subst hm hn
  have := big_any none 0 [] n' size w (RI.nil _ _) (by simp) h0 h1 hs
  simpa using this
theorem below_undrew {w W : World} (h : Below w.drew.heap.size w.drew W) : Below w.heap.size w W := ⟨h.os, h.tape, h.output, h.size, h.block⟩
theorem below_undrewN {B : Nat} {w W : World} (h : Below B w W) (n : Nat) : Below B w (W.drewN n) := ⟨h.os, h.tape, h.output, h.size, h.block⟩
theorem size5 : (Try.prog.info? 5).map (·.size) = some 1 := by kernel_rfl
theorem OI.other {w : World} {base : Nat} {e : TypeId} {k : IntKind} {v : Value} {xs : List Int} (h : OI w base e k v xs) {b o : Nat} (hb : v.ownBlock ≠ some b) (u : Value) : OI (w.setCell ⟨b, o, none⟩ u) base e k v xs :=
  ownsRow_setCell_other h hb u
theorem OI.keep {w w' : World} {base B g c n : Nat} {e : TypeId} {k : IntKind} {xs : List Int} (h : OI w base e k (.slice (some ⟨g, 0, none⟩) n c) xs) (hn : xs.length = n) (hb : Below B w w') (hg : g < B) : OI w' base e k (.slice (some ⟨g, 0, none⟩) n c) xs := by
  obtain ⟨cur, h1, h2, h3, h4, h5, h6⟩ := h.cur hn
  exact OI.of_cur hn cur (by rw [hb.block g hg]; exact h1) h2 h3 h4 h5 h6
theorem or_u16_join (x y : Int) (hx : 0 ≤ x ∧ x ≤ 255) (hy : 0 ≤ y ∧ y ≤ 255) : bits .or .u16 (x * 256) y = x * 256 + y := by
  rw [u16_or _ _ (by omega) (by omega) (by omega) (by omega), nat_join 8 (x * 256).toNat y.toNat (by omega) (by omega)]; omega
theorem or_u32_join (i : Nat) (x y : Int) (hx : 0 ≤ x ∧ x < 4294967296) (h : x % 2 ^ i = 0) (hy : 0 ≤ y ∧ y < 2 ^ i) (hi : i ≤ 32) : bits .or .u32 x y = x + y := by
  have hp : (2 : Int) ^ i ≤ 2 ^ 32 := by
    have := Nat.pow_le_pow_right (show 0 < 2 by decide) hi
    exact_mod_cast this
  have hp2 : ((2 ^ i : Nat) : Int) = 2 ^ i := by push_cast; rfl
  have hp32 : (2 : Int) ^ 32 = 4294967296 := by decide
  rw [u32_or _ _ hx.1 hx.2 hy.1 (by omega), nat_join i x.toNat y.toNat ?_ (by omega)]
  · omega
  · have : (x.toNat : Int) % ((2 ^ i : Nat) : Int) = 0 := by rw [hp2, show (x.toNat : Int) = x by omega]; exact h
    exact_mod_cast this
theorem OI.ri {w : World} {base g c n : Nat} {e : TypeId} {k : IntKind} {xs : List Int} (h : OI w base e k (.slice (some ⟨g, 0, none⟩) n c) xs) : RI w k (some ⟨g, 0, none⟩) c xs := by
  obtain ⟨A, c', e, hr⟩ := h.row
  cases e
  exact hr
theorem noneClosure_at (A : Option Addr) (n c : Nat) (xs : List Int) (o : Int) (w : World) (hl : xs.length = n) (h : RI w .u8 A c xs) (hb : Byt xs) (hn : n ≤ 1000000) (ho : Sm.ones 0 0 xs = o) :
    Calls Try.prog 27 #[.slice A n c] w fun e w' => e = .returned (.bool (o == 0)) ∧ w = w' := by subst hl ho; exact noneClosure_any A c xs w h hb hn
theorem turn_to (s o n r : Int) (w : World) (h0 : 0 ≤ s) (h1 : s ≤ 65535) (h2 : 0 ≤ o) (h3 : o ≤ 65535) (h4 : 0 ≤ n) (h5 : n ≤ 65535) (hr : Sm.canon (65535 - s + (65535 - o) + n) = r) :
    Calls Try.prog 28 #[.int .u16 s, .int .u16 o, .int .u16 n] w fun e w' => e = .returned (.int .u16 (65535 - r)) ∧ w = w' := by subst hr; exact turn_any s o n w h0 h1 h2 h3 h4 h5
theorem turn32_to (s o n r : Int) (w : World) (h0 : 0 ≤ s) (h1 : s ≤ 65535) (h2 : 0 ≤ o) (h3 : o ≤ 4294967295) (h4 : 0 ≤ n) (h5 : n ≤ 4294967295) (hr : Sm.canon (Sm.canon (65535 - s + (65535 - o / 65536) + n / 65536) + (65535 - o % 65536) + n % 65536) = r) :
    Calls Try.prog 29 #[.int .u16 s, .int .u32 o, .int .u32 n] w fun e w' => e = .returned (.int .u16 (65535 - r)) ∧ w = w' := by subst hr; exact turn32_any s o n w h0 h1 h2 h3 h4 h5
set_option maxRecDepth 100000 in
set_option maxHeartbeats 8000000 in
theorem topSums_small (A0 A1 A2 : Option Addr) (c0 c1 c2 n0 n1 n2 : Nat) (x0 x1 x2 : List Int) (n at_ next word F : Int) (w : World)
    (l0 : x0.length = n0) (l1 : x1.length = n1) (l2 : x2.length = n2)
    (r0 : RI w .u8 A0 c0 x0) (r1 : RI w .u8 A1 c1 x1) (r2 : RI w .u8 A2 c2 x2) (b0 : Byt x0) (b1 : Byt x1) (b2 : Byt x2) (h0 : n0 ≤ 80) (h1 : n1 ≤ 80) (h2 : n2 ≤ 80)
    (hn0 : 0 ≤ n) (hn1 : n ≤ 18446744073709551615) (ha0 : 0 ≤ at_) (ha1 : at_ ≤ 255) (hx0 : 0 ≤ next) (hx1 : next ≤ 65535) (hw0 : 0 ≤ word) (hw1 : word ≤ 4294967295)
    (hF : Sm.canon n = F) (hFc : (F = 65535 ∧ 0 < n ∧ n % 65535 = 0) ∨ (n = 0 ∧ F = 0) ∨ (F = n % 65535 ∧ 0 < n ∧ 0 < n % 65535)) :
    Calls Try.prog 3 #[.slice A0 n0 c0, .slice A1 n1 c1, .slice A2 n2 c2, .int .u64 n, .int .u8 at_, .int .u16 next, .int .u32 word] w fun e w' => e = .returned (.bool true) ∧ Below w.heap.size w w' := by
  have HF := Lib.hid hF
  have R3 := Lib.hid (fun T => rr_three w T _ _ _ x0 x1 x2 (r0.rs l0) (r1.rs l1) (r2.rs l2))
  have HBY : Hid (∀ l ∈ [x0, x1, x2], Byt l) := by
    intro l hl
    simp at hl
    rcases hl with rfl | rfl | rfl <;> assumption
  obtain ⟨all, hall⟩ : ∃ all, flat [x0, x1, x2] = all := ⟨_, rfl⟩
  have HAB := Lib.hid (show Byt all by rw [← hall]; exact flat_byt _ HBY.out)
  have hlen : all.length ≤ 240 := by rw [← hall]; simp [flat]; omega
  have HALL := Lib.hid hall
  have R0 := Lib.hid (r0.rs l0)
  have R1 := Lib.hid (r1.rs l1)
  have R2 := Lib.hid (r2.rs l2)
  clear hF r0 r1 r2 b0 b1 b2 hall l0 l1 l2
  obtain ⟨L, hL⟩ : ∃ L, all.length = L := ⟨_, rfl⟩
  rw [hL] at hlen
  have HL := Lib.hid hL
  clear hL
  obtain ⟨one, hone⟩ : ∃ one, Sm.ones 0 0 all = one := ⟨_, rfl⟩
  obtain ⟨ho0, ho1⟩ : 0 ≤ one ∧ one ≤ 65535 := by rw [← hone]; exact ones_bd all HAB.out
  have HONE := Lib.hid hone
  clear hone
  rcases hFc with ⟨rfl, hp, hz⟩ | ⟨rfl, rfl⟩ | ⟨rfl, hp, hz⟩
  all_goals
    go_enter Try.func3, Try.ntmps3
    go_wp2_with fail
    refine (concat_at _ 3 _ [x0, x1, x2] all _ rfl (R3.out 22) (by simp) HALL.out (by rw [HL.out]; omega)).mono ?_
    rintro e w1 ⟨⟨v, rfl, hown⟩, hbel⟩
    obtain ⟨A, c, rfl, hrow⟩ := hown.row
    have HA := Lib.hid hrow
    have HB := Lib.hid (below_to (below_alloc (Below.refl _ _) _) (by simp) hbel)
    rw [HL.out]
    clear hrow hown hbel
    go_wp2_with fail
    refine (onesOf_at _ L _ all _ HL.out HA.out HAB.out (by omega)).mono ?_
    rintro e w' ⟨rfl, rfl⟩
    rw [HONE.out]
    -- the four tests
    go_wp2_with fail
    refine (sumOnes_at _ 3 _ [x0, x1, x2] all _ rfl (rr_three _ 22 _ _ _ x0 x1 x2 (R0.out.below HB.out) (R1.out.below HB.out) (R2.out.below HB.out)) HBY.out (by simp) HALL.out (by rw [HL.out]; omega)).mono ?_
    rintro e w2 ⟨rfl, hbel⟩
    have HA2 := Lib.hid (HA.out.below (below_trans (below_alloc (Below.refl _ _) _) hbel))
    have HB2 := Lib.hid (below_to HB.out HB.out.size (below_trans (below_alloc (Below.refl _ _) _) hbel))
    rw [HONE.out]
    clear hbel
    go_wp2_with fail
    refine (sumOf_at' _ 3 _ [x0, x1, x2] all _ rfl (rr_three _ 22 _ _ _ x0 x1 x2 (R0.out.below HB2.out) (R1.out.below HB2.out) (R2.out.below HB2.out)) HBY.out (by simp) HALL.out (by rw [HL.out]; omega)).mono ?_
    rintro e w3 ⟨rfl, hbel⟩
    have HA3 := Lib.hid (HA2.out.below (below_trans (below_alloc (Below.refl _ _) _) hbel))
    have HB3 := Lib.hid (below_to HB2.out HB2.out.size (below_trans (below_alloc (Below.refl _ _) _) hbel))
    rw [HONE.out]
    clear hbel HA HA2 HB HB2
    go_wp2_with fail
    refine (sumRight_at _ 3 _ [x0, x1, x2] all _ rfl (rr_three _ 22 _ _ _ x0 x1 x2 (R0.out.below HB3.out) (R1.out.below HB3.out) (R2.out.below HB3.out)) HBY.out (by simp) HALL.out (by rw [HL.out]; omega)).mono ?_
    rintro e w4 ⟨rfl, hbel⟩
    have HA4 := Lib.hid (HA3.out.below (below_trans (below_alloc (Below.refl _ _) _) hbel))
    have HB4 := Lib.hid (below_to HB3.out HB3.out.size (below_trans (below_alloc (Below.refl _ _) _) hbel))
    rw [HONE.out]
    clear hbel HA3 HB3
    go_wp2_with fail
    refine (fold_to _ _ _ hn0 hn1 HF.out).mono ?_
    rintro e w' ⟨rfl, rfl⟩
    by_cases hL4 : L < 4
    · go_wp2_with fail
      refine (lit_any _).mono ?_
      rintro e w5 ⟨rfl, hbel⟩
      go_wp2
      go_ret
      exact ⟨rfl, below_to HB4.out HB4.out.size hbel⟩
    · obtain ⟨K, hK, hK3, hK4⟩ : ∃ K : Nat, at_ % ((L : Int) / 4) * 4 = (K : Int) ∧ K + 3 < L ∧ K % 4 = 0 := by
        have hd : (0 : Int) < (L : Int) / 4 := by omega
        have h1 := Int.emod_lt_of_pos at_ hd
        have h2 := Int.emod_nonneg at_ (show (L : Int) / 4 ≠ 0 by omega)
        exact ⟨(at_ % ((L : Int) / 4) * 4).toNat, by omega, by omega, by omega⟩
      have HK4 := Lib.hid hK4
      clear hK4
      have hL4' : 4 ≤ L := by omega
      go_wp2_with fail
      refine (clone_at _ L _ all _ HL.out HA4.out (by omega)).mono ?_
      rintro e w5 ⟨⟨v, rfl, hown⟩, hbel⟩
      have HB5 := Lib.hid hbel
      obtain ⟨g1, cc1, rfl, _, _, _, _⟩ := hown.form (by rw [HL.out]; omega)
      rw [HL.out] at hown ⊢
      obtain ⟨hg1b, hg1w, hcell, hfr⟩ := hown.known HL.out (by omega)
      have HO5 := Lib.hid hown
      have q0 := hcell K (by omega)
      have q1 := hcell (K + 1) (by omega)
      have f0 := hfr K
      have f1 := hfr (K + 1)
      have HG1 := Lib.hid (And.intro hg1b hg1w)
      clear hown hbel hcell hfr hg1b
      obtain ⟨laid0, hlaid0⟩ : ∃ l, (all.set K 0).set (K + 1) 0 = l := ⟨_, rfl⟩
      have HO6 := Lib.hid (show OI ((w5.setCell ⟨g1, K, none⟩ (.int .u8 0)).setCell ⟨g1, K + 1, none⟩ (.int .u8 0)) w4.heap.size 5 .u8 (.slice (some ⟨g1, 0, none⟩) L cc1) laid0 by
        rw [← hlaid0]; exact OI.set' (OI.set' HO5.out HL.out K 0) (by simp [HL.out]) (K + 1) 0)
      have HLL := Lib.hid (show laid0.length = L by rw [← hlaid0]; simp [HL.out])
      have HLB := Lib.hid (show Byt laid0 by rw [← hlaid0]; exact (HAB.out.set _ _ (by omega)).set _ _ (by omega))
      have HLD := Lib.hid hlaid0
      clear hlaid0
      obtain ⟨o1, ho1'⟩ : ∃ o, Sm.ones 0 0 laid0 = o := ⟨_, rfl⟩
      obtain ⟨p0, p1⟩ : 0 ≤ o1 ∧ o1 ≤ 65535 := by rw [← ho1']; exact ones_bd laid0 HLB.out
      have HO1 := Lib.hid ho1'
      clear ho1'
      go_wp2_with fail
      refine (onesOf_at _ L _ laid0 _ HLL.out HO6.out.ri HLB.out (by omega)).mono ?_
      rintro e w' ⟨rfl, rfl⟩
      rw [HO1.out]
      clear q0 q1 f0 f1
      go_upto_region 16 with fail
      refine cut_world (fun W => OI W w4.heap.size 5 .u8 (.slice (some ⟨g1, 0, none⟩) L cc1) laid0 ∧ Below w4.heap.size w4 W) (by exact ⟨HO6.out, (HB5.out.setCell HG1.out.1 _).setCell HG1.out.1 _⟩) ?_
      rintro W6 ⟨hown, hbel⟩
      clear HB5 hg1w
      obtain ⟨hg1b, hg1w, hcell, hfr⟩ := hown.known HLL.out (by omega)
      have HW6 := Lib.hid (And.intro hown hbel)
      have q0 := hcell K (by omega)
      have q1 := hcell (K + 1) (by omega)
      have f0 := hfr K
      have f1 := hfr (K + 1)
      clear hown hbel hcell hfr HO6 HO5 hg1b
      go_upto_region 17 with fail
      obtain ⟨laid, hlaid⟩ : ∃ l, (laid0.set K ((65535 - o1) / 256)).set (K + 1) ((65535 - o1) % 256) = l := ⟨_, rfl⟩
      have HLL2 := Lib.hid (show laid.length = L by rw [← hlaid]; simp [HLL.out])
      have HLB2 := Lib.hid (show Byt laid by rw [← hlaid]; exact (HLB.out.set _ _ (by omega)).set _ _ (by omega))
      have HLD2 := Lib.hid hlaid
      clear hlaid q0 q1 f0 f1
      refine cut_world (fun W => OI W w4.heap.size 5 .u8 (.slice (some ⟨g1, 0, none⟩) L cc1) laid ∧ Below w4.heap.size w4 W) (by
        refine ⟨?_, (HW6.out.2.setCell HG1.out.1 _).setCell HG1.out.1 _⟩
        rw [← HLD2.out]
        exact OI.set' (OI.set' HW6.out.1 HLL.out K _) (by simp [HLL.out]) (K + 1) _) ?_
      rintro W7 ⟨hown, hbel⟩
      have HW7 := Lib.hid (And.intro hown hbel)
      clear hown hbel HW6
      go_wp2_with fail
      refine (clone_at _ L _ all _ HL.out (HA4.out.below HW7.out.2) (by omega)).mono ?_
      rintro e W8 ⟨⟨v, rfl, hown⟩, hbel⟩
      obtain ⟨g2, cc2, rfl, _, _, _, _⟩ := hown.form (by rw [HL.out]; omega)
      rw [HL.out] at hown ⊢
      have HT8 := Lib.hid hown
      have HB8 := Lib.hid hbel
      clear hown hbel
      go_wp2_with fail
      refine (clone_at _ L _ all _ HL.out (HA4.out.below (HW7.out.2.trans (HB8.out.mono HW7.out.2.size))) (by omega)).mono ?_
      rintro e W9 ⟨⟨v, rfl, hown⟩, hbel⟩
      obtain ⟨g3, cc3, rfl, _, _, _, _⟩ := hown.form (by rw [HL.out]; omega)
      rw [HL.out] at hown ⊢
      obtain ⟨hg2b, hg2w, hcell, hfr⟩ := (HT8.out.below hbel).known HL.out (by omega)
      have HG2 := Lib.hid (And.intro hg2b (And.intro (HT8.out.known HL.out (by omega)).2.1 hg2w))
      obtain ⟨hg3b, hg3w, _, _⟩ := hown.known HL.out (by omega)
      have HG3 := Lib.hid (And.intro hg3b hg3w)
      have HT9 := Lib.hid (HT8.out.below hbel)
      have HD9 := Lib.hid hown
      have HB9 := Lib.hid hbel
      have q0 := hcell K (by omega)
      have q1 := hcell (K + 1) (by omega)
      have f0 := hfr K
      have f1 := hfr (K + 1)
      clear hown hbel hcell hfr HT8 hg2b hg3b hg3w
      go_wp2_with fail
      obtain ⟨T, hT⟩ : ∃ l, (all.set K (next / 256)).set (K + 1) (next % 256) = l := ⟨_, rfl⟩
      have HTL := Lib.hid (show T.length = L by rw [← hT]; simp [HL.out])
      have HTB := Lib.hid (show Byt T by rw [← hT]; exact (HAB.out.set _ _ (by omega)).set _ _ (by omega))
      have HTD := Lib.hid hT
      clear hT q0 q1 f0 f1
      refine cut_world (fun W => OI W w4.heap.size 5 .u8 (.slice (some ⟨g1, 0, none⟩) L cc1) laid ∧ OI W W7.heap.size 5 .u8 (.slice (some ⟨g2, 0, none⟩) L cc2) T ∧ OI W W8.heap.size 5 .u8 (.slice (some ⟨g3, 0, none⟩) L cc3) all ∧ Below w4.heap.size w4 W ∧ W9.heap.size ≤ W.heap.size) (by
        have hx := ((below_trans HB8.out HB9.out).setCell HG2.out.1 (p := ⟨g2, K, none⟩) (.int .u8 (next / 256))).setCell HG2.out.1 (p := ⟨g2, K + 1, none⟩) (.int .u8 (next % 256))
        refine ⟨HW7.out.1.below hx, ?_, ?_, HW7.out.2.trans (hx.mono HW7.out.2.size), ?_⟩
        · rw [← HTD.out]
          exact OI.set' (OI.set' HT9.out HL.out K _) (by simp [HL.out]) (K + 1) _
        · have hne : (Value.slice (some ⟨g3, 0, none⟩) L cc3).ownBlock ≠ some g2 := by
            have := HG2.out.2.1
            have := HG3.out.1
            simp [Value.ownBlock]; omega
          exact (HD9.out.other hne _).other hne _
        · simp [World.setCell]) ?_
      rintro W10 ⟨hl10, ht10, hd10, hb10, hs10⟩
      have HW10 := Lib.hid (And.intro hl10 (And.intro ht10 (And.intro hd10 hb10)))
      have hL3 : L ≤ cc3 := by
        have := hd10.ri.2.1
        rw [HL.out] at this; exact this
      have hg3w : g3 < W10.heap.size := by have := HG3.out.2; omega
      have HG4 := Lib.hid (And.intro (HW7.out.1.known HLL2.out (by omega)).2.1 HW7.out.2.size)
      clear hl10 ht10 hd10 hb10 HT9 HD9 HB8 HB9 HW7 hs10 hg2w hg1w
      have hk0 : (0 : Int) ≤ (K : Int) := by omega
      have hk1 : (K : Int) ≤ (L : Int) := by omega
      have hk2 : ¬ cc3 = K := by omega
      go_region_held3 (fun _ => True) (trivial) (first | (go_at_call 26; refine (big_at _ word _ 4 _ (by rw [IntKind.wrap_u64]; omega) (by rfl) (by omega) (by omega) (by omega)).mono ?_; rintro e W11 ⟨⟨v, rfl, hown⟩, hbel⟩; obtain ⟨gv, cv, rfl, _, _, _, _⟩ := hown.form (by rw [bigB_length]; omega); rw [bigB_length] at hown ⊢; have HV := Lib.hid hown; have HBV := Lib.hid hbel; clear hown hbel) | (refine step_copy_oi (by rfl) (.tmp 144) (.tmp 147) 22 (by rfl) 5 Try.underlying22 size5 .u8 W8.heap.size g3 K L cc3 4 (L - K) _ cv _ all (bigB word 4) (by rfl) (by rfl) (bigB_length _ _) (HV.out.ri) (HW10.out.2.2.1.below (below_undrew HBV.out)) HL.out (by omega) (by omega) ?_; intro W12 hown hbel))
      have hg34 : w4.heap.size ≤ g3 := by have := HG3.out.1; have := HG2.out.1; have := HG2.out.2.1; have := HG4.out.2; omega
      obtain ⟨Wd, hWd⟩ : ∃ l, all.take K ++ (bigB word 4 ++ all.drop (K + 4)) = l := ⟨_, rfl⟩
      have HWD := Lib.hid hWd
      have HWL := Lib.hid (show Wd.length = L by rw [← hWd]; simp [bigB_length, HL.out]; omega)
      have HWB := Lib.hid (show Byt Wd by rw [← hWd]; exact (HAB.out.take _).append ((bigB_byt _ _).append (HAB.out.drop _)))
      have hbx : Below w4.heap.size W10 W12 := ((below_undrew HBV.out).mono (by have := HW10.out.2.2.2.size; omega)).trans (hbel.mono hg34)
      have HW12 := Lib.hid (show OI W12 w4.heap.size 5 .u8 (.slice (some ⟨g1, 0, none⟩) L cc1) laid ∧ OI W12 W7.heap.size 5 .u8 (.slice (some ⟨g2, 0, none⟩) L cc2) T ∧ OI W12 W8.heap.size 5 .u8 (.slice (some ⟨g3, 0, none⟩) L cc3) Wd ∧ Below w4.heap.size w4 W12 by
        refine ⟨?_, ?_, by rw [← hWd]; exact hown, HW10.out.2.2.2.trans hbx⟩
        · exact ((HW10.out.1.below (below_undrew HBV.out)).keep HLL2.out hbel (by have := HG4.out.1; have := HG2.out.1; have := HG2.out.2.1; have := HG3.out.1; omega))
        · exact ((HW10.out.2.1.below (below_undrew HBV.out)).keep HTL.out hbel (by have := HG2.out.2.1; have := HG3.out.1; omega)))
      clear hown hbel hbx HW10 HV HBV hWd hk0 hk1 hk2
      obtain ⟨z0, hz0⟩ : ∃ z, all.getD K 0 = z := ⟨_, rfl⟩
      obtain ⟨z1, hz1⟩ : ∃ z, all.getD (K + 1) 0 = z := ⟨_, rfl⟩
      obtain ⟨z2, hz2⟩ : ∃ z, all.getD (K + 2) 0 = z := ⟨_, rfl⟩
      obtain ⟨z3, hz3⟩ : ∃ z, all.getD (K + 3) 0 = z := ⟨_, rfl⟩
      have HZ4 := Lib.hid (And.intro hz0 (And.intro hz1 (And.intro hz2 hz3)))
      obtain ⟨z0a, z0b⟩ : 0 ≤ z0 ∧ z0 ≤ 255 := by rw [← hz0]; exact HAB.out.getD K
      obtain ⟨z1a, z1b⟩ : 0 ≤ z1 ∧ z1 ≤ 255 := by rw [← hz1]; exact HAB.out.getD (K + 1)
      obtain ⟨z2a, z2b⟩ : 0 ≤ z2 ∧ z2 ≤ 255 := by rw [← hz2]; exact HAB.out.getD (K + 2)
      obtain ⟨z3a, z3b⟩ : 0 ≤ z3 ∧ z3 ≤ 255 := by rw [← hz3]; exact HAB.out.getD (K + 3)
      have HA12 := Lib.hid (HA4.out.below HW12.out.2.2.2)
      obtain ⟨ab, ao, rfl, hab, k0⟩ := HA12.out.at K (by rw [HL.out]; omega)
      obtain ⟨_, _, e1, _, k1⟩ := HA12.out.at (K + 1) (by rw [HL.out]; omega)
      cases e1
      obtain ⟨_, _, e1, _, k2⟩ := HA12.out.at (K + 2) (by rw [HL.out]; omega)
      cases e1
      obtain ⟨_, _, e1, _, k3⟩ := HA12.out.at (K + 3) (by rw [HL.out]; omega)
      cases e1
      rw [hz0] at k0
      rw [hz1] at k1
      rw [hz2] at k2
      rw [hz3] at k3
      clear hz0 hz1 hz2 hz3
      go_wp2_with fail
      have j1 : IntKind.i64.wrap ((K : Int) + 1) = (K : Int) + 1 := IntWalk.i64_in _ (by omega)
      have j2 : IntKind.i64.wrap ((K : Int) + 2) = (K : Int) + 2 := IntWalk.i64_in _ (by omega)
      have j3 : IntKind.i64.wrap ((K : Int) + 3) = (K : Int) + 3 := IntWalk.i64_in _ (by omega)
      have j4 : ((K : Int) + 1).toNat = K + 1 := by omega
      have j5 : ((K : Int) + 2).toNat = K + 2 := by omega
      have j6 : ((K : Int) + 3).toNat = K + 3 := by omega
      have i0 : (0 : Int) ≤ (K : Int) := by clear j1 j2 j3 j4 j5 j6; omega
      have i1 : (K : Int) < (L : Int) := by clear j1 j2 j3 j4 j5 j6; omega
      have i2 : (0 : Int) ≤ (K : Int) + 1 := by clear j1 j2 j3 j4 j5 j6; omega
      have i3 : (K : Int) + 1 < (L : Int) := by clear j1 j2 j3 j4 j5 j6; omega
      have i4 : (0 : Int) ≤ (K : Int) + 2 := by clear j1 j2 j3 j4 j5 j6; omega
      have i5 : (K : Int) + 2 < (L : Int) := by clear j1 j2 j3 j4 j5 j6; omega
      have i6 : (0 : Int) ≤ (K : Int) + 3 := by clear j1 j2 j3 j4 j5 j6; omega
      have i7 : (K : Int) + 3 < (L : Int) := by clear j1 j2 j3 j4 j5 j6; omega
      have a1 : IntKind.u16.wrap z0 = z0 := by clear j1 j2 j3 j4 j5 j6; rw [IntKind.wrap_u16]; omega
      have a2 : IntKind.u16.wrap z1 = z1 := by clear a1 j1 j2 j3 j4 j5 j6; rw [IntKind.wrap_u16]; omega
      have a3 : IntKind.u16.wrap (z0 * 256) = z0 * 256 := by clear a1 a2 j1 j2 j3 j4 j5 j6; rw [IntKind.wrap_u16]; omega
      have a4 : bits .or .u16 (z0 * 256) z1 = z0 * 256 + z1 := or_u16_join z0 z1 ⟨z0a, z0b⟩ ⟨z1a, z1b⟩
      go_quiet (fail)
      clear a1 a2 a3 a4
      go_wp2_with fail
      have hold0 : 0 ≤ z0 * 256 + z1 := by clear j1 j2 j3 j4 j5 j6; omega
      have hold1 : z0 * 256 + z1 ≤ 65535 := by clear j1 j2 j3 j4 j5 j6; omega
      have HOLD := Lib.hid (show ∃ old, z0 * 256 + z1 = old from ⟨_, rfl⟩)
      have a1 : IntKind.u32.wrap (z0 * 256 + z1) = z0 * 256 + z1 := by clear j1 j2 j3 j4 j5 j6; rw [IntKind.wrap_u32]; omega
      have a2 : IntKind.u32.wrap ((z0 * 256 + z1) * 65536) = (z0 * 256 + z1) * 65536 := by clear a1 j1 j2 j3 j4 j5 j6; rw [IntKind.wrap_u32]; omega
      have a3 : IntKind.u32.wrap z2 = z2 := by clear a1 a2 j1 j2 j3 j4 j5 j6; rw [IntKind.wrap_u32]; omega
      have a4 : IntKind.u32.wrap (z2 * 256) = z2 * 256 := by clear a1 a2 a3 j1 j2 j3 j4 j5 j6; rw [IntKind.wrap_u32]; omega
      have a5 : IntKind.u32.wrap z3 = z3 := by clear a1 a2 a3 a4 j1 j2 j3 j4 j5 j6; rw [IntKind.wrap_u32]; omega
      have a6 : bits .or .u32 ((z0 * 256 + z1) * 65536) (z2 * 256) = (z0 * 256 + z1) * 65536 + z2 * 256 := by clear a1 a2 a3 a4 a5 j1 j2 j3 j4 j5 j6; exact or_u32_join 16 _ _ (by omega) (by omega) (by omega) (by omega)
      have a7 : bits .or .u32 ((z0 * 256 + z1) * 65536 + z2 * 256) z3 = (z0 * 256 + z1) * 65536 + z2 * 256 + z3 := by clear a1 a2 a3 a4 a5 a6 j1 j2 j3 j4 j5 j6; exact or_u32_join 8 _ _ (by omega) (by omega) (by omega) (by omega)
      go_quiet (fail)
      clear a1 a2 a3 a4 a5 a6 a7 j1 j2 j3 j4 j5 j6 i0 i1 i2 i3 i4 i5 i6 i7 k0 k1 k2 k3
      clear HOLD
      have HN := Lib.hid (law_laid all laid0 laid K o1 HK4.out (by rw [HL.out]; omega) HAB.out HLD.out HLD2.out HO1.out)
      obtain ⟨oT, hoT⟩ : ∃ o, Sm.ones 0 0 T = o := ⟨_, rfl⟩
      obtain ⟨oW, hoW⟩ : ∃ o, Sm.ones 0 0 Wd = o := ⟨_, rfl⟩
      have HLT := Lib.hid (fun h => law_turn all T K one oT next z0 z1 HK4.out (by rw [HL.out]; omega) HAB.out HTD.out HZ4.out.1 HZ4.out.2.1 ⟨hx0, hx1⟩ HONE.out hoT h)
      have HLW := Lib.hid (fun h => law_wide all Wd K one oW word z0 z1 z2 z3 HK4.out (by rw [HL.out]; omega) HAB.out HWD.out HZ4.out.1 HZ4.out.2.1 HZ4.out.2.2.1 HZ4.out.2.2.2 ⟨hw0, hw1⟩ HONE.out hoW h)
      obtain ⟨oT0, oT1⟩ : 0 ≤ oT ∧ oT ≤ 65535 := by rw [← hoT]; exact ones_bd T HTB.out
      obtain ⟨oW0, oW1⟩ : 0 ≤ oW ∧ oW ≤ 65535 := by rw [← hoW]; exact ones_bd Wd HWB.out
      have HOT := Lib.hid hoT
      have HOW := Lib.hid hoW
      clear hoT hoW
      go_upto_region 23 with fail
      refine cut_world (fun W => OI W w4.heap.size 5 .u8 (.slice (some ⟨g1, 0, none⟩) L cc1) laid ∧ OI W W7.heap.size 5 .u8 (.slice (some ⟨g2, 0, none⟩) L cc2) T ∧ OI W W8.heap.size 5 .u8 (.slice (some ⟨g3, 0, none⟩) L cc3) Wd ∧ Below w.heap.size w W) (by exact ⟨HW12.out.1, HW12.out.2.1, HW12.out.2.2.1, below_undrewN (below_to HB4.out HB4.out.size HW12.out.2.2.2) _⟩) ?_
      rintro W13 ⟨hl13, ht13, hd13, hb13⟩
      have HW13 := Lib.hid (And.intro hl13 (And.intro ht13 (And.intro hd13 hb13)))
      clear hl13 ht13 hd13 hb13 HW12 HA12 hab
      -- the last tests
      go_wp2_with fail
      refine (sumRight_at _ 1 _ [laid] laid _ rfl (rr_one _ 22 _ _ ((HW13.out.1.ri).rs HLL2.out)) (by intro l hl; simp at hl; subst hl; exact HLB2.out) (by simp) (flat_one _) (by rw [HLL2.out]; omega)).mono ?_
      rintro e W14 ⟨rfl, hbel⟩
      rw [HN.out]
      have hbel2 := below_trans (below_alloc (Below.refl _ _) _) hbel
      have HW14 := Lib.hid (And.intro (HW13.out.2.1.below hbel2) (And.intro (HW13.out.2.2.1.below hbel2) (below_to HW13.out.2.2.2 HW13.out.2.2.2.size hbel2)))
      clear hbel hbel2 HW13
      go_wp2_with fail
      refine (noneClosure_at _ L _ T oT _ HTL.out HW14.out.1.ri HTB.out (by omega) HOT.out).mono ?_
      rintro e w' ⟨rfl, rfl⟩
      by_cases hzT : oT = 0
      · have hbT : (oT == 0) = true := by simp [hzT]
        clear hzT
        go_wp2_with fail
        refine (noneClosure_at _ L _ Wd oW _ HWL.out HW14.out.2.1.ri HWB.out (by omega) HOW.out).mono ?_
        rintro e w' ⟨rfl, rfl⟩
        by_cases hzW : oW = 0
        · have hbW : (oW == 0) = true := by simp [hzW]
          clear hzW
          go_wp2_with fail
          refine (lit_any _).mono ?_
          rintro e w' ⟨rfl, hbel⟩
          go_wp2
          go_ret
          exact ⟨rfl, below_to HW14.out.2.2 HW14.out.2.2.size hbel⟩
        · have hbW : (oW == 0) = false := by simp [hzW]
          have HNW := Lib.hid (HLW.out hzW)
          clear hzW
          go_wp2_with fail
          refine (turn32_to (65535 - one) ((z0 * 256 + z1) * 65536 + z2 * 256 + z3) word oW _ (by omega) (by omega) (by omega) (by omega) (by omega) (by omega) HNW.out).mono ?_
          rintro e w' ⟨rfl, rfl⟩
          go_wp2_with fail
          refine (onesOf_at _ L _ Wd _ HWL.out HW14.out.2.1.ri HWB.out (by omega)).mono ?_
          rintro e w' ⟨rfl, rfl⟩
          rw [HOW.out]
          go_wp2_with fail
          refine (lit_any _).mono ?_
          rintro e w' ⟨rfl, hbel⟩
          go_wp2
          go_ret
          exact ⟨rfl, below_to HW14.out.2.2 HW14.out.2.2.size hbel⟩
      · have hbT : (oT == 0) = false := by simp [hzT]
        have HNT := Lib.hid (HLT.out hzT)
        clear hzT
        go_wp2_with fail
        refine (turn_to (65535 - one) (z0 * 256 + z1) next oT _ (by omega) (by omega) (by omega) (by omega) (by omega) (by omega) HNT.out).mono ?_
        rintro e w' ⟨rfl, rfl⟩
        go_wp2_with fail
        refine (onesOf_at _ L _ T _ HTL.out HW14.out.1.ri HTB.out (by omega)).mono ?_
        rintro e w' ⟨rfl, rfl⟩
        rw [HOT.out]
        go_wp2_with fail
        refine (noneClosure_at _ L _ Wd oW _ HWL.out HW14.out.2.1.ri HWB.out (by omega) HOW.out).mono ?_
        rintro e w' ⟨rfl, rfl⟩
        by_cases hzW : oW = 0
        · have hbW : (oW == 0) = true := by simp [hzW]
          clear hzW
          go_wp2_with fail
          refine (lit_any _).mono ?_
          rintro e w' ⟨rfl, hbel⟩
          go_wp2
          go_ret
          exact ⟨rfl, below_to HW14.out.2.2 HW14.out.2.2.size hbel⟩
        · have hbW : (oW == 0) = false := by simp [hzW]
          have HNW := Lib.hid (HLW.out hzW)
          clear hzW
          go_wp2_with fail
          refine (turn32_to (65535 - one) ((z0 * 256 + z1) * 65536 + z2 * 256 + z3) word oW _ (by omega) (by omega) (by omega) (by omega) (by omega) (by omega) HNW.out).mono ?_
          rintro e w' ⟨rfl, rfl⟩
          go_wp2_with fail
          refine (onesOf_at _ L _ Wd _ HWL.out HW14.out.2.1.ri HWB.out (by omega)).mono ?_
          rintro e w' ⟨rfl, rfl⟩
          rw [HOW.out]
          go_wp2_with fail
          refine (lit_any _).mono ?_
          rintro e w' ⟨rfl, hbel⟩
          go_wp2
          go_ret
          exact ⟨rfl, below_to HW14.out.2.2 HW14.out.2.2.size hbel⟩
end Go.Proofs.Ytfblmlfadgkfkaa
