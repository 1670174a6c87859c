/- TopSums: the plain laws. -/
import Derived.Test.YtfblmlfadgkfkaaBase
import Derived.Test.YtfblmlfadgkfkaaSumsP
import Derived.Test.YtfblmlfadgkfkaaW5
set_option linter.unusedVariables false
namespace Go.Proofs.Ytfblmlfadgkfkaa
theorem canon_pos {t : Int} (h : 0 < t) : Sm.canon t = (t - 1) % 65535 + 1 := by unfold Sm.canon; rw [if_neg (by omega)]
theorem canon_zero {t : Int} (h : 0 ≤ t) (hz : Sm.canon t = 0) : t = 0 := by
  unfold Sm.canon at hz; split at hz <;> omega
theorem tot_set2 (l : List Int) (K : Nat) (a b : Int) (hK : K % 2 = 0) (h : K + 1 < l.length) : Sm.tot 0 ((l.set K a).set (K + 1) b) = Sm.tot 0 l + (a - l.getD K 0) * 256 + (b - l.getD (K + 1) 0) := by
  rw [Sm.tot_set _ (K + 1) b 0 (by simpa using h), Sm.tot_set l K a 0 (by omega)]
  rw [if_pos (by omega), if_neg (by omega)]
  have : (l.set K a).getD (K + 1) 0 = l.getD (K + 1) 0 := by simp [List.getD_eq_getElem?_getD]
  rw [this]
theorem law_laid (all laid0 laid : List Int) (K : Nat) (o1 : Int) (hK : K % 4 = 0) (h : K + 1 < all.length) (hb : Byt all) (h0 : (all.set K 0).set (K + 1) 0 = laid0)
    (h1 : (laid0.set K ((65535 - o1) / 256)).set (K + 1) ((65535 - o1) % 256) = laid) (ho : Sm.ones 0 0 laid0 = o1) : Sm.ones 0 0 laid = 65535 := by
  have hb0 : Byt laid0 := by rw [← h0]; exact (hb.set _ _ (by omega)).set _ _ (by omega)
  have hl0 : laid0.length = all.length := by rw [← h0]; simp
  rw [Sm.ones_eq _ hb0] at ho
  have hbd : 0 ≤ o1 ∧ o1 ≤ 65535 := by rw [← ho]; unfold Sm.canon; split <;> omega
  have hbl : Byt laid := by rw [← h1]; exact (hb0.set _ _ (by omega)).set _ _ (by omega)
  rw [Sm.ones_eq _ hbl, ← h1, tot_set2 _ _ _ _ (by omega) (by rw [hl0]; exact h)]
  have g0 : laid0.getD K 0 = 0 := by
    rw [← h0]; simp [List.getD_eq_getElem?_getD, List.getElem?_set]; rw [if_pos (by omega)]; rfl
  have g1 : laid0.getD (K + 1) 0 = 0 := by
    rw [← h0]; simp [List.getD_eq_getElem?_getD, List.getElem?_set]; rw [if_pos (by omega)]; rfl
  rw [g0, g1]
  have hn := Sm.tot_nonneg _ 0 hb0
  generalize Sm.tot 0 laid0 = t at *
  unfold Sm.canon at ho ⊢
  split at ho <;> split <;> omega
theorem law_turn (all T : List Int) (K : Nat) (one oT next z0 z1 : Int) (hK : K % 4 = 0) (h : K + 1 < all.length) (hb : Byt all) (hT : (all.set K (next / 256)).set (K + 1) (next % 256) = T)
    (h0 : all.getD K 0 = z0) (h1 : all.getD (K + 1) 0 = z1) (hn : 0 ≤ next ∧ next ≤ 65535) (ho : Sm.ones 0 0 all = one) (hoT : Sm.ones 0 0 T = oT) (hne : oT ≠ 0) :
    Sm.canon (65535 - (65535 - one) + (65535 - (z0 * 256 + z1)) + next) = oT := by
  have hbT : Byt T := by rw [← hT]; exact (hb.set _ _ (by omega)).set _ _ (by omega)
  rw [Sm.ones_eq _ hb] at ho
  rw [Sm.ones_eq _ hbT] at hoT
  have hn0 := Sm.tot_nonneg _ 0 hb
  have hn1 := Sm.tot_nonneg _ 0 hbT
  rw [← hT, tot_set2 _ _ _ _ (by omega) h, h0, h1] at hoT hn1
  have hz0 := hb.getD K
  have hz1 := hb.getD (K + 1)
  rw [h0] at hz0
  rw [h1] at hz1
  have hz : 0 < z0 * 256 + z1 → 0 < Sm.tot 0 all := by
    intro hp
    rcases Int.lt_or_le 0 (Sm.tot 0 all) with h2 | h2
    · exact h2
    · exfalso
      have := Sm.tot_nonneg _ 0 ((hb.set K 0 (by omega)).set (K + 1) 0 (by omega))
      rw [tot_set2 _ _ _ _ (by omega) h, h0, h1] at this
      omega
  generalize Sm.tot 0 all = t at *
  unfold Sm.canon at *
  split at ho <;> split at hoT <;> split <;> omega
theorem tot_shift (l : List Int) : ∀ i j : Nat, i % 2 = j % 2 → Sm.tot i l = Sm.tot j l := by
  induction l with
  | nil => intro i j _; rfl
  | cons x r ih =>
    intro i j h
    unfold Sm.tot
    rw [ih (i + 1) (j + 1) (by omega), h]
theorem tot_four (a b c d : Int) (r : List Int) (i : Nat) (hi : i % 2 = 0) : Sm.tot i (a :: b :: c :: d :: r) = a * 256 + b + (c * 256 + d) + Sm.tot i r := by
  simp only [Sm.tot]
  rw [if_pos hi, if_neg (by omega), if_pos (by omega), if_neg (by omega), tot_shift r (i + 1 + 1 + 1 + 1) i (by omega)]
  omega
theorem split4 (all : List Int) (K : Nat) (h : K + 3 < all.length) : all = all.take K ++ (all.getD K 0 :: all.getD (K + 1) 0 :: all.getD (K + 2) 0 :: all.getD (K + 3) 0 :: all.drop (K + 4)) := by
  have g : ∀ j, j < all.length → all.drop j = all.getD j 0 :: all.drop (j + 1) := fun j hj => by
    rw [List.drop_eq_getElem_cons hj]
    simp [List.getD_eq_getElem?_getD, List.getElem?_eq_getElem hj]
  rw [← g (K + 3) (by omega), ← g (K + 2) (by omega), ← g (K + 1) (by omega), ← g K (by omega), List.take_append_drop]
theorem law_wide (all W : List Int) (K : Nat) (one oW word z0 z1 z2 z3 : Int) (hK : K % 4 = 0) (h : K + 3 < all.length) (hb : Byt all) (hW : all.take K ++ (bigB word 4 ++ all.drop (K + 4)) = W)
    (h0 : all.getD K 0 = z0) (h1 : all.getD (K + 1) 0 = z1) (h2 : all.getD (K + 2) 0 = z2) (h3 : all.getD (K + 3) 0 = z3) (hn : 0 ≤ word ∧ word ≤ 4294967295) (ho : Sm.ones 0 0 all = one) (hoW : Sm.ones 0 0 W = oW) (hne : oW ≠ 0) :
    Sm.canon (Sm.canon (65535 - (65535 - one) + (65535 - ((z0 * 256 + z1) * 65536 + z2 * 256 + z3) / 65536) + word / 65536) + (65535 - ((z0 * 256 + z1) * 65536 + z2 * 256 + z3) % 65536) + word % 65536) = oW := by
  have hbW : Byt W := by rw [← hW]; exact (hb.take _).append ((bigB_byt _ _).append (hb.drop _))
  rw [Sm.ones_eq _ hb] at ho
  rw [Sm.ones_eq _ hbW] at hoW
  have e0 := hb.getD K
  have e1 := hb.getD (K + 1)
  have e2 := hb.getD (K + 2)
  have e3 := hb.getD (K + 3)
  rw [h0] at e0
  rw [h1] at e1
  rw [h2] at e2
  rw [h3] at e3
  have hs := split4 all K h
  rw [h0, h1, h2, h3] at hs
  have hlt : (all.take K).length = K := by rw [List.length_take]; omega
  have ht : Sm.tot 0 all = Sm.tot 0 (all.take K) + (z0 * 256 + z1 + (z2 * 256 + z3) + Sm.tot K (all.drop (K + 4))) := by
    have := congrArg (Sm.tot 0) hs
    rw [Sm.tot_append, tot_four _ _ _ _ _ _ (by rw [hlt]; omega), hlt, Nat.zero_add] at this
    exact this
  have hw : Sm.tot 0 W = Sm.tot 0 (all.take K) + (word / 65536 + word % 65536 + Sm.tot K (all.drop (K + 4))) := by
    rw [← hW, Sm.tot_append, hlt, Nat.zero_add]
    show Sm.tot 0 (all.take K) + Sm.tot K (word / 2 ^ (8 * 3) % 256 :: word / 2 ^ (8 * 2) % 256 :: word / 2 ^ (8 * 1) % 256 :: word / 2 ^ (8 * 0) % 256 :: all.drop (K + 4)) = _
    rw [tot_four _ _ _ _ _ _ (by omega), show (2 : Int) ^ (8 * 3) = 16777216 from by decide, show (2 : Int) ^ (8 * 2) = 65536 from by decide, show (2 : Int) ^ (8 * 1) = 256 from by decide, show (2 : Int) ^ (8 * 0) = 1 from by decide]
    omega
  have hd1 : ((z0 * 256 + z1) * 65536 + z2 * 256 + z3) / 65536 = z0 * 256 + z1 := by omega
  have hd2 : ((z0 * 256 + z1) * 65536 + z2 * 256 + z3) % 65536 = z2 * 256 + z3 := by omega
  rw [hd1, hd2]
  have p1 := Sm.tot_nonneg _ 0 (hb.take K)
  have p2 := Sm.tot_nonneg _ K (hb.drop (K + 4))
  generalize Sm.tot 0 (all.take K) = t1 at *
  generalize Sm.tot K (all.drop (K + 4)) = t2 at *
  rw [hw] at hoW
  rw [ht] at ho
  clear hw ht hs hW
  have hwd : 0 ≤ word / 65536 ∧ word / 65536 ≤ 65535 ∧ 0 ≤ word % 65536 ∧ word % 65536 ≤ 65535 := by omega
  generalize word / 65536 = wh at *
  generalize word % 65536 = wl at *
  clear hd1 hd2
  have h65 : ∀ x : Int, 65535 - (65535 - x) = x := by intro x; omega
  rw [h65]
  -- the inner number is not nought
  have hone : 0 ≤ one ∧ one ≤ 65535 := by rw [← ho]; unfold Sm.canon; split <;> omega
  have hin : 0 < one + (65535 - (z0 * 256 + z1)) + wh := by
    rcases Int.lt_or_le 0 one with h7 | h7
    · omega
    · have : one = 0 := by omega
      subst this
      have := canon_zero (by omega) ho
      omega
  rw [canon_pos hin]
  have htp : 0 < t1 + (wh + wl + t2) := by
    rcases Int.lt_or_le 0 (t1 + (wh + wl + t2)) with h7 | h7
    · exact h7
    · exfalso
      have : t1 + (wh + wl + t2) = 0 := by omega
      rw [this] at hoW
      exact hne (by rw [← hoW]; rfl)
  rw [canon_pos htp] at hoW
  rw [canon_pos (by omega)]
  unfold Sm.canon at ho
  split at ho <;> omega
end Go.Proofs.Ytfblmlfadgkfkaa
