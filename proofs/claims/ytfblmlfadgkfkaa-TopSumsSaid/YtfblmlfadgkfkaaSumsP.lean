/- Sums: the plain law; own work. -/
import Derived.Test.YtfblmlfadgkfkaaBase
namespace Go.Proofs.Ytfblmlfadgkfkaa.Sm
/-- One step of carrying at each step. -/
def step (i : Nat) (n x : Int) : Int :=
  let m := if i % 2 = 0 then n + x * 256 else n + x
  if m > 65535 then m - 65535 else m
def ones (i : Nat) (n : Int) : List Int → Int
  | [] => n
  | x :: r => ones (i + 1) (step i n x) r
def tot (i : Nat) : List Int → Int
  | [] => 0
  | x :: r => (if i % 2 = 0 then x * 256 else x) + tot (i + 1) r
def canon (n : Int) : Int := if n = 0 then 0 else (n - 1) % 65535 + 1
theorem tot_nonneg : ∀ (l : List Int) (i : Nat), Byt l → 0 ≤ tot i l
  | [], _, _ => Int.le_refl _
  | x :: r, i, h => by
    have hx := h x (by simp)
    have hr := tot_nonneg r (i + 1) (fun y hy => h y (by simp [hy]))
    unfold tot; split <;> omega
theorem tot_le : ∀ (l : List Int) (i : Nat), Byt l → tot i l ≤ 65280 * l.length
  | [], _, _ => by simp [tot]
  | x :: r, i, h => by
    have hx := h x (by simp)
    have hr := tot_le r (i + 1) (fun y hy => h y (by simp [hy]))
    unfold tot; simp only [List.length_cons]; split <;> omega
theorem step_canon (i : Nat) (t x : Int) (ht : 0 ≤ t) (hx : 0 ≤ x ∧ x ≤ 255) : step i (canon t) x = canon (t + if i % 2 = 0 then x * 256 else x) := by
  unfold step canon
  by_cases h : i % 2 = 0
  · simp only [h, if_true]
    split <;> split <;> split <;> omega
  · simp only [h, if_false]
    split <;> split <;> split <;> omega
theorem ones_canon : ∀ (l : List Int) (i : Nat) (t : Int), 0 ≤ t → Byt l → ones i (canon t) l = canon (t + tot i l)
  | [], i, t, _, _ => by simp [ones, tot]
  | x :: r, i, t, ht, h => by
    have hx := h x (by simp)
    unfold ones tot
    rw [step_canon i t x ht hx, ones_canon r (i + 1) _ (by split <;> omega) (fun y hy => h y (by simp [hy]))]
    congr 1; omega
theorem ones_eq (l : List Int) (h : Byt l) : ones 0 0 l = canon (tot 0 l) := by
  have := ones_canon l 0 0 (Int.le_refl _) h
  simpa [canon] using this
theorem tot_append : ∀ (l r : List Int) (i : Nat), tot i (l ++ r) = tot i l + tot (i + l.length) r
  | [], r, i => by simp [tot]
  | x :: l, r, i => by
    simp only [List.cons_append, tot, List.length_cons]
    rw [tot_append l r (i + 1), show i + (l.length + 1) = i + 1 + l.length from by omega]
    omega
theorem tot_set (l : List Int) (k : Nat) (v : Int) : ∀ (i : Nat), k < l.length → tot i (l.set k v) = tot i l + (if (i + k) % 2 = 0 then (v - l.getD k 0) * 256 else v - l.getD k 0) := by
  induction l generalizing k with
  | nil => intro i h; simp at h
  | cons x r ih =>
    intro i h
    cases k with
    | zero => simp only [List.set_cons_zero, tot, List.getD_cons_zero, Nat.add_zero]; split <;> omega
    | succ k =>
      simp only [List.set_cons_succ, tot, List.getD_cons_succ]
      rw [ih k (i + 1) (by simpa using h), show i + 1 + k = i + (k + 1) from by omega]
      split <;> split <;> omega
end Go.Proofs.Ytfblmlfadgkfkaa.Sm
