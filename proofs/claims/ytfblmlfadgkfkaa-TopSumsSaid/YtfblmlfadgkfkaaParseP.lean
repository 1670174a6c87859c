/- Addresses read: the plain law; own work. -/
import Derived.Test.YtfblmlfadgkfkaaBase
import Derived.Test.YtfblmlfadgkfkaaTextP
set_option linter.unusedVariables false
namespace Go.Proofs.Ytfblmlfadgkfkaa.Pa
structure St where
  a : Nat
  n : Nat
  p : Nat
  some : Bool
  deriving DecidableEq
def St.ok (s : St) : Prop := s.n ≤ 255 ∧ s.p ≤ 3 ∧ s.a < 256 ^ s.p
def step (s : St) (c : Nat) : Option St :=
  if 48 ≤ c ∧ c ≤ 57 then (if s.n * 10 + (c - 48) > 255 then none else some ⟨s.a, s.n * 10 + (c - 48), s.p, true⟩)
  else if c = 46 ∧ s.some = true ∧ s.p < 3 then some ⟨s.a * 256 + s.n, 0, s.p + 1, false⟩
  else none
theorem step_ok {s t : St} {c : Nat} (h : s.ok) (e : step s c = some t) : t.ok := by
  obtain ⟨h1, h2, h3⟩ := h
  unfold step at e
  split at e
  · split at e
    · cases e
    · cases e; exact ⟨by simp; omega, h2, h3⟩
  · split at e
    · rename_i hc
      cases e
      refine ⟨by simp, by simp; omega, ?_⟩
      show s.a * 256 + s.n < 256 ^ (s.p + 1)
      rw [Nat.pow_succ]; omega
    · cases e
def run : Option St → List UInt8 → Option St
  | none, _ => none
  | some s, [] => some s
  | some s, c :: r => run (step s c.toNat) r
def init : St := ⟨0, 0, 0, false⟩
theorem init_ok : init.ok := ⟨by simp [init], by simp [init], by simp [init]⟩
theorem run_none (l : List UInt8) : run none l = none := by cases l <;> rfl
theorem run_append : ∀ (l r : List UInt8) (s : Option St), run s (l ++ r) = run (run s l) r
  | [], r, none => by simp [run_none, run]
  | [], r, some s => by cases r <;> rfl
  | c :: l, r, none => by simp [run_none]
  | c :: l, r, some s => by simp only [List.cons_append, run]; exact run_append l r _
theorem run_snoc (l : List UInt8) (k : Nat) (hk : k < l.length) (s : Option St) : run s (l.take (k + 1)) = run (run s (l.take k)) [l[k]] := by
  rw [List.take_succ_eq_append_getElem hk, run_append]
theorem run_ok : ∀ (l : List UInt8) (s t : St), s.ok → run (some s) l = some t → t.ok
  | [], s, t, h, e => by simp [run] at e; subst e; exact h
  | c :: r, s, t, h, e => by
    simp only [run] at e
    cases hs : step s c.toNat with
    | none => rw [hs, run_none] at e; cases e
    | some u => rw [hs] at e; exact run_ok r u t (step_ok h hs) e
theorem run_fail (l : List UInt8) (k : Nat) (s : Option St) (h : run s (l.take k) = none) : run s l = none := by
  have := run_append (l.take k) (l.drop k) s
  rw [List.take_append_drop, h, run_none] at this
  exact this
/-- What is answered. -/
def res (text : Nat → List UInt8) (l : List UInt8) : Nat × Nat :=
  match run (some init) l with
  | none => (0, 3)
  | some s => if text (s.a * 256 + s.n) = l then (s.a * 256 + s.n, 0) else (0, 3)
end Go.Proofs.Ytfblmlfadgkfkaa.Pa
