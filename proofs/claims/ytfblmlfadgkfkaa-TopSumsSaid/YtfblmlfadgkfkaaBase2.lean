/- More words on memory; own work. -/
import Derived.Test.YtfblmlfadgkfkaaBase
set_option linter.unusedVariables false
namespace Go.Proofs.Ytfblmlfadgkfkaa
open Go.RowKit
theorem rr_new (w : World) (T : TypeId) (vs : List Value) (ls : List (List Int)) (n : Nat) (hn : ls.length = n) (hl : vs.length = n) (h : ∀ i, i < n → RS w (vs.getD i undef) (ls.getD i [])) :
    RR (w.alloc (.cells vs.toArray T)) (some ⟨w.heap.size, 0, none⟩) n ls := by
  subst hn
  exact ⟨vs, row_new w vs T ls.length hl, fun i hi => (h i hi).below (below_alloc (Below.refl _ _) _)⟩
theorem rr_one (w : World) (T : TypeId) (v : Value) (xs : List Int) (h : RS w v xs) : RR (w.alloc (.cells #[v] T)) (some ⟨w.heap.size, 0, none⟩) 1 [xs] :=
  rr_new w T [v] [xs] 1 rfl rfl fun i hi => by
    have : i = 0 := by omega
    subst this; exact h
theorem rr_three (w : World) (T : TypeId) (v1 v2 v3 : Value) (x1 x2 x3 : List Int) (h1 : RS w v1 x1) (h2 : RS w v2 x2) (h3 : RS w v3 x3) : RR (w.alloc (.cells #[v1, v2, v3] T)) (some ⟨w.heap.size, 0, none⟩) 3 [x1, x2, x3] :=
  rr_new w T [v1, v2, v3] [x1, x2, x3] 3 rfl rfl fun i hi => by
    match i, hi with
    | 0, _ => exact h1
    | 1, _ => exact h2
    | 2, _ => exact h3
theorem RI.rs {w : World} {A : Option Addr} {c n : Nat} {xs : List Int} (h : RI w .u8 A c xs) (hn : xs.length = n) : RS w (.slice A n c) xs := by subst hn; exact ⟨A, c, rfl, h⟩
end Go.Proofs.Ytfblmlfadgkfkaa
