/- copy into a row of the call's own, told of numbers; own work. -/
import Derived.Test.YtfblmlfadgkfkaaBase
set_option linter.unusedVariables false
namespace Go.Proofs.Ytfblmlfadgkfkaa
open Go.RowKit
theorem OI.cur {w : World} {base g c n : Nat} {e : TypeId} {k : IntKind} {xs : List Int} (h : OI w base e k (.slice (some ⟨g, 0, none⟩) n c) xs) (hn : xs.length = n) :
    ∃ cur : List Value, w.heap[g]? = some (.cells cur.toArray e (0, 0)) ∧ cur.length = c ∧ c ≤ maxLen ∧ n ≤ c ∧ cur.take n = nums k xs ∧ base ≤ g := by
  subst hn
  rcases h.2 with ⟨h1, _⟩ | ⟨g', cap, cur, h1, hb, hh, hnc, hcm, hcs, ht⟩
  · cases h1
  · cases h1
    exact ⟨cur.toList, by simpa using hh, by simpa using hcs, hcm, hnc, by simpa using ht, hb⟩
theorem OI.of_cur {w : World} {base g c n : Nat} {e : TypeId} {k : IntKind} {xs : List Int} (hn : xs.length = n) (cur : List Value) (h1 : w.heap[g]? = some (.cells cur.toArray e (0, 0))) (h2 : cur.length = c) (h3 : c ≤ maxLen) (h4 : n ≤ c) (h5 : cur.take n = nums k xs) (h6 : base ≤ g) :
    OI w base e k (.slice (some ⟨g, 0, none⟩) n c) xs := by
  subst hn
  exact ⟨by simp [nums], .inr ⟨g, c, cur.toArray, rfl, h6, h1, h4, h3, by simpa using h2, by simpa using h5⟩⟩
theorem step_copy_oi {P : Program} {ops : Array Oper} {o : Oper} {a : Act} {w : World} {K : Act → World → Prop} {Q : Exit → Act → World → Prop} {E : Prop} (hgd : o.guard = none) (d s : Operand) (t : TypeId)
    (ho : o.op = .call { callee := .builtin .copy, args := #[d, s], argTypes := #[t, t] }) (e : TypeId) (hu : P.underlying t = some (.slice e)) (hsz : (P.info? e).map (·.size) = some 1)
    (k : IntKind) (base g off n c m dLen dCap sCap : Nat) (As : Option Addr) (xs ys : List Int) (hd : a.eval d = .slice (some ⟨g, off, none⟩) dLen dCap) (hs : a.eval s = .slice As m sCap)
    (hm : ys.length = m) (hr : RI w k As sCap ys) (hown : OI w base e k (.slice (some ⟨g, 0, none⟩) n c) xs) (hn : xs.length = n) (hfit : off + m ≤ n) (hdl : m ≤ dLen)
    (h : ∀ w', OI w' base e k (.slice (some ⟨g, 0, none⟩) n c) (xs.take off ++ (ys ++ xs.drop (off + m))) → Below g w w' → K (a.put o.dst (goInt m)) w') :
    if Region.wanted o (yielded ops a.tmps) = true then Oper.wp P o a w K Q else E := by
  obtain ⟨cur, h1, h2, h3, h4, h5, h6⟩ := hown.cur hn
  have hml : (nums k ys).length = m := by rw [nums_length, hm]
  refine step_copy_splice hgd d s t t ho e hu hsz (some ⟨g, off, none⟩) As dLen dCap m sCap hd hs g off cur e h1 (nums k ys) (by rw [hml]; exact (Nat.min_eq_left hdl).symm) (fun hp => ⟨rfl, ?_⟩) (by rw [hml]; omega) (nums_one k ys) g w (Below.refl _ _) (Nat.le_refl _) ?_
  · obtain ⟨b', o', e', _, _⟩ := hr.at 0 (by omega)
    refine ⟨_, e', fun j v hj => ?_⟩
    have hj' : j < ys.length := by
      rcases Nat.lt_or_ge j ys.length with h | h
      · exact h
      · rw [List.getElem?_eq_none (by simpa [nums] using h)] at hj; cases hj
    obtain ⟨b2, o2, e2, _, hc⟩ := hr.at j hj'
    rw [e'] at e2; cases e2
    rw [add_at, hc, ← hj]
    simp [nums, List.getElem?_map, List.getElem?_eq_getElem hj', List.getD_eq_getElem?_getD]
  · intro w' hh hb
    rw [hml]
    refine h w' (OI.of_cur (by simp [hm, hn]; omega) (splice cur off (nums k ys)) hh.out (by rw [length_splice _ _ _ (by rw [hml]; omega), h2]) h3 h4 ?_ h6) hb
    unfold splice
    rw [hml]
    apply List.ext_getElem?
    intro i
    have hx : ∀ j, j < n → cur[j]? = (nums k xs)[j]? := fun j hj => by rw [← h5, List.getElem?_take, if_pos hj]
    simp only [nums, List.map_append, List.map_take, List.map_drop]
    have hc1 : cur.length = c := h2
    have hy1 : (List.map (Value.int k) ys).length = m := by simpa using hm
    have hx1 : (List.map (Value.int k) xs).length = n := by simpa using hn
    have hx' : ∀ j, j < n → cur[j]? = (List.map (Value.int k) xs)[j]? := hx
    generalize List.map (Value.int k) ys = Y at *
    generalize List.map (Value.int k) xs = X at *
    have ho1 : min off cur.length = off := by omega
    have ho2 : min off X.length = off := by omega
    simp only [List.getElem?_take, List.getElem?_append, List.getElem?_drop, List.length_take, ho1, ho2, hy1]
    by_cases hi : i < n
    · rw [if_pos hi]
      by_cases h7 : i < off
      · simp only [if_pos h7]; exact hx' i hi
      · simp only [if_neg h7]
        by_cases h8 : i - off < m
        · simp only [if_pos h8]
        · simp only [if_neg h8]
          rw [show off + m + (i - off - m) = i from by omega]
          exact hx' i hi
    · rw [if_neg hi, if_neg (by omega), if_neg (by omega), List.getElem?_eq_none (by omega)]
end Go.Proofs.Ytfblmlfadgkfkaa
