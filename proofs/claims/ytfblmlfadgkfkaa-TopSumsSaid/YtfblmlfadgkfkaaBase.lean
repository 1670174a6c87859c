/- Words on memory for walks: rows that are read, rows that a call has made; own work. -/
import Derived.WalkKit
import Derived.ProofKit
import Derived.Handy
import Derived.Outline
import Derived.Laws.AppendOwnNone
import Derived.Laws.CopyOwn
import Derived.Deep.QuietTactic
import Derived.BigQuiet
import Derived.Deep.DeepCutAuto
import Derived.Lib.Hide
import Derived.WalkSpells
import Derived.Lib.AppendZeros
import Derived.WalkLawsBesides
import Derived.Deep.DeepFit
set_option linter.unusedVariables false
namespace Go.Proofs.Ytfblmlfadgkfkaa
open Go.RowKit

/-- A slice of one-cell elements that can be read: n cells at A. -/
def Row (w : World) (A : Option Addr) (n c : Nat) (cs : List Value) : Prop :=
  cs.length = n ∧ n ≤ c ∧ (A = none → c = 0) ∧ ∀ i, i < n → ∃ b off, A = some ⟨b, off, none⟩ ∧ w.cell? ⟨b, off + i, none⟩ = some (cs.getD i undef)
def nums (k : IntKind) (xs : List Int) : List Value := xs.map (Value.int k)
theorem nums_length (k : IntKind) (xs : List Int) : (nums k xs).length = xs.length := by simp [nums]
theorem nums_append (k : IntKind) (xs ys : List Int) : nums k (xs ++ ys) = nums k xs ++ nums k ys := by simp [nums]
theorem nums_getD (k : IntKind) (xs : List Int) (i : Nat) (h : i < xs.length) : (nums k xs).getD i undef = .int k (xs.getD i 0) := by
  simp [nums, List.getD_eq_getElem?_getD, List.getElem?_map, List.getElem?_eq_getElem h]
theorem nums_one (k : IntKind) (xs : List Int) : ∀ u ∈ nums k xs, u.oneCell' = true := by
  intro u hu; obtain ⟨x, _, rfl⟩ := List.mem_map.1 hu; rfl
/-- A slice of whole numbers that can be read. -/
def RI (w : World) (k : IntKind) (A : Option Addr) (c : Nat) (xs : List Int) : Prop := Row w A xs.length c (nums k xs)
def Byt (l : List Int) : Prop := ∀ x ∈ l, 0 ≤ x ∧ x ≤ 255
theorem Byt.getD {l : List Int} (h : Byt l) (i : Nat) : 0 ≤ l.getD i 0 ∧ l.getD i 0 ≤ 255 := by
  rw [List.getD_eq_getElem?_getD]
  by_cases hi : i < l.length
  · simpa [List.getElem?_eq_getElem hi] using h _ (List.getElem_mem hi)
  · simp [List.getElem?_eq_none (Nat.not_lt.1 hi)]
theorem Byt.append {l r : List Int} (h : Byt l) (k : Byt r) : Byt (l ++ r) := fun x hx => by
  rcases List.mem_append.1 hx with h1 | h1
  · exact h x h1
  · exact k x h1
theorem Byt.take {l : List Int} (h : Byt l) (n : Nat) : Byt (l.take n) := fun x hx => h x (List.mem_of_mem_take hx)
theorem Byt.drop {l : List Int} (h : Byt l) (n : Nat) : Byt (l.drop n) := fun x hx => h x (List.mem_of_mem_drop hx)
theorem Byt.set {l : List Int} (h : Byt l) (n : Nat) (v : Int) (hv : 0 ≤ v ∧ v ≤ 255) : Byt (l.set n v) := fun x hx => by
  rcases List.mem_or_eq_of_mem_set hx with h1 | h1
  · exact h x h1
  · subst h1; exact hv
theorem Byt.nil : Byt [] := fun x hx => by cases hx
theorem Byt.cons {x : Int} {l : List Int} (hx : 0 ≤ x ∧ x ≤ 255) (h : Byt l) : Byt (x :: l) := fun y hy => by
  rcases List.mem_cons.1 hy with rfl | h1
  · exact hx
  · exact h y h1

section
variable {w w' : World} {A : Option Addr} {n c : Nat} {cs : List Value} {k : IntKind} {xs : List Int}
theorem Row.at (h : Row w A n c cs) (i : Nat) (hi : i < n) : ∃ b off, A = some ⟨b, off, none⟩ ∧ b < w.heap.size ∧ w.cell? ⟨b, off + i, none⟩ = some (cs.getD i undef) := by
  obtain ⟨b, off, e, hc⟩ := h.2.2.2 i hi
  exact ⟨b, off, e, World.block_lt_of_cell? w _ hc, hc⟩
theorem RI.at (h : RI w k A c xs) (i : Nat) (hi : i < xs.length) : ∃ b off, A = some ⟨b, off, none⟩ ∧ b < w.heap.size ∧ w.cell? ⟨b, off + i, none⟩ = some (.int k (xs.getD i 0)) := by
  obtain ⟨b, off, e, hb, hc⟩ := Row.at h i hi
  rw [nums_getD k xs i hi] at hc
  exact ⟨b, off, e, hb, hc⟩
/-- All at once: nothing is there, or it lies at one place. -/
theorem Row.cases (h : Row w A n c cs) : n = 0 ∨ ∃ b off, A = some ⟨b, off, none⟩ ∧ b < w.heap.size ∧ ∀ i, i < n → w.cell? ⟨b, off + i, none⟩ = some (cs.getD i undef) := by
  rcases Nat.eq_zero_or_pos n with h0 | h0
  · exact .inl h0
  · obtain ⟨b, off, e, hb, hc⟩ := h.at 0 h0
    refine .inr ⟨b, off, e, hb, fun i hi => ?_⟩
    obtain ⟨b', off', e', _, hc'⟩ := h.at i hi
    rw [e] at e'; cases e'; exact hc'
theorem Row.below (h : Row w A n c cs) (hb : Below w.heap.size w w') : Row w' A n c cs :=
  ⟨h.1, h.2.1, h.2.2.1, fun i hi => by
    obtain ⟨b, off, e, hlt, hc⟩ := h.at i hi
    exact ⟨b, off, e, (hb.cell (p := ⟨b, off + i, none⟩) hlt).trans hc⟩⟩
theorem RI.below (h : RI w k A c xs) (hb : Below w.heap.size w w') : RI w' k A c xs := Row.below h hb
theorem Row.nil (w : World) : Row w none 0 0 [] := ⟨rfl, Nat.le_refl _, fun _ => rfl, fun i hi => by omega⟩
theorem RI.nil (w : World) (k : IntKind) : RI w k none 0 [] := Row.nil w
theorem Row.cut {b off : Nat} (h : Row w (some ⟨b, off, none⟩) n c cs) (i j : Nat) (hij : i ≤ j) (hj : j ≤ n) (c' : Nat) (hc' : j - i ≤ c') : Row w (some ⟨b, off + i, none⟩) (j - i) c' ((cs.take j).drop i) :=
  ⟨(by simp [h.1]; omega), hc', (fun h => by cases h), fun k hk => by
    obtain ⟨b', off', e, hc⟩ := h.2.2.2 (i + k) (by omega)
    cases e
    refine ⟨b, off + i, rfl, ?_⟩
    rw [show off + i + k = off + (i + k) from by omega, hc]
    simp only [List.getD_eq_getElem?_getD, List.getElem?_drop, List.getElem?_take, if_pos (show i + k < j from by omega)]⟩
end

/-- A row that the call has made: v owns the numbers xs, from block 'base' on. -/
def OI (w : World) (base : Nat) (e : TypeId) (k : IntKind) (v : Value) (xs : List Int) : Prop := w.ownsRow base e 1 v xs.length (nums k xs)
section
variable {w w1 w2 : World} {base base' : Nat} {e : TypeId} {size n : Nat} {v : Value} {cs : List Value} {k : IntKind} {xs : List Int}
theorem own_mono (h : w.ownsRow base e size v n cs) (hb : base' ≤ base) : w.ownsRow base' e size v n cs := by
  refine ⟨h.1, ?_⟩
  rcases h.2 with h2 | ⟨g, cap, cur, hv, hg, r⟩
  · exact .inl h2
  · exact .inr ⟨g, cap, cur, hv, Nat.le_trans hb hg, r⟩
theorem OI.mono (h : OI w base e k v xs) (hb : base' ≤ base) : OI w base' e k v xs := own_mono h hb
theorem grown_of_below (h : Below w.heap.size w w1) (row : Option Nat) : w.grownBy w1 row := ⟨h.os, h.tape, h.output, h.size, fun i hi _ => h.block i hi⟩
theorem own_below (h : w.ownsRow base e size v n cs) (hb : Below w.heap.size w w1) : w1.ownsRow base e size v n cs :=
  h.kept (grown_of_below hb none) (by cases v.ownBlock <;> simp)
theorem OI.below (h : OI w base e k v xs) (hb : Below w.heap.size w w1) : OI w1 base e k v xs := own_below h hb
theorem add_plain (g j : Nat) : (⟨g, 0, none⟩ : Addr).add j = ⟨g, j, none⟩ := by unfold Addr.add; split <;> simp_all
theorem add_at (b off j : Nat) : (⟨b, off, none⟩ : Addr).add j = ⟨b, off + j, none⟩ := by unfold Addr.add; split <;> simp_all
/-- What is owned is a slice, and can be read. -/
theorem own_row (h : w.ownsRow base e 1 v n cs) : ∃ A c, v = .slice A n c ∧ Row w A n c cs := by
  have hl : cs.length = n := by simpa using h.1
  rcases h.2 with ⟨rfl, rfl⟩ | ⟨g, cap, cur, rfl, hb, hh, h1, h2, h3, h4⟩
  · exact ⟨none, 0, rfl, hl, Nat.le_refl _, fun _ => rfl, fun i hi => by omega⟩
  · refine ⟨_, cap, rfl, hl, h1, fun h => (by cases h), fun i hi => ⟨g, 0, rfl, ?_⟩⟩
    have := h.cells (g := g) rfl i (cs.getD i undef) (by simp [List.getD_eq_getElem?_getD, List.getElem?_eq_getElem (show i < cs.length by omega)])
    rw [Nat.zero_add]
    rwa [add_plain] at this
theorem OI.row (h : OI w base e k v xs) : ∃ A c, v = .slice A xs.length c ∧ RI w k A c xs := own_row h
/-- An owned row that holds something: where it lies. -/
theorem OI.form (h : OI w base e k v xs) (hn : 0 < xs.length) : ∃ g c, v = .slice (some ⟨g, 0, none⟩) xs.length c ∧ base ≤ g ∧ g < w.heap.size ∧ (∀ i, i < xs.length → w.cell? ⟨g, i, none⟩ = some (.int k (xs.getD i 0))) ∧ ∀ i, w.frozen? ⟨g, i, none⟩ = false := by
  have h0 := h
  rcases h.2 with ⟨rfl, h1⟩ | ⟨g, cap, cur, rfl, hb, hh, h1, h2, h3, h4⟩
  · omega
  · refine ⟨g, cap, rfl, hb, (Array.getElem?_eq_some_iff.1 hh).1, fun i hi => ?_, fun i => World.ownsRow.frozenAt h0 i⟩
    rw [World.ownsRow.cellAt h0 i (by omega)]
    simp [nums, List.getElem?_map, List.getElem?_eq_getElem hi, List.getD_eq_getElem?_getD]
theorem OI.nil (w : World) (base : Nat) (e : TypeId) (k : IntKind) : OI w base e k (.slice none 0 0) [] := World.ownsRow_nil w base e 1
theorem OI.set {g c : Nat} (h : OI w base e k (.slice (some ⟨g, 0, none⟩) xs.length c) xs) (j : Nat) (x : Int) : OI (w.setCell ⟨g, j, none⟩ (.int k x)) base e k (.slice (some ⟨g, 0, none⟩) (xs.set j x).length c) (xs.set j x) := by
  have := (World.ownsRow.stored h j (.int k x)).1
  unfold OI
  rw [List.length_set, nums, List.map_set]
  exact this
theorem below_trans (h : Below w.heap.size w w1) (k : Below w1.heap.size w1 w2) : Below w.heap.size w w2 := h.trans (k.mono h.size)
theorem below_to {B : Nat} (h : Below B w w1) (hB : B ≤ w1.heap.size) (k : Below w1.heap.size w1 w2) : Below B w w2 := h.trans (k.mono hB)
theorem below_alloc (h : Below w.heap.size w w1) (o : Obj) : Below w.heap.size w (w1.alloc o) := h.alloc h.size o
theorem bcell {W : World} (hb : Below W.heap.size W w1) : (∀ b o, b < W.heap.size → w1.cell? ⟨b, o, none⟩ = W.cell? ⟨b, o, none⟩) ∧ (∀ b o, b < W.heap.size → w1.frozen? ⟨b, o, none⟩ = W.frozen? ⟨b, o, none⟩) :=
  ⟨fun b o h => hb.cell (p := ⟨b, o, none⟩) h, fun b o h => hb.frozen (p := ⟨b, o, none⟩) h⟩
theorem own_below_row {B : Nat} (h : w.ownsRow B e size v n cs) : ∀ k, v.ownBlock = some k → B ≤ k := fun k hk => (h.lt k hk).1
end

/-- What is known of the world, in the place of the world written out. -/
theorem cut_world {P : Program} {c : Code} {Q : Exit → Act → World → Prop} {a : Act} {W : World} (R : World → Prop) (h0 : R W) (h : ∀ W', R W' → Code.wp P c Q a W') : Code.wp P c Q a W := h W h0
/-- One block has been written, at most. -/
structure Upd (w w' : World) (b : Nat) : Prop where
  os : w'.os = w.os
  tape : w'.tape = w.tape
  output : w'.output = w.output
  size : w'.heap.size = w.heap.size
  block : ∀ k, k ≠ b → w'.heap[k]? = w.heap[k]?
theorem Upd.refl (w : World) (b : Nat) : Upd w w b := ⟨rfl, rfl, rfl, rfl, fun _ _ => rfl⟩
theorem Upd.drew {w w' : World} {b : Nat} (h : Upd w w' b) : Upd w w'.drew b := ⟨h.os, h.tape, h.output, h.size, h.block⟩
theorem Upd.trans {w w1 w2 : World} {b : Nat} (h : Upd w w1 b) (k : Upd w1 w2 b) : Upd w w2 b := ⟨k.os.trans h.os, k.tape.trans h.tape, k.output.trans h.output, k.size.trans h.size, fun i hi => (k.block i hi).trans (h.block i hi)⟩
theorem Upd.set {w w' : World} {b : Nat} (h : Upd w w' b) (o : Nat) (v : Value) : Upd w (w'.setCell ⟨b, o, none⟩ v) b :=
  h.trans ⟨rfl, rfl, rfl, by simp [World.setCell], fun k hk => Below.heap_setCell _ _ _ _ hk⟩
theorem Upd.below {w w' : World} {b B : Nat} (h : Upd w w' b) (hb : B ≤ b) : Below B w w' := ⟨h.os, h.tape, h.output, Nat.le_of_eq h.size.symm, fun k hk => h.block k (by omega)⟩
theorem block_cell {w : World} {b : Nat} {cs : Array Value} {t : TypeId} (h : w.heap[b]? = some (.cells cs t (0, 0))) (i : Nat) : w.cell? ⟨b, i, none⟩ = cs[i]? ∧ w.frozen? ⟨b, i, none⟩ = false := by
  simp [World.cell?, World.frozen?, h]
theorem block_set {w : World} {b : Nat} {cs : Array Value} {t : TypeId} (h : w.heap[b]? = some (.cells cs t (0, 0))) (i : Nat) (v : Value) : (w.setCell ⟨b, i, none⟩ v).heap[b]? = some (.cells (cs.setIfInBounds i v) t (0, 0)) := by
  exact heap_setCell_same w b i cs t v h
/-- A row just laid. -/
theorem row_new (w : World) (l : List Value) (e : TypeId) (n : Nat) (hn : l.length = n) : Row (w.alloc (.cells l.toArray e)) (some ⟨w.heap.size, 0, none⟩) n n l :=
  ⟨hn, Nat.le_refl _, (fun h => by cases h), fun i hi => ⟨w.heap.size, 0, rfl, by
    rw [World.cell?_alloc_at _ _ _ _ rfl]
    simp [List.getD_eq_getElem?_getD, List.getElem?_eq_getElem (show i < l.length by omega)]⟩⟩
theorem row_one (w : World) (v : Value) (e : TypeId) : Row (w.alloc (.cells #[v] e)) (some ⟨w.heap.size, 0, none⟩) 1 1 [v] := row_new w [v] e 1 rfl
theorem alloc_at (w : World) (o : Obj) : (w.alloc o).heap[w.heap.size]? = some o := heap_alloc_new w o
theorem alloc2_at (w : World) (x y : Obj) : ((w.alloc x).alloc y).heap[w.heap.size + 1]? = some y := by
  have := heap_alloc_new (w.alloc x) y
  rwa [World.size_alloc] at this
/-- A slice of bytes, as a value, that can be read. -/
def RS (w : World) (v : Value) (xs : List Int) : Prop := ∃ A c, v = .slice A xs.length c ∧ RI w .u8 A c xs
/-- A slice of slices of bytes that can be read. -/
def RR (w : World) (A : Option Addr) (c : Nat) (ls : List (List Int)) : Prop := ∃ vs : List Value, Row w A ls.length c vs ∧ ∀ i, i < ls.length → RS w (vs.getD i undef) (ls.getD i [])
theorem RS.below {w w' : World} {v : Value} {xs : List Int} (h : RS w v xs) (hb : Below w.heap.size w w') : RS w' v xs := by
  obtain ⟨A, c, e, hr⟩ := h
  exact ⟨A, c, e, hr.below hb⟩
theorem RR.below {w w' : World} {A : Option Addr} {c : Nat} {ls : List (List Int)} (h : RR w A c ls) (hb : Below w.heap.size w w') : RR w' A c ls := by
  obtain ⟨vs, hr, hi⟩ := h
  exact ⟨vs, hr.below hb, fun i hl => (hi i hl).below hb⟩
theorem RR.at {w : World} {A : Option Addr} {c : Nat} {ls : List (List Int)} (h : RR w A c ls) (i : Nat) (hi : i < ls.length) :
    ∃ b off A' c', A = some ⟨b, off, none⟩ ∧ b < w.heap.size ∧ w.cell? ⟨b, off + i, none⟩ = some (.slice A' (ls.getD i []).length c') ∧ RI w .u8 A' c' (ls.getD i []) := by
  obtain ⟨vs, hr, hv⟩ := h
  obtain ⟨b, off, e, hb, hc⟩ := hr.at i hi
  obtain ⟨A', c', e', hr'⟩ := hv i hi
  rw [e'] at hc
  exact ⟨b, off, A', c', e, hb, hc, hr'⟩
theorem OI.rs {w : World} {base : Nat} {e : TypeId} {v : Value} {xs : List Int} (h : OI w base e .u8 v xs) : RS w v xs := OI.row h

/-- 'append(s, x...)' on a row of the call's own, x whatever can be read. -/
theorem append_row {P : Program} {w : World} {ops : Array Oper} {rest : List Oper} {o : Oper} {a : Act} {Q : Exit → Act → World → Prop} (hgd : o.guard = none) (s x : Operand) (t : TypeId)
    (ho : o.op = .call { callee := .builtin .append, args := #[s, x], argTypes := #[t, t] })
    (base : Nat) (e : TypeId) (i : TypeInfo) (z : Value) (bytes : Nat) (ht : P.underlying t = some (.slice e)) (hi : P.info? e = some i) (hz : i.zero = some z)
    (hsize : i.size = 1) (hby : i.bytes = bytes) (hzs : z.cells.size = 1)
    (v : Value) (n : Nat) (xs : List Value) (hs : a.eval s = v) (hown : w.ownsRow base e 1 v n xs)
    (A : Option Addr) (m c : Nat) (news : List Value) (hx : a.eval x = .slice A m c) (hr : Row w A m c news) (h1 : ∀ u ∈ news, u.oneCell' = true)
    (h63 : n + m ≤ maxLen) (hbytes : (n + m) * bytes ≤ 140737488355328) (hbase : base ≤ w.heap.size)
    (h : ∀ v' w', w'.ownsRow base e 1 v' (n + m) (xs ++ news) → w.grownBy w' v.ownBlock → (v' = .slice none 0 0 ↔ v = .slice none 0 0 ∧ m = 0) → wpList P ops Q rest (a.put o.dst v') w') : wpList P ops Q (o :: rest) a w := by
  cases A with
  | none =>
    have hm : m = 0 := by
      rcases Nat.eq_zero_or_pos m with h0 | h0
      · exact h0
      · obtain ⟨b, off, hh, _⟩ := hr.2.2.2 0 h0; cases hh
    subst hm
    have hn : news = [] := List.length_eq_zero_iff.1 hr.1
    subst hn
    have hc := hr.2.2.1 rfl
    subst hc
    exact wpList_append_own_none hgd s x t ho base e i 1 ht hi v n xs hs hown hx (h v w (by simpa using hown) (World.grownBy.refl w v.ownBlock) (by simp))
  | some ad =>
    obtain ⟨b, off, sp⟩ := ad
    by_cases h0 : m = 0
    · subst h0
      have hn : news = [] := List.length_eq_zero_iff.1 hr.1
      subst hn
      exact wpList_append_own w hgd s x t ho base e i z 1 bytes ht hi hz hsize hby hzs (by decide) v n xs hs hown ⟨b, off, sp⟩ 0 c [] hx rfl (by simp) (by simp) h63 hbytes hbase h
    · have hsp : sp = none := by
        obtain ⟨b', off', hh, _⟩ := hr.2.2.2 0 (by omega); cases hh; rfl
      subst hsp
      refine wpList_append_own w hgd s x t ho base e i z 1 bytes ht hi hz hsize hby hzs (by decide) v n xs hs hown ⟨b, off, none⟩ m c news hx (by simpa using hr.1) (fun j u hj => ?_) h1 h63 hbytes hbase h
      have hj' : j < news.length := by
        rcases Nat.lt_or_ge j news.length with h2 | h2
        · exact h2
        · simp [List.getElem?_eq_none h2] at hj
      obtain ⟨b', off', hh, hc⟩ := hr.2.2.2 j (by have := hr.1; omega)
      cases hh
      have hadd : (⟨b, off, none⟩ : Addr).add j = ⟨b, off + j, none⟩ := by unfold Addr.add; split <;> simp_all
      rw [hadd, hc, ← hj]
      simp [List.getD_eq_getElem?_getD, List.getElem?_eq_getElem hj']
end Go.Proofs.Ytfblmlfadgkfkaa
