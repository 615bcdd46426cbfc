/- Maps as lists: plain laws. -/
import Derived.Test.YtfahaljhgfjooaaDoorNwMaps
set_option linter.all false
namespace Go.Nw
section
variable {κ ν : Type} [DecidableEq κ]
theorem c0z : ∀ {l : List (κ × ν)} {k : κ} {i : Nat}, b2i l k i = none ↔ k ∉ l.map (·.1)
 | [], k, i => by simp [b2i]
 | p :: l, k, i => by
  simp only [b2i, List.map_cons, List.mem_cons, not_or]
  by_cases h : k = p.1
  ·simp [h]
  ·simp only [h, if_false, not_false_eq_true, true_and]; exact c0z
theorem c9y : ∀ {l : List (κ × ν)} {k : κ} {i j : Nat} {v : ν}, b2i l k i = some (j, v) -> ∃ d, j = i + d /\ l[d]? = some (k, v)
 | [], k, i, j, v, h => by simp [b2i] at h
 | p :: l, k, i, j, v, h => by
  simp only [b2i] at h
  split at h
  ·rename_i e
   simp only [iE9, Prod.mk.injEq] at h
   exact ⟨0, by omega, by obtain ⟨_, rfl⟩ := h; subst e; rfl⟩
  ·obtain ⟨d, h1, h2⟩ := c9y h
   exact ⟨d + 1, by omega, by simpa using h2⟩
theorem j1e {l : List (κ × ν)} {k : κ} {v : ν} (h : k ∉ l.map (·.1)) : b4c l k v = l ++ [(k, v)] := by
 unfold b4c; rw [c0z.2 h]
theorem d6h {l : List (κ × ν)} {k : κ} {z : ν} (h : k ∉ l.map (·.1)) : b2x l k z = z := by
 unfold b2x b7p; rw [c0z.2 h]; rfl
theorem j1a {l : List (κ × ν)} {k : κ} {z : ν} (h : k ∈ l.map (·.1)) : ∃ (d : Nat), l[d]? = some (k, b2x l k z) := by
 unfold b2x b7p
 cases hm : b2i l k 0 with
 | none => exact absurd h (c0z.1 hm)
 | some p =>
  obtain ⟨d, _, h2⟩ := c9y (v := p.2) (j := p.1) hm
  exact ⟨d, h2⟩
theorem j1c {l m : List (κ × ν)} {k : κ} : ∀ {i : Nat}, k ∉ l.map (·.1) -> b2i (l ++ m) k i = b2i m k (i + l.length) := by
 induction l with
 | nil => intro i _; simp
 | cons p l ih =>
  intro i h
  simp only [List.map_cons, List.mem_cons, not_or] at h
  simp only [List.cons_append, b2i, h.1, if_false, List.length_cons]
  rw [ih h.2]; congr 1; omega
theorem d6j : ∀ {l : List (κ × ν)} {k : κ} {i d : Nat} {u v : ν}, b2i l k i = some (i + d, u) -> b2i (l.set d (k, v)) k i = some (i + d, v)
 | [], k, i, d, u, v, h => by simp [b2i] at h
 | p :: l, k, i, d, u, v, h => by
  simp only [b2i] at h
  split at h
  ·rename_i e
   simp only [iE9, Prod.mk.injEq] at h
   have : d = 0 := by omega
   subst this
   simp [b2i]
  ·rename_i e
   obtain ⟨d', h1, _⟩ := c9y h
   obtain ⟨d, rfl⟩ : ∃ e, d = e + 1 := ⟨d - 1, by omega⟩
   simp only [List.set_cons_succ, b2i, e, if_false]
   have := d6j (l := l) (k := k) (i := i + 1) (d := d) (u := u) (v := v) (by rw [h]; congr 2; omega)
   rw [this]; congr 2; omega
theorem j1b {l : List (κ × ν)} {k : κ} {v z : ν} : b2x (b4c l k v) k z = v := by
 unfold b4c
 cases h : b2i l k 0 with
 | none =>
  simp only
  unfold b2x b7p
  rw [j1c (c0z.1 h)]
  simp [b2i]
 | some p =>
  obtain ⟨j, u⟩ := p
  simp only
  have := d6j (i := 0) (d := j) (v := v) (by rw [Nat.zero_add]; exact h)
  unfold b2x b7p
  rw [this]; rfl
end
end Go.Nw
