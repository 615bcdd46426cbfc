/- Plain laws on the models. -/
import Derived.Test.YtjpgklcdlklhbaaDoorNwRows
import Derived.Test.YtjpgklcdlklhbaaDoorNwMaps
set_option linter.all false
namespace Go.Nw
section
variable {α : Type} {h h' : Heap} {v w : AV} {hs : List AV} {sz : Nat} {f : α -> List AV} {rows : List (List α)} {i : Int} {x : List α}
end
end Go.Nw
namespace Go.Nw
section
variable {κ ν : Type} [DecidableEq κ]
theorem c0k : ∀ {l : List (κ × ν)} {k : κ} {i : Nat}, b2u l k i = none ↔ k ∉ l.map (·.1)
 | [], k, i => by simp [b2u]
 | p :: l, k, i => by
  simp only [b2u, List.map_cons, List.mem_cons, not_or]
  by_cases h : k = p.1
  ·simp [h]
  ·simp only [h, if_false, not_false_eq_true, true_and]; exact c0k
theorem c7w : ∀ {l : List (κ × ν)} {k : κ} {i j : Nat} {v : ν}, b2u l k i = some (j, v) -> ∃ d, j = i + d /\ l[d]? = some (k, v)
 | [], k, i, j, v, h => by simp [b2u] at h
 | p :: l, k, i, j, v, h => by
  simp only [b2u] at h
  split at h
  ·rename_i e
   simp only [iE9, Prod.mk.injEq] at h
   exact ⟨0, by omega, by obtain ⟨_, rfl⟩ := h; subst e; rfl⟩
  ·obtain ⟨d, h1, h2⟩ := c7w h
   exact ⟨d + 1, by omega, by simpa using h2⟩
theorem g1o {l : List (κ × ν)} {k : κ} {z : ν} (h : k ∉ l.map (·.1)) : b2w l k z = z := by
 unfold b2w b7g; rw [c0k.2 h]; rfl
theorem j79 {l m : List (κ × ν)} {k : κ} : ∀ {i : Nat}, k ∉ l.map (·.1) -> b2u (l ++ m) k i = b2u m k (i + l.length) := by
 induction l with
 | nil => intro i _; simp
 | cons p l ih =>
  intro i h
  simp only [List.map_cons, List.mem_cons, not_or] at h
  simp only [List.cons_append, b2u, h.1, if_false, List.length_cons]
  rw [ih h.2]; congr 1; omega
theorem g1p : ∀ {l : List (κ × ν)} {k : κ} {i d : Nat} {u v : ν}, b2u l k i = some (i + d, u) -> b2u (l.set d (k, v)) k i = some (i + d, v)
 | [], k, i, d, u, v, h => by simp [b2u] at h
 | p :: l, k, i, d, u, v, h => by
  simp only [b2u] at h
  split at h
  ·rename_i e
   simp only [iE9, Prod.mk.injEq] at h
   have : d = 0 := by omega
   subst this
   simp [b2u]
  ·rename_i e
   obtain ⟨d', h1, _⟩ := c7w h
   obtain ⟨d, rfl⟩ : ∃ e, d = e + 1 := ⟨d - 1, by omega⟩
   simp only [List.set_cons_succ, b2u, e, if_false]
   have := g1p (l := l) (k := k) (i := i + 1) (d := d) (u := u) (v := v) (by rw [h]; congr 2; omega)
   rw [this]; congr 2; omega
theorem j77 {l : List (κ × ν)} {k : κ} {v z : ν} : b2w (b3w l k v) k z = v := by
 unfold b3w
 cases h : b2u l k 0 with
 | none =>
  simp only
  unfold b2w b7g
  rw [j79 (c0k.1 h)]
  simp [b2u]
 | some p =>
  obtain ⟨j, u⟩ := p
  simp only
  have := g1p (i := 0) (d := j) (v := v) (by rw [Nat.zero_add]; exact h)
  unfold b2w b7g
  rw [this]; rfl
end
end Go.Nw
