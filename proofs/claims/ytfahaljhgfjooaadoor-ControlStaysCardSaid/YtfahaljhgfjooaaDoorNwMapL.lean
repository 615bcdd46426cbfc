/- Maps as lists: plain laws. -/
import Derived.Test.YtfahaljhgfjooaaDoorNwMaps
set_option linter.all false
namespace Go.Nw
section
variable {κ ν : Type} [DecidableEq κ]
theorem c0k : ∀ {l : List (κ × ν)} {k : κ} {i : Nat}, b2u l k i = none ↔ k ∉ l.map (·.1)
 | [], k, i => by simp [b2u]
 | p :: l, k, i => by
  simp only [b2u, List.map_cons, List.mem_cons, not_or]
  by_cases h : k = p.1
  ·simp [h]
  ·simp only [h, if_false, not_false_eq_true, true_and]; exact c0k
theorem c7w : ∀ {l : List (κ × ν)} {k : κ} {i j : Nat} {v : ν}, b2u l k i = some (j, v) -> ∃ d, j = i + d /\ l[d]? = some (k, v)
 | [], k, i, j, v, h => by simp [b2u] at h
 | p :: l, k, i, j, v, h => by
  simp only [b2u] at h
  split at h
  ·rename_i e
   simp only [iE9, Prod.mk.injEq] at h
   exact ⟨0, by omega, by obtain ⟨_, rfl⟩ := h; subst e; rfl⟩
  ·obtain ⟨d, h1, h2⟩ := c7w h
   exact ⟨d + 1, by omega, by simpa using h2⟩
theorem j78 {l : List (κ × ν)} {k : κ} : b6m l k = true ↔ k ∈ l.map (·.1) := by
 unfold b6m b7g
 cases h : b2u l k 0 with
 | none => simpa using c0k.1 h
 | some p =>
  obtain ⟨d, _, h2⟩ := c7w (v := p.2) (j := p.1) h
  simp only [Option.map_some, Option.isSome_some, true_iff]
  exact List.mem_map.2 ⟨_, mG9 h2, rfl⟩
theorem g1w {l : List (κ × ν)} {k : κ} {v : ν} (h : k ∉ l.map (·.1)) : b3w l k v = l ++ [(k, v)] := by
 unfold b3w; rw [c0k.2 h]
theorem g1o {l : List (κ × ν)} {k : κ} {z : ν} (h : k ∉ l.map (·.1)) : b2w l k z = z := by
 unfold b2w b7g; rw [c0k.2 h]; rfl
theorem g1n {l : List (κ × ν)} {k : κ} {z : ν} (h : k ∈ l.map (·.1)) : ∃ (d : Nat), l[d]? = some (k, b2w l k z) := by
 unfold b2w b7g
 cases hm : b2u l k 0 with
 | none => exact absurd h (c0k.1 hm)
 | some p =>
  obtain ⟨d, _, h2⟩ := c7w (v := p.2) (j := p.1) hm
  exact ⟨d, h2⟩
theorem j79 {l m : List (κ × ν)} {k : κ} : ∀ {i : Nat}, k ∉ l.map (·.1) -> b2u (l ++ m) k i = b2u m k (i + l.length) := by
 induction l with
 | nil => intro i _; simp
 | cons p l ih =>
  intro i h
  simp only [List.map_cons, List.mem_cons, not_or] at h
  simp only [List.cons_append, b2u, h.1, if_false, List.length_cons]
  rw [ih h.2]; congr 1; omega
theorem g1p : ∀ {l : List (κ × ν)} {k : κ} {i d : Nat} {u v : ν}, b2u l k i = some (i + d, u) -> b2u (l.set d (k, v)) k i = some (i + d, v)
 | [], k, i, d, u, v, h => by simp [b2u] at h
 | p :: l, k, i, d, u, v, h => by
  simp only [b2u] at h
  split at h
  ·rename_i e
   simp only [iE9, Prod.mk.injEq] at h
   have : d = 0 := by omega
   subst this
   simp [b2u]
  ·rename_i e
   obtain ⟨d', h1, _⟩ := c7w h
   obtain ⟨d, rfl⟩ : ∃ e, d = e + 1 := ⟨d - 1, by omega⟩
   simp only [List.set_cons_succ, b2u, e, if_false]
   have := g1p (l := l) (k := k) (i := i + 1) (d := d) (u := u) (v := v) (by rw [h]; congr 2; omega)
   rw [this]; congr 2; omega
theorem j77 {l : List (κ × ν)} {k : κ} {v z : ν} : b2w (b3w l k v) k z = v := by
 unfold b3w
 cases h : b2u l k 0 with
 | none =>
  simp only
  unfold b2w b7g
  rw [j79 (c0k.1 h)]
  simp [b2u]
 | some p =>
  obtain ⟨j, u⟩ := p
  simp only
  have := g1p (i := 0) (d := j) (v := v) (by rw [Nat.zero_add]; exact h)
  unfold b2w b7g
  rw [this]; rfl
theorem j76 {l : List (κ × ν)} {k : κ} {v z : ν} {j : Nat} (hn : (l.map (·.1)).Nodup) (h : l[j]? = some (k, v)) : b2w l k z = v := by
 obtain ⟨d, hd⟩ := g1n (z := z) (List.mem_map.2 ⟨_, mG9 h, rfl⟩ : k ∈ l.map (·.1))
 have h1 : (l.map (·.1))[d]? = some k := by rw [List.getElem?_map, hd]; rfl
 have h2 : (l.map (·.1))[j]? = some k := by rw [List.getElem?_map, h]; rfl
 have hlt1 := (gS9.1 h1).1
 have hlt2 := (gS9.1 h2).1
 have e : d = j := (List.getElem?_inj hlt1 hn).1 (by rw [h1, h2])
 subst e
 rw [h] at hd
 simp only [iE9, Prod.mk.injEq, true_and] at hd
 exact hd.symm
end
end Go.Nw
