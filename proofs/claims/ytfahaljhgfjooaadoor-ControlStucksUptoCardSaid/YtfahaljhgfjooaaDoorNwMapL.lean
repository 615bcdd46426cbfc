/- Maps as lists: plain laws. -/
import Derived.Test.YtfahaljhgfjooaaDoorNwMaps
set_option linter.all false
namespace Go.Nw
section
variable {κ ν : Type} [DecidableEq κ]
theorem b94 : ∀ {l : List (κ × ν)} {k : κ} {i : Nat}, b2o l k i = none ↔ k ∉ l.map (·.1)
 | [], k, i => by simp [b2o]
 | p :: l, k, i => by
  simp only [b2o, List.map_cons, List.mem_cons, not_or]
  by_cases h : k = p.1
  ·simp [h]
  ·simp only [h, if_false, not_false_eq_true, true_and]; exact b94
theorem c58 : ∀ {l : List (κ × ν)} {k : κ} {i j : Nat} {v : ν}, b2o l k i = some (j, v) -> ∃ d, j = i + d /\ l[d]? = some (k, v)
 | [], k, i, j, v, h => by simp [b2o] at h
 | p :: l, k, i, j, v, h => by
  simp only [b2o] at h
  split at h
  ·rename_i e
   simp only [Option.some.injEq, Prod.mk.injEq] at h
   exact ⟨0, by omega, by obtain ⟨_, rfl⟩ := h; subst e; rfl⟩
  ·obtain ⟨d, h1, h2⟩ := c58 h
   exact ⟨d + 1, by omega, by simpa using h2⟩
theorem j54 {l : List (κ × ν)} {k : κ} : b6c l k = true ↔ k ∈ l.map (·.1) := by
 unfold b6c b66
 cases h : b2o l k 0 with
 | none => simpa using b94.1 h
 | some p =>
  obtain ⟨d, _, h2⟩ := c58 (v := p.2) (j := p.1) h
  simp only [Option.map_some, Option.isSome_some, true_iff]
  exact List.mem_map.2 ⟨_, List.mem_of_getElem? h2, rfl⟩
theorem d9w {l : List (κ × ν)} {k : κ} {v : ν} (h : k ∉ l.map (·.1)) : b3p l k v = l ++ [(k, v)] := by
 unfold b3p; rw [b94.2 h]
theorem d9o {l : List (κ × ν)} {k : κ} {z : ν} (h : k ∉ l.map (·.1)) : b2q l k z = z := by
 unfold b2q b66; rw [b94.2 h]; rfl
theorem d9n {l : List (κ × ν)} {k : κ} {z : ν} (h : k ∈ l.map (·.1)) : ∃ (d : Nat), l[d]? = some (k, b2q l k z) := by
 unfold b2q b66
 cases hm : b2o l k 0 with
 | none => exact absurd h (b94.1 hm)
 | some p =>
  obtain ⟨d, _, h2⟩ := c58 (v := p.2) (j := p.1) hm
  exact ⟨d, h2⟩
theorem j55 {l m : List (κ × ν)} {k : κ} : ∀ {i : Nat}, k ∉ l.map (·.1) -> b2o (l ++ m) k i = b2o m k (i + l.length) := by
 induction l with
 | nil => intro i _; simp
 | cons p l ih =>
  intro i h
  simp only [List.map_cons, List.mem_cons, not_or] at h
  simp only [List.cons_append, b2o, h.1, if_false, List.length_cons]
  rw [ih h.2]; congr 1; omega
theorem d9p : ∀ {l : List (κ × ν)} {k : κ} {i d : Nat} {u v : ν}, b2o l k i = some (i + d, u) -> b2o (l.set d (k, v)) k i = some (i + d, v)
 | [], k, i, d, u, v, h => by simp [b2o] at h
 | p :: l, k, i, d, u, v, h => by
  simp only [b2o] at h
  split at h
  ·rename_i e
   simp only [Option.some.injEq, Prod.mk.injEq] at h
   have : d = 0 := by omega
   subst this
   simp [b2o]
  ·rename_i e
   obtain ⟨d', h1, _⟩ := c58 h
   obtain ⟨d, rfl⟩ : ∃ e, d = e + 1 := ⟨d - 1, by omega⟩
   simp only [List.set_cons_succ, b2o, e, if_false]
   have := d9p (l := l) (k := k) (i := i + 1) (d := d) (u := u) (v := v) (by rw [h]; congr 2; omega)
   rw [this]; congr 2; omega
theorem j53 {l : List (κ × ν)} {k : κ} {v z : ν} : b2q (b3p l k v) k z = v := by
 unfold b3p
 cases h : b2o l k 0 with
 | none =>
  simp only
  unfold b2q b66
  rw [j55 (b94.1 h)]
  simp [b2o]
 | some p =>
  obtain ⟨j, u⟩ := p
  simp only
  have := d9p (i := 0) (d := j) (v := v) (by rw [Nat.zero_add]; exact h)
  unfold b2q b66
  rw [this]; rfl
theorem j52 {l : List (κ × ν)} {k : κ} {v z : ν} {j : Nat} (hn : (l.map (·.1)).Nodup) (h : l[j]? = some (k, v)) : b2q l k z = v := by
 obtain ⟨d, hd⟩ := d9n (z := z) (List.mem_map.2 ⟨_, List.mem_of_getElem? h, rfl⟩ : k ∈ l.map (·.1))
 have h1 : (l.map (·.1))[d]? = some k := by rw [List.getElem?_map, hd]; rfl
 have h2 : (l.map (·.1))[j]? = some k := by rw [List.getElem?_map, h]; rfl
 have hlt1 := (List.getElem?_eq_some_iff.1 h1).1
 have hlt2 := (List.getElem?_eq_some_iff.1 h2).1
 have e : d = j := (List.getElem?_inj hlt1 hn).1 (by rw [h1, h2])
 subst e
 rw [h] at hd
 simp only [Option.some.injEq, Prod.mk.injEq, true_and] at hd
 exact hd.symm
end
end Go.Nw
