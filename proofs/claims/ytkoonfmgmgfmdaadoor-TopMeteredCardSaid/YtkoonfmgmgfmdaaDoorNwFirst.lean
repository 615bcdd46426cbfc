/- Loops that leave at the first number of which something is so. -/
import Derived.Test.YtkoonfmgmgfmdaaDoorNwSearch
set_option linter.all false
set_option linter.unusedVariables false
set_option linter.unusedSimpArgs false
set_option linter.unusedSectionVars false
namespace Go.Nw
def b4o (n : Nat) (p : Nat → Bool) : Option Nat := (List.range n).find? p
theorem d61 {n : Nat} {p : Nat → Bool} : b4o n p = none ↔ ∀ t, t < n → p t = false := by
  unfold b4o
  rw [List.find?_eq_none]
  constructor
  · intro h t ht; have := h t (List.mem_range.2 ht); simpa using this
  · intro h t ht; rw [h t (List.mem_range.1 ht)]; simp
theorem d62 {n : Nat} {p : Nat → Bool} {k : Nat} (hk : k < n) (hp : p k = true) (hb : ∀ j, j < k → p j = false) : b4o n p = some k := by
  unfold b4o
  rw [List.find?_range_eq_some]
  exact ⟨hp, List.mem_range.2 hk, fun j hj => by simp [hb j hj]⟩
theorem g2j {β : Type} {f : Int → Option (Out Int β)} {n : Nat} {p : Nat → Bool} {e : Nat → β} {u : β} (hb : ∀ t : Nat, t < n → p t = true → f (t : Int) = some (.br (e t)))
    (hn : ∀ t : Nat, t < n → p t = false → f (t : Int) = some (.nx ((t : Int) + 1))) (hu : f (n : Int) = some (.br u)) : b01 f 0 = some (match b4o n p with | some t => e t | none => u) := by
  have key : ∀ (d k : Nat), n - k = d → k ≤ n → (∀ j, j < k → p j = false) → b01 f (k : Int) = some (match b4o n p with | some t => e t | none => u) := by
    intro d
    induction d with
    | zero =>
      intro k hd hk hj
      have : k = n := by omega
      subst this
      rw [d61.2 hj]
      exact b33 hu
    | succ d ih =>
      intro k hd hk hj
      cases hp : p k with
      | true =>
        rw [d62 (by omega) hp hj]
        exact b33 (hb k (by omega) hp)
      | false =>
        rw [b70 (hn k (by omega) hp)]
        have := ih (k + 1) (by omega) (by omega) (fun j hj' => by
          by_cases e : j = k
          · subst e; exact hp
          · exact hj j (by omega))
        rwa [show ((k + 1 : Nat) : Int) = (k : Int) + 1 by omega] at this
  exact key n 0 (by omega) (by omega) fun j hj => by omega
end Go.Nw
