/- Loops that leave at the first number of which something is so. -/
import Derived.Test.YtfahaljhgfjooaaDoorNwSearch
set_option linter.all false
namespace Go.Nw
def b5q (n : Nat) (p : Nat -> Bool) : Option Nat := (List.range n).find? p
theorem d72 {n : Nat} {p : Nat -> Bool} : b5q n p = none ↔ ∀ t, t < n -> p t = false := by
 unfold b5q
 rw [List.find?_eq_none]
 constructor
 ·intro h t ht; have := h t (List.mem_range.2 ht); simpa using this
 ·intro h t ht; rw [h t (List.mem_range.1 ht)]; simp
theorem j01 {n : Nat} {p : Nat -> Bool} {k : Nat} (hk : k < n) (hp : p k = true) (hb : ∀ j, j < k -> p j = false) : b5q n p = some k := by
 unfold b5q
 rw [List.find?_range_eq_some]
 exact ⟨hp, List.mem_range.2 hk, fun j hj => by simp [hb j hj]⟩
theorem j00 {n : Nat} {p : Nat -> Bool} {k : Nat} (h : b5q n p = some k) : k < n /\ p k = true /\ ∀ j, j < k -> p j = false := by
 unfold b5q at h
 rw [List.find?_range_eq_some] at h
 exact ⟨List.mem_range.1 h.2.1, h.1, fun j hj => by have := h.2.2 j hj; simpa using this⟩
theorem c7s {β : Type} {f : Int -> Option (Out Int β)} {n : Nat} {p : Nat -> Bool} {e : Nat -> β} {u : β} (hb : ∀ t : Nat, t < n -> p t = true -> f (t : Int) = some (.br (e t)))
  (hn : ∀ t : Nat, t < n -> p t = false -> f (t : Int) = some (.nx ((t : Int) + 1))) (hu : f (n : Int) = some (.br u)) : b0w f 0 = some (match b5q n p with | some t => e t | none => u) := by
 have key : ∀ (d k : Nat), n - k = d -> k <= n -> (∀ j, j < k -> p j = false) -> b0w f (k : Int) = some (match b5q n p with | some t => e t | none => u) := by
  intro d
  induction d with
  | zero =>
   intro k hd hk hj
   have : k = n := by omega
   subst this
   rw [d72.2 hj]
   exact b3d hu
  | succ d ih =>
   intro k hd hk hj
   cases hp : p k with
   | true =>
    rw [j01 (by omega) hp hj]
    exact b3d (hb k (by omega) hp)
   | false =>
    rw [b32 (hn k (by omega) hp)]
    have := ih (k + 1) (by omega) (by omega) (fun j hj' => by
     by_cases e : j = k
     ·subst e; exact hp
     ·exact hj j (by omega))
    rwa [show ((k + 1 : Nat) : Int) = (k : Int) + 1 by omega] at this
 exact key n 0 (by omega) (by omega) fun j hj => by omega
end Go.Nw
