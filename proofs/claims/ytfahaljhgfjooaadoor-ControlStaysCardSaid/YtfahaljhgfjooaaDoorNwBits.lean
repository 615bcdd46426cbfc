/- Plain rules: loops with a counter, sets of numbers as bits. -/
import Derived.Test.YtfahaljhgfjooaaDoorNwPlain
set_option linter.all false
namespace Go.Nw
theorem j7u {σ τ β : Type} {f : τ -> Option (Out τ β)} (n : Nat) (mk : σ -> Int -> τ) (Inv : Nat -> σ -> Prop) (P : β -> Prop)
  (step : ∀ s (k : Nat), k < n -> Inv k s -> (∃ s', f (mk s k) = some (.nx (mk s' ((k : Int) + 1))) /\ Inv (k + 1) s') \/ ∃ b, f (mk s k) = some (.br b) /\ P b)
  (fin : ∀ s, Inv n s -> ∃ b, f (mk s n) = some (.br b) /\ P b) {s : σ} (k0 : Nat) (hk0 : k0 <= n) (h0 : Inv k0 s) : ∃ b, b0w f (mk s k0) = some b /\ P b := by
 have key : ∀ (d k : Nat) (s : σ), n - k = d -> k <= n -> Inv k s -> ∃ b, b0w f (mk s k) = some b /\ P b := by
  intro d
  induction d with
  | zero =>
   intro k s hd hk hi
   have : k = n := by omega
   subst this
   obtain ⟨b, h1, h2⟩ := fin s hi
   exact ⟨b, b3d h1, h2⟩
  | succ d ih =>
   intro k s hd hk hi
   rcases step s k (by omega) hi with ⟨s', h1, h2⟩ | ⟨b, h1, h2⟩
   ·rw [b32 h1]
    exact ih (k + 1) s' (by omega) (by omega) h2
   ·exact ⟨b, b3d h1, h2⟩
 exact key _ k0 s rfl hk0 h0
def Sub (a b : Nat) : Prop := ∀ i, a.testBit i = true -> b.testBit i = true
theorem sub_zero (a : Nat) : Sub 0 a := fun i h => by simp at h
end Go.Nw
