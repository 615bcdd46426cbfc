/- Plain rules: loops over lists, the library's searches. -/
import Derived.Test.YtaccbljgojdfjaaDoorNwPlain
import Derived.Test.YtaccbljgojdfjaaDoorNwBits
set_option linter.all false
set_option linter.unusedVariables false
set_option linter.unusedSimpArgs false
set_option linter.unusedSectionVars false
namespace Go.Nw
theorem b2n {α : Type} {l : List α} {k : Nat} {x : α} (h : l[k]? = some x) : get l (k : Int) = some x := by
  unfold get; rw [if_pos (by omega)]; simpa using h
theorem b2c {α : Type} {l : List α} {k : Nat} {x : α} (h : l[k]? = some x) : k < l.length := (List.getElem?_eq_some_iff.1 h).1
theorem b2a {α : Type} {l : List α} {k : Nat} (h : k < l.length) : ∃ x, l[k]? = some x := ⟨_, List.getElem?_eq_getElem h⟩
theorem c10 {α β : Type} {f : Int → Option (Out Int β)} (l : List α) (bad : Nat → α → Prop) (e u : β)
    (bstep : ∀ k x, l[k]? = some x → bad k x → f (k : Int) = some (.br e)) (nstep : ∀ k x, l[k]? = some x → ¬ bad k x → f (k : Int) = some (.nx ((k : Int) + 1)))
    (fin : f (l.length : Int) = some (.br u)) : ((∀ k x, l[k]? = some x → ¬ bad k x) ∧ b01 f 0 = some u) ∨ ((∃ k x, l[k]? = some x ∧ bad k x) ∧ b01 f 0 = some e) := by
  have key : ∀ (d k : Nat), l.length - k = d → k ≤ l.length → (∀ j x, j < k → l[j]? = some x → ¬ bad j x) →
      ((∀ k x, l[k]? = some x → ¬ bad k x) ∧ b01 f (k : Int) = some u) ∨ ((∃ k x, l[k]? = some x ∧ bad k x) ∧ b01 f (k : Int) = some e) := by
    intro d
    induction d with
    | zero =>
      intro k hd hk hb
      have : k = l.length := by omega
      subst this
      exact .inl ⟨fun j x hx => hb j x (b2c hx) hx, b52 fin⟩
    | succ d ih =>
      intro k hd hk hb
      obtain ⟨x, hx⟩ := b2a (show k < l.length by omega)
      by_cases h : bad k x
      · exact .inr ⟨⟨k, x, hx, h⟩, b52 (bstep k x hx h)⟩
      · rw [c1y (nstep k x hx h)]
        refine ih (k + 1) (by omega) (by omega) fun j y hj hy => ?_
        by_cases e : j = k
        · subst e; rw [hx] at hy; cases hy; exact h
        · exact hb j y (by omega) hy
  exact key l.length 0 (by omega) (by omega) fun j x hj => by omega
theorem d7x {σ τ β : Type} {f : τ → Option (Out τ β)} (n : Nat) (mk : σ → Int → τ) (S : Nat → σ) (b : β)
    (step : ∀ k : Nat, k < n → f (mk (S k) k) = some (.nx (mk (S (k + 1)) ((k : Int) + 1)))) (fin : f (mk (S n) n) = some (.br b)) (k0 : Nat) (hk0 : k0 ≤ n) : b01 f (mk (S k0) k0) = some b := by
  obtain ⟨b', h1, h2⟩ := d7v (f := f) n mk (fun k s => s = S k) (fun x => x = b) (fun s k hk hs => by
    subst hs; exact .inl ⟨_, step k hk, rfl⟩) (fun s hs => by subst hs; exact ⟨b, fin, rfl⟩) k0 hk0 rfl
  rw [h1, h2]
theorem d7y {σ τ β : Type} {f : τ → Option (Out τ β)} (n : Nat) (mk : σ → Int → τ) (S : Nat → σ) (b : β)
    (step : ∀ k : Nat, k < n → f (mk (S k) k) = some (.nx (mk (S (k + 1)) ((k : Int) + 1)))) (fin : f (mk (S n) n) = some (.br b)) : b01 f (mk (S 0) 0) = some b :=
  d7x n mk S b step fin 0 (Nat.zero_le _)
theorem b61 {σ τ β : Type} {f : τ → Option (Out τ β)} (n : Nat) (mk : σ → Int → τ) (S : Nat → σ) (b : β) {s0 : σ} (h0 : s0 = S 0)
    (step : ∀ k : Nat, k < n → f (mk (S k) k) = some (.nx (mk (S (k + 1)) ((k : Int) + 1)))) (fin : f (mk (S n) n) = some (.br b)) : b01 f (mk s0 0) = some b := by
  subst h0; exact d7y n mk S b step fin
theorem b29 {k n : Nat} (h : k < n) (hn : n ≤ maxLen) : wr ((k : Int) + 1) = (k : Int) + 1 := c8r (by omega) (by simp only [maxLen] at hn; omega)
theorem c0f {b : Bool} (h : ¬ b = true) : b = false := by cases b <;> simp_all
def tab {α : Type} (n : Nat) (f : Nat → α) : List α := (List.range n).map f
def fill {α : Type} (n : Nat) (f : Nat → α) (z : α) (k : Nat) : List α := tab n fun i => if i < k then f i else z
end Go.Nw
