/- Models that can be evaluated lie below the models. -/
import Derived.Test.YteoedeeljnboeaaNwModel
import Derived.Test.YteoedeeljnboeaaNwHeap
set_option linter.all false
namespace Go.Nw
structure Le {α : Type} (a b : Option α) : Prop where
 h : ∀ r, a = some r -> b = some r
theorem le_refl {α : Type} (a : Option α) : Le a a := ⟨fun _ h => h⟩
theorem b37 {α β : Type} {a a' : Option α} {f f' : α -> Option β} (h : Le a a') (hf : ∀ x, Le (f x) (f' x)) : Le (a.bind f) (a'.bind f') := ⟨fun r hr => by
 obtain ⟨x, h1, h2⟩ := b0g hr
 rw [h.h x h1]; exact (hf x).h r h2⟩
theorem b39 {α : Type} {c : Prop} [Decidable c] {a a' b b' : Option α} (h1 : Le a a') (h2 : Le b b') : Le (if c then a else b) (if c then a' else b') := by
 split
 ·exact h1
 ·exact h2
theorem G6q {σ β : Type} {f f' : σ -> Option (Out σ β)} (h : ∀ s, Le (f s) (f' s)) : ∀ n s, Le (b4g f n s) (b4g f' n s)
 | 0, _ => ⟨fun r hr => by simp [b4g] at hr⟩
 | n + 1, s => ⟨fun r hr => by
  simp only [b4g] at hr ⊢
  cases hf : f s with
  | none => rw [hf] at hr; cases hr
  | some o =>
   rw [hf] at hr
   rw [(h s).h o hf]
   cases o with
   | br b => exact hr
   | nx s' => exact (G6q h n s').h r hr⟩
def x22 {σ β : Type} (f : σ -> Option (Out σ β)) (s : σ) : Option β := b4g f 100000 s
theorem b48 {σ β : Type} {f f' : σ -> Option (Out σ β)} {s : σ} (h : ∀ s, Le (f s) (f' s)) : Le (x22 f s) (b0w f' s) := ⟨fun r hr => d36 ((G6q h 100000 s).h r hr)⟩
end Go.Nw
