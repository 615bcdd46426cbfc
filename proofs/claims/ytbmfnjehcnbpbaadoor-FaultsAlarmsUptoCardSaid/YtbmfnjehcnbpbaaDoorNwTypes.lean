/- Lists of what a law may be given. -/
import Derived.Test.YtbmfnjehcnbpbaaDoorNwTyp
set_option linter.all false
namespace Go.Nw
variable [Bd]
def OkL {α : Type} (P : α -> Prop) (l : List α) : Prop := l.length <= Bd.B /\ ∀ x ∈ l, P x
theorem p36 {r : List AV} (h : MtL [.i .i64] r) : ∃ x, r = eI x /\ b5k x := p37 h
theorem D6e {r : List AV} (h : MtL [.b] r) : ∃ x, r = eB x /\ True := by
 obtain ⟨a, r', rfl, h1, h2⟩ := b3e h
 obtain ⟨n, rfl⟩ := j8j h1
 exact ⟨n, by rw [b6o h2]; rfl, trivial⟩
end Go.Nw
