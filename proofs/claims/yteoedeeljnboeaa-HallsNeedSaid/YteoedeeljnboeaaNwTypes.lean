/- Lists of what a law may be given. -/
import Derived.Test.YteoedeeljnboeaaNwTyp
set_option linter.all false
set_option linter.unusedVariables false
set_option linter.unusedSimpArgs false
set_option linter.unusedSectionVars false
namespace Go.Nw
def OkL {α : Type} (P : α → Prop) (l : List α) : Prop := l.length ≤ maxLen ∧ ∀ x ∈ l, P x
theorem row_I {r : List AV} (h : MtL [.i .i64] r) : ∃ x, r = eI x ∧ In64 x := row_i64 h
theorem row_B {r : List AV} (h : MtL [.b] r) : ∃ x, r = eB x ∧ True := by
  obtain ⟨a, r', rfl, h1, h2⟩ := mtl_cons h
  obtain ⟨n, rfl⟩ := mt_b h1
  exact ⟨n, by rw [mtl_nil h2]; rfl, trivial⟩
theorem mt_bb {a : AV} (h : Mt .b a) : ∃ x, a = B x ∧ True := by
  obtain ⟨x, rfl⟩ := mt_b h
  exact ⟨x, rfl, trivial⟩
theorem typ_I {a : AV} (h : MtA (.c (.i .i64)) a) : ∃ n : Int, a = I n ∧ In64 n := mt_i64 (mta_c h)
theorem typ_B {a : AV} (h : MtA (.c .b) a) : ∃ n : Bool, a = B n ∧ True := mt_bb (mta_c h)
end Go.Nw
