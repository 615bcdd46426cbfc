/- The arguments of laws, typed: printed by gentyp.py. -/
import Derived.Test.YtaccbljgojdfjaaDoorFM
import Derived.Test.YtaccbljgojdfjaaDoorNwTypes
set_option linter.all false
set_option linter.unusedVariables false
set_option linter.unusedSimpArgs false
set_option linter.unusedSectionVars false
namespace Go.Nw.FM
def b5h (x : Reading) : Prop := b5g x.Says ∧ b5g x.Error ∧ b5g x.Drift ∧ b5g x.Days
theorem g3z {r : List AV} (h : MtL [.i .i64, .i .i64, .i .i64, .i .i64] r) : ∃ x : Reading, r = b0w x ∧ b5h x := by
  obtain ⟨a0, r0, rfl, h0, g0⟩ := b87 h
  obtain ⟨a1, r1, rfl, h1, g1⟩ := b87 g0
  obtain ⟨a2, r2, rfl, h2, g2⟩ := b87 g1
  obtain ⟨a3, r3, rfl, h3, g3⟩ := b87 g2
  obtain ⟨v0, rfl, k0⟩ := b86 h0
  obtain ⟨v1, rfl, k1⟩ := b86 h1
  obtain ⟨v2, rfl, k2⟩ := b86 h2
  obtain ⟨v3, rfl, k3⟩ := b86 h3
  exact ⟨⟨v0, v1, v2, v3⟩, by rw [d8m g3]; rfl, ⟨k0, k1, k2, k3⟩⟩
theorem d8h {a : AV} (h : Mt (.sl [.i .i64, .i .i64, .i .i64, .i .i64]) a) : ∃ l : List Reading, a = .fs 4 (l.map b0w) ∧ OkL b5h l := by
  obtain ⟨l, rfl, h1, h2⟩ := d8i b0w b5h h fun r hr => g3z hr
  exact ⟨l, rfl, h1, h2⟩
abbrev c2z : Sh := .sl [.i .i64, .i .i64, .i .i64, .i .i64]
theorem g4y {a : AV} (h : MtA (.c c2z) a) : ∃ x : List Reading, a = .fs 4 (List.map b0w x) ∧ (OkL b5h) x := d8h (d8j h)
end Go.Nw.FM
