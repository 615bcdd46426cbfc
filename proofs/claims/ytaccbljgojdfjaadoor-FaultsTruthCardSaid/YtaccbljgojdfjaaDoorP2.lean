/- The arguments of laws, typed: printed by gentyp.py. -/
import Derived.Test.YtaccbljgojdfjaaDoorFM
import Derived.Test.YtaccbljgojdfjaaDoorNwTypes
set_option linter.all false
set_option linter.unusedVariables false
set_option linter.unusedSimpArgs false
set_option linter.unusedSectionVars false
namespace Go.Nw.FM
def b5a (x : Reading) : Prop := b3b x.Says ∧ b3b x.Error ∧ b3b x.Drift ∧ b3b x.Days
theorem g3n {r : List AV} (h : MtL [.i .i64, .i .i64, .i .i64, .i .i64] r) : ∃ x : Reading, r = b0r x ∧ b5a x := by
  obtain ⟨a0, r0, rfl, h0, g0⟩ := b84 h
  obtain ⟨a1, r1, rfl, h1, g1⟩ := b84 g0
  obtain ⟨a2, r2, rfl, h2, g2⟩ := b84 g1
  obtain ⟨a3, r3, rfl, h3, g3⟩ := b84 g2
  obtain ⟨v0, rfl, k0⟩ := b65 h0
  obtain ⟨v1, rfl, k1⟩ := b65 h1
  obtain ⟨v2, rfl, k2⟩ := b65 h2
  obtain ⟨v3, rfl, k3⟩ := b65 h3
  exact ⟨⟨v0, v1, v2, v3⟩, by rw [d76 g3]; rfl, ⟨k0, k1, k2, k3⟩⟩
theorem d73 {a : AV} (h : Mt (.sl [.i .i64, .i .i64, .i .i64, .i .i64]) a) : ∃ l : List Reading, a = .fs 4 (l.map b0r) ∧ OkL b5a l := by
  obtain ⟨l, rfl, h1, h2⟩ := d74 b0r b5a h fun r hr => g3n hr
  exact ⟨l, rfl, h1, h2⟩
abbrev c2q : Sh := .sl [.i .i64, .i .i64, .i .i64, .i .i64]
theorem g4m {a : AV} (h : MtA (.c c2q) a) : ∃ x : List Reading, a = .fs 4 (List.map b0r x) ∧ (OkL b5a) x := d73 (c69 h)
end Go.Nw.FM
