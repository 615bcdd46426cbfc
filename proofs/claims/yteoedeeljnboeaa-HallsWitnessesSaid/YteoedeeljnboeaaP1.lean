/- The arguments of laws, typed: printed by gentyp.py. -/
import Derived.Test.YteoedeeljnboeaaHM
import Derived.Test.YteoedeeljnboeaaNwTypes
set_option linter.all false
set_option linter.unusedVariables false
set_option linter.unusedSimpArgs false
set_option linter.unusedSectionVars false
namespace Go.Nw.HM
def b9r (x : Span) : Prop := b3a x.Low ∧ b3a x.High
def c2a (x : Comb) : Prop := b3a x.Rate ∧ b3a x.Limit ∧ b3a x.Next ∧ b9r x.Walk
theorem j7q {r : List AV} (h : MtL [.i .i64, .i .i64, .i .i64, .i .i64, .i .i64] r) : ∃ x : Comb, r = b0r x ∧ c2a x := by
  obtain ⟨a0, r0, rfl, h0, g0⟩ := b38 h
  obtain ⟨a1, r1, rfl, h1, g1⟩ := b38 g0
  obtain ⟨a2, r2, rfl, h2, g2⟩ := b38 g1
  obtain ⟨a3, r3, rfl, h3, g3⟩ := b38 g2
  obtain ⟨a4, r4, rfl, h4, g4⟩ := b38 g3
  obtain ⟨v0, rfl, k0⟩ := b4x h0
  obtain ⟨v1, rfl, k1⟩ := b4x h1
  obtain ⟨v2, rfl, k2⟩ := b4x h2
  obtain ⟨v3, rfl, k3⟩ := b4x h3
  obtain ⟨v4, rfl, k4⟩ := b4x h4
  exact ⟨⟨v0, v1, v2, ⟨v3, v4⟩⟩, by rw [c3v g4]; rfl, ⟨k0, k1, k2, ⟨k3, k4⟩⟩⟩
theorem j1s {a : AV} (h : Mt (.sl [.i .i64, .i .i64, .i .i64, .i .i64, .i .i64]) a) : ∃ l : List Comb, a = .fs 5 (l.map b0r) ∧ OkL c2a l := by
  obtain ⟨l, rfl, h1, h2⟩ := c6m b0r c2a h fun r hr => j7q hr
  exact ⟨l, rfl, h1, h2⟩
def c2b (x : Crowd) : Prop := b3a x.Comb ∧ b9r x.People
theorem j7r {r : List AV} (h : MtL [.i .i64, .i .i64, .i .i64] r) : ∃ x : Crowd, r = b2m x ∧ c2b x := by
  obtain ⟨a0, r0, rfl, h0, g0⟩ := b38 h
  obtain ⟨a1, r1, rfl, h1, g1⟩ := b38 g0
  obtain ⟨a2, r2, rfl, h2, g2⟩ := b38 g1
  obtain ⟨v0, rfl, k0⟩ := b4x h0
  obtain ⟨v1, rfl, k1⟩ := b4x h1
  obtain ⟨v2, rfl, k2⟩ := b4x h2
  exact ⟨⟨v0, ⟨v1, v2⟩⟩, by rw [c3v g2]; rfl, ⟨k0, ⟨k1, k2⟩⟩⟩
theorem j1t {a : AV} (h : Mt (.sl [.i .i64, .i .i64, .i .i64]) a) : ∃ l : List Crowd, a = .fs 3 (l.map b2m) ∧ OkL c2b l := by
  obtain ⟨l, rfl, h1, h2⟩ := c6m b2m c2b h fun r hr => j7r hr
  exact ⟨l, rfl, h1, h2⟩
def b8b (x : Train) : Prop := b9r x.At ∧ OkL c2b x.Crowds
theorem j7u {r : List AV} (h : MtL [.i .i64, .i .i64, .sl [.i .i64, .i .i64, .i .i64]] r) : ∃ x : Train, r = b0p x ∧ b8b x := by
  obtain ⟨a0, r0, rfl, h0, g0⟩ := b38 h
  obtain ⟨a1, r1, rfl, h1, g1⟩ := b38 g0
  obtain ⟨a2, r2, rfl, h2, g2⟩ := b38 g1
  obtain ⟨v0, rfl, k0⟩ := b4x h0
  obtain ⟨v1, rfl, k1⟩ := b4x h1
  obtain ⟨v2, rfl, k2⟩ := j1t h2
  exact ⟨⟨⟨v0, v1⟩, v2⟩, by rw [c3v g2]; rfl, ⟨⟨k0, k1⟩, k2⟩⟩
theorem j1v {a : AV} (h : Mt (.sl [.i .i64, .i .i64, .sl [.i .i64, .i .i64, .i .i64]]) a) : ∃ l : List Train, a = .fs 3 (l.map b0p) ∧ OkL b8b l := by
  obtain ⟨l, rfl, h1, h2⟩ := c6m b0p b8b h fun r hr => j7u hr
  exact ⟨l, rfl, h1, h2⟩
def c2c (x : Shift) : Prop := b3a x.At ∧ b3a x.Comb ∧ b3a x.Rate
theorem j7t {r : List AV} (h : MtL [.i .i64, .i .i64, .i .i64] r) : ∃ x : Shift, r = b0u x ∧ c2c x := by
  obtain ⟨a0, r0, rfl, h0, g0⟩ := b38 h
  obtain ⟨a1, r1, rfl, h1, g1⟩ := b38 g0
  obtain ⟨a2, r2, rfl, h2, g2⟩ := b38 g1
  obtain ⟨v0, rfl, k0⟩ := b4x h0
  obtain ⟨v1, rfl, k1⟩ := b4x h1
  obtain ⟨v2, rfl, k2⟩ := b4x h2
  exact ⟨⟨v0, v1, v2⟩, by rw [c3v g2]; rfl, ⟨k0, k1, k2⟩⟩
theorem j1u {a : AV} (h : Mt (.sl [.i .i64, .i .i64, .i .i64]) a) : ∃ l : List Shift, a = .fs 3 (l.map b0u) ∧ OkL c2c l := by
  obtain ⟨l, rfl, h1, h2⟩ := c6m b0u c2c h fun r hr => j7t hr
  exact ⟨l, rfl, h1, h2⟩
def b5v (x : Hall) : Prop := OkL c2a x.Combs ∧ OkL b8b x.Trains ∧ OkL c2c x.Shifts ∧ b3a x.Until
def g5q (x : Hall) : List AV := [.fs 5 (List.map b0r x.Combs), .fs 3 (List.map b0p x.Trains), .fs 3 (List.map b0u x.Shifts), I x.Until]
theorem j7s {r : List AV} (h : MtL [.sl [.i .i64, .i .i64, .i .i64, .i .i64, .i .i64], .sl [.i .i64, .i .i64, .sl [.i .i64, .i .i64, .i .i64]], .sl [.i .i64, .i .i64, .i .i64], .i .i64] r) : ∃ x : Hall, r = g5q x ∧ b5v x := by
  obtain ⟨a0, r0, rfl, h0, g0⟩ := b38 h
  obtain ⟨a1, r1, rfl, h1, g1⟩ := b38 g0
  obtain ⟨a2, r2, rfl, h2, g2⟩ := b38 g1
  obtain ⟨a3, r3, rfl, h3, g3⟩ := b38 g2
  obtain ⟨v0, rfl, k0⟩ := j1s h0
  obtain ⟨v1, rfl, k1⟩ := j1v h1
  obtain ⟨v2, rfl, k2⟩ := j1u h2
  obtain ⟨v3, rfl, k3⟩ := b4x h3
  exact ⟨⟨v0, v1, v2, v3⟩, by rw [c3v g3]; rfl, ⟨k0, k1, k2, k3⟩⟩
abbrev d2f : List Sh := [.sl [.i .i64, .i .i64, .i .i64, .i .i64, .i .i64], .sl [.i .i64, .i .i64, .sl [.i .i64, .i .i64, .i .i64]], .sl [.i .i64, .i .i64, .i .i64], .i .i64]
theorem j8w {a : AV} (h : MtA (.agg d2f) a) : ∃ x : Hall, a = .agg [.fs 5 (List.map b0r x.Combs), .fs 3 (List.map b0p x.Trains), .fs 3 (List.map b0u x.Shifts), I x.Until] ∧ b5v x := by
  obtain ⟨r, rfl, hr⟩ := j1w h
  obtain ⟨x, rfl, hx⟩ := j7s hr
  exact ⟨x, rfl, hx⟩
def b9q (x : Day) : Prop := OkL b3a x.At ∧ OkL (OkL b3a) x.People ∧ OkL (OkL b3a) x.Walks
end Go.Nw.HM
