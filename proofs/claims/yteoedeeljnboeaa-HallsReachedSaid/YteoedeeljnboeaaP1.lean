/- The arguments of laws, typed: printed by gentyp.py. -/
import Derived.Test.YteoedeeljnboeaaHM
import Derived.Test.YteoedeeljnboeaaNwTypes
set_option linter.all false
set_option linter.unusedVariables false
set_option linter.unusedSimpArgs false
set_option linter.unusedSectionVars false
namespace Go.Nw.HM
def b9t (x : Span) : Prop := b22 x.Low ∧ b22 x.High
def c1t (x : Comb) : Prop := b22 x.Rate ∧ b22 x.Limit ∧ b22 x.Next ∧ b9t x.Walk
theorem j69 {r : List AV} (h : MtL [.i .i64, .i .i64, .i .i64, .i .i64, .i .i64] r) : ∃ x : Comb, r = b0n x ∧ c1t x := by
  obtain ⟨a0, r0, rfl, h0, g0⟩ := b35 h
  obtain ⟨a1, r1, rfl, h1, g1⟩ := b35 g0
  obtain ⟨a2, r2, rfl, h2, g2⟩ := b35 g1
  obtain ⟨a3, r3, rfl, h3, g3⟩ := b35 g2
  obtain ⟨a4, r4, rfl, h4, g4⟩ := b35 g3
  obtain ⟨v0, rfl, k0⟩ := b4w h0
  obtain ⟨v1, rfl, k1⟩ := b4w h1
  obtain ⟨v2, rfl, k2⟩ := b4w h2
  obtain ⟨v3, rfl, k3⟩ := b4w h3
  obtain ⟨v4, rfl, k4⟩ := b4w h4
  exact ⟨⟨v0, v1, v2, ⟨v3, v4⟩⟩, by rw [c3k g4]; rfl, ⟨k0, k1, k2, ⟨k3, k4⟩⟩⟩
theorem j1h {a : AV} (h : Mt (.sl [.i .i64, .i .i64, .i .i64, .i .i64, .i .i64]) a) : ∃ l : List Comb, a = .fs 5 (l.map b0n) ∧ OkL c1t l := by
  obtain ⟨l, rfl, h1, h2⟩ := c6i b0n c1t h fun r hr => j69 hr
  exact ⟨l, rfl, h1, h2⟩
def c1u (x : Crowd) : Prop := b22 x.Comb ∧ b9t x.People
theorem j7a {r : List AV} (h : MtL [.i .i64, .i .i64, .i .i64] r) : ∃ x : Crowd, r = b2j x ∧ c1u x := by
  obtain ⟨a0, r0, rfl, h0, g0⟩ := b35 h
  obtain ⟨a1, r1, rfl, h1, g1⟩ := b35 g0
  obtain ⟨a2, r2, rfl, h2, g2⟩ := b35 g1
  obtain ⟨v0, rfl, k0⟩ := b4w h0
  obtain ⟨v1, rfl, k1⟩ := b4w h1
  obtain ⟨v2, rfl, k2⟩ := b4w h2
  exact ⟨⟨v0, ⟨v1, v2⟩⟩, by rw [c3k g2]; rfl, ⟨k0, ⟨k1, k2⟩⟩⟩
theorem j1i {a : AV} (h : Mt (.sl [.i .i64, .i .i64, .i .i64]) a) : ∃ l : List Crowd, a = .fs 3 (l.map b2j) ∧ OkL c1u l := by
  obtain ⟨l, rfl, h1, h2⟩ := c6i b2j c1u h fun r hr => j7a hr
  exact ⟨l, rfl, h1, h2⟩
def b8i (x : Train) : Prop := b9t x.At ∧ OkL c1u x.Crowds
theorem j7d {r : List AV} (h : MtL [.i .i64, .i .i64, .sl [.i .i64, .i .i64, .i .i64]] r) : ∃ x : Train, r = b0k x ∧ b8i x := by
  obtain ⟨a0, r0, rfl, h0, g0⟩ := b35 h
  obtain ⟨a1, r1, rfl, h1, g1⟩ := b35 g0
  obtain ⟨a2, r2, rfl, h2, g2⟩ := b35 g1
  obtain ⟨v0, rfl, k0⟩ := b4w h0
  obtain ⟨v1, rfl, k1⟩ := b4w h1
  obtain ⟨v2, rfl, k2⟩ := j1i h2
  exact ⟨⟨⟨v0, v1⟩, v2⟩, by rw [c3k g2]; rfl, ⟨⟨k0, k1⟩, k2⟩⟩
theorem j1k {a : AV} (h : Mt (.sl [.i .i64, .i .i64, .sl [.i .i64, .i .i64, .i .i64]]) a) : ∃ l : List Train, a = .fs 3 (l.map b0k) ∧ OkL b8i l := by
  obtain ⟨l, rfl, h1, h2⟩ := c6i b0k b8i h fun r hr => j7d hr
  exact ⟨l, rfl, h1, h2⟩
def c1v (x : Shift) : Prop := b22 x.At ∧ b22 x.Comb ∧ b22 x.Rate
theorem j7c {r : List AV} (h : MtL [.i .i64, .i .i64, .i .i64] r) : ∃ x : Shift, r = b0s x ∧ c1v x := by
  obtain ⟨a0, r0, rfl, h0, g0⟩ := b35 h
  obtain ⟨a1, r1, rfl, h1, g1⟩ := b35 g0
  obtain ⟨a2, r2, rfl, h2, g2⟩ := b35 g1
  obtain ⟨v0, rfl, k0⟩ := b4w h0
  obtain ⟨v1, rfl, k1⟩ := b4w h1
  obtain ⟨v2, rfl, k2⟩ := b4w h2
  exact ⟨⟨v0, v1, v2⟩, by rw [c3k g2]; rfl, ⟨k0, k1, k2⟩⟩
theorem j1j {a : AV} (h : Mt (.sl [.i .i64, .i .i64, .i .i64]) a) : ∃ l : List Shift, a = .fs 3 (l.map b0s) ∧ OkL c1v l := by
  obtain ⟨l, rfl, h1, h2⟩ := c6i b0s c1v h fun r hr => j7c hr
  exact ⟨l, rfl, h1, h2⟩
def b5i (x : Hall) : Prop := OkL c1t x.Combs ∧ OkL b8i x.Trains ∧ OkL c1v x.Shifts ∧ b22 x.Until
def g5k (x : Hall) : List AV := [.fs 5 (List.map b0n x.Combs), .fs 3 (List.map b0k x.Trains), .fs 3 (List.map b0s x.Shifts), I x.Until]
theorem j7b {r : List AV} (h : MtL [.sl [.i .i64, .i .i64, .i .i64, .i .i64, .i .i64], .sl [.i .i64, .i .i64, .sl [.i .i64, .i .i64, .i .i64]], .sl [.i .i64, .i .i64, .i .i64], .i .i64] r) : ∃ x : Hall, r = g5k x ∧ b5i x := by
  obtain ⟨a0, r0, rfl, h0, g0⟩ := b35 h
  obtain ⟨a1, r1, rfl, h1, g1⟩ := b35 g0
  obtain ⟨a2, r2, rfl, h2, g2⟩ := b35 g1
  obtain ⟨a3, r3, rfl, h3, g3⟩ := b35 g2
  obtain ⟨v0, rfl, k0⟩ := j1h h0
  obtain ⟨v1, rfl, k1⟩ := j1k h1
  obtain ⟨v2, rfl, k2⟩ := j1j h2
  obtain ⟨v3, rfl, k3⟩ := b4w h3
  exact ⟨⟨v0, v1, v2, v3⟩, by rw [c3k g3]; rfl, ⟨k0, k1, k2, k3⟩⟩
abbrev d2c : List Sh := [.sl [.i .i64, .i .i64, .i .i64, .i .i64, .i .i64], .sl [.i .i64, .i .i64, .sl [.i .i64, .i .i64, .i .i64]], .sl [.i .i64, .i .i64, .i .i64], .i .i64]
theorem j8d {a : AV} (h : MtA (.agg d2c) a) : ∃ x : Hall, a = .agg [.fs 5 (List.map b0n x.Combs), .fs 3 (List.map b0k x.Trains), .fs 3 (List.map b0s x.Shifts), I x.Until] ∧ b5i x := by
  obtain ⟨r, rfl, hr⟩ := j1l h
  obtain ⟨x, rfl, hx⟩ := j7b hr
  exact ⟨x, rfl, hx⟩
def c4j (x : Day) : Prop := OkL b22 x.At ∧ OkL (OkL b22) x.People ∧ OkL (OkL b22) x.Walks
end Go.Nw.HM
