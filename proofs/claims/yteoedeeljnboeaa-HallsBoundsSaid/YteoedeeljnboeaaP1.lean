/- The arguments of laws, typed: printed by gentyp.py. -/
import Derived.Test.YteoedeeljnboeaaHM
import Derived.Test.YteoedeeljnboeaaNwTypes
set_option linter.all false
set_option linter.unusedVariables false
set_option linter.unusedSimpArgs false
set_option linter.unusedSectionVars false
namespace Go.Nw.HM
def b93 (x : Span) : Prop := b3g x.Low ∧ b3g x.High
def c2c (x : Comb) : Prop := b3g x.Rate ∧ b3g x.Limit ∧ b3g x.Next ∧ b93 x.Walk
theorem j69 {r : List AV} (h : MtL [.i .i64, .i .i64, .i .i64, .i .i64, .i .i64] r) : ∃ x : Comb, r = b0r x ∧ c2c x := by
  obtain ⟨a0, r0, rfl, h0, g0⟩ := b3n h
  obtain ⟨a1, r1, rfl, h1, g1⟩ := b3n g0
  obtain ⟨a2, r2, rfl, h2, g2⟩ := b3n g1
  obtain ⟨a3, r3, rfl, h3, g3⟩ := b3n g2
  obtain ⟨a4, r4, rfl, h4, g4⟩ := b3n g3
  obtain ⟨v0, rfl, k0⟩ := b39 h0
  obtain ⟨v1, rfl, k1⟩ := b39 h1
  obtain ⟨v2, rfl, k2⟩ := b39 h2
  obtain ⟨v3, rfl, k3⟩ := b39 h3
  obtain ⟨v4, rfl, k4⟩ := b39 h4
  exact ⟨⟨v0, v1, v2, ⟨v3, v4⟩⟩, by rw [c1c g4]; rfl, ⟨k0, k1, k2, ⟨k3, k4⟩⟩⟩
theorem j1d {a : AV} (h : Mt (.sl [.i .i64, .i .i64, .i .i64, .i .i64, .i .i64]) a) : ∃ l : List Comb, a = .fs 5 (l.map b0r) ∧ OkL c2c l := by
  obtain ⟨l, rfl, h1, h2⟩ := c6i b0r c2c h fun r hr => j69 hr
  exact ⟨l, rfl, h1, h2⟩
def c2d (x : Crowd) : Prop := b3g x.Comb ∧ b93 x.People
theorem j7a {r : List AV} (h : MtL [.i .i64, .i .i64, .i .i64] r) : ∃ x : Crowd, r = b20 x ∧ c2d x := by
  obtain ⟨a0, r0, rfl, h0, g0⟩ := b3n h
  obtain ⟨a1, r1, rfl, h1, g1⟩ := b3n g0
  obtain ⟨a2, r2, rfl, h2, g2⟩ := b3n g1
  obtain ⟨v0, rfl, k0⟩ := b39 h0
  obtain ⟨v1, rfl, k1⟩ := b39 h1
  obtain ⟨v2, rfl, k2⟩ := b39 h2
  exact ⟨⟨v0, ⟨v1, v2⟩⟩, by rw [c1c g2]; rfl, ⟨k0, ⟨k1, k2⟩⟩⟩
theorem j1e {a : AV} (h : Mt (.sl [.i .i64, .i .i64, .i .i64]) a) : ∃ l : List Crowd, a = .fs 3 (l.map b20) ∧ OkL c2d l := by
  obtain ⟨l, rfl, h1, h2⟩ := c6i b20 c2d h fun r hr => j7a hr
  exact ⟨l, rfl, h1, h2⟩
def b8e (x : Train) : Prop := b93 x.At ∧ OkL c2d x.Crowds
theorem j7d {r : List AV} (h : MtL [.i .i64, .i .i64, .sl [.i .i64, .i .i64, .i .i64]] r) : ∃ x : Train, r = b0o x ∧ b8e x := by
  obtain ⟨a0, r0, rfl, h0, g0⟩ := b3n h
  obtain ⟨a1, r1, rfl, h1, g1⟩ := b3n g0
  obtain ⟨a2, r2, rfl, h2, g2⟩ := b3n g1
  obtain ⟨v0, rfl, k0⟩ := b39 h0
  obtain ⟨v1, rfl, k1⟩ := b39 h1
  obtain ⟨v2, rfl, k2⟩ := j1e h2
  exact ⟨⟨⟨v0, v1⟩, v2⟩, by rw [c1c g2]; rfl, ⟨⟨k0, k1⟩, k2⟩⟩
theorem j1g {a : AV} (h : Mt (.sl [.i .i64, .i .i64, .sl [.i .i64, .i .i64, .i .i64]]) a) : ∃ l : List Train, a = .fs 3 (l.map b0o) ∧ OkL b8e l := by
  obtain ⟨l, rfl, h1, h2⟩ := c6i b0o b8e h fun r hr => j7d hr
  exact ⟨l, rfl, h1, h2⟩
def c2e (x : Shift) : Prop := b3g x.At ∧ b3g x.Comb ∧ b3g x.Rate
theorem j7c {r : List AV} (h : MtL [.i .i64, .i .i64, .i .i64] r) : ∃ x : Shift, r = b0s x ∧ c2e x := by
  obtain ⟨a0, r0, rfl, h0, g0⟩ := b3n h
  obtain ⟨a1, r1, rfl, h1, g1⟩ := b3n g0
  obtain ⟨a2, r2, rfl, h2, g2⟩ := b3n g1
  obtain ⟨v0, rfl, k0⟩ := b39 h0
  obtain ⟨v1, rfl, k1⟩ := b39 h1
  obtain ⟨v2, rfl, k2⟩ := b39 h2
  exact ⟨⟨v0, v1, v2⟩, by rw [c1c g2]; rfl, ⟨k0, k1, k2⟩⟩
theorem j1f {a : AV} (h : Mt (.sl [.i .i64, .i .i64, .i .i64]) a) : ∃ l : List Shift, a = .fs 3 (l.map b0s) ∧ OkL c2e l := by
  obtain ⟨l, rfl, h1, h2⟩ := c6i b0s c2e h fun r hr => j7c hr
  exact ⟨l, rfl, h1, h2⟩
def b5u (x : Hall) : Prop := OkL c2c x.Combs ∧ OkL b8e x.Trains ∧ OkL c2e x.Shifts ∧ b3g x.Until
def g5d (x : Hall) : List AV := [.fs 5 (List.map b0r x.Combs), .fs 3 (List.map b0o x.Trains), .fs 3 (List.map b0s x.Shifts), I x.Until]
theorem j7b {r : List AV} (h : MtL [.sl [.i .i64, .i .i64, .i .i64, .i .i64, .i .i64], .sl [.i .i64, .i .i64, .sl [.i .i64, .i .i64, .i .i64]], .sl [.i .i64, .i .i64, .i .i64], .i .i64] r) : ∃ x : Hall, r = g5d x ∧ b5u x := by
  obtain ⟨a0, r0, rfl, h0, g0⟩ := b3n h
  obtain ⟨a1, r1, rfl, h1, g1⟩ := b3n g0
  obtain ⟨a2, r2, rfl, h2, g2⟩ := b3n g1
  obtain ⟨a3, r3, rfl, h3, g3⟩ := b3n g2
  obtain ⟨v0, rfl, k0⟩ := j1d h0
  obtain ⟨v1, rfl, k1⟩ := j1g h1
  obtain ⟨v2, rfl, k2⟩ := j1f h2
  obtain ⟨v3, rfl, k3⟩ := b39 h3
  exact ⟨⟨v0, v1, v2, v3⟩, by rw [c1c g3]; rfl, ⟨k0, k1, k2, k3⟩⟩
abbrev d17 : List Sh := [.sl [.i .i64, .i .i64, .i .i64, .i .i64, .i .i64], .sl [.i .i64, .i .i64, .sl [.i .i64, .i .i64, .i .i64]], .sl [.i .i64, .i .i64, .i .i64], .i .i64]
theorem j8f {a : AV} (h : MtA (.agg d17) a) : ∃ x : Hall, a = .agg [.fs 5 (List.map b0r x.Combs), .fs 3 (List.map b0o x.Trains), .fs 3 (List.map b0s x.Shifts), I x.Until] ∧ b5u x := by
  obtain ⟨r, rfl, hr⟩ := d8a h
  obtain ⟨x, rfl, hx⟩ := j7b hr
  exact ⟨x, rfl, hx⟩
def c4r (x : l06_Window) : Prop := b3g x.Comb ∧ b3g x.From ∧ b3g x.To
def g5i (x : l06_Window) : List AV := [I x.Comb, I x.From, I x.To]
theorem j7g {r : List AV} (h : MtL [.i .i64, .i .i64, .i .i64] r) : ∃ x : l06_Window, r = g5i x ∧ c4r x := by
  obtain ⟨a0, r0, rfl, h0, g0⟩ := b3n h
  obtain ⟨a1, r1, rfl, h1, g1⟩ := b3n g0
  obtain ⟨a2, r2, rfl, h2, g2⟩ := b3n g1
  obtain ⟨v0, rfl, k0⟩ := b39 h0
  obtain ⟨v1, rfl, k1⟩ := b39 h1
  obtain ⟨v2, rfl, k2⟩ := b39 h2
  exact ⟨⟨v0, v1, v2⟩, by rw [c1c g2]; rfl, ⟨k0, k1, k2⟩⟩
abbrev d18 : List Sh := [.i .i64, .i .i64, .i .i64]
theorem j8g {a : AV} (h : MtA (.agg d18) a) : ∃ x : l06_Window, a = .agg [I x.Comb, I x.From, I x.To] ∧ c4r x := by
  obtain ⟨r, rfl, hr⟩ := d8a h
  obtain ⟨x, rfl, hx⟩ := j7g hr
  exact ⟨x, rfl, hx⟩
def g1s (x : Day) : Prop := OkL b3g x.At ∧ OkL (OkL b3g) x.People ∧ OkL (OkL b3g) x.Walks
end Go.Nw.HM
