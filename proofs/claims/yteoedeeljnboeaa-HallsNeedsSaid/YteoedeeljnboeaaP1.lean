/- The arguments of laws, typed: printed by gentyp.py. -/
import Derived.Test.YteoedeeljnboeaaHM
import Derived.Test.YteoedeeljnboeaaNwTypes
set_option linter.all false
set_option linter.unusedVariables false
set_option linter.unusedSimpArgs false
set_option linter.unusedSectionVars false
namespace Go.Nw.HM
def b95 (x : Span) : Prop := b3d x.Low ∧ b3d x.High
def c2i (x : Comb) : Prop := b3d x.Rate ∧ b3d x.Limit ∧ b3d x.Next ∧ b95 x.Walk
theorem j8f {r : List AV} (h : MtL [.i .i64, .i .i64, .i .i64, .i .i64, .i .i64] r) : ∃ x : Comb, r = b0q x ∧ c2i x := by
  obtain ⟨a0, r0, rfl, h0, g0⟩ := b4e h
  obtain ⟨a1, r1, rfl, h1, g1⟩ := b4e g0
  obtain ⟨a2, r2, rfl, h2, g2⟩ := b4e g1
  obtain ⟨a3, r3, rfl, h3, g3⟩ := b4e g2
  obtain ⟨a4, r4, rfl, h4, g4⟩ := b4e g3
  obtain ⟨v0, rfl, k0⟩ := b46 h0
  obtain ⟨v1, rfl, k1⟩ := b46 h1
  obtain ⟨v2, rfl, k2⟩ := b46 h2
  obtain ⟨v3, rfl, k3⟩ := b46 h3
  obtain ⟨v4, rfl, k4⟩ := b46 h4
  exact ⟨⟨v0, v1, v2, ⟨v3, v4⟩⟩, by rw [c31 g4]; rfl, ⟨k0, k1, k2, ⟨k3, k4⟩⟩⟩
theorem j2g {a : AV} (h : Mt (.sl [.i .i64, .i .i64, .i .i64, .i .i64, .i .i64]) a) : ∃ l : List Comb, a = .fs 5 (l.map b0q) ∧ OkL c2i l := by
  obtain ⟨l, rfl, h1, h2⟩ := c6t b0q c2i h fun r hr => j8f hr
  exact ⟨l, rfl, h1, h2⟩
def c2j (x : Crowd) : Prop := b3d x.Comb ∧ b95 x.People
theorem j8g {r : List AV} (h : MtL [.i .i64, .i .i64, .i .i64] r) : ∃ x : Crowd, r = b21 x ∧ c2j x := by
  obtain ⟨a0, r0, rfl, h0, g0⟩ := b4e h
  obtain ⟨a1, r1, rfl, h1, g1⟩ := b4e g0
  obtain ⟨a2, r2, rfl, h2, g2⟩ := b4e g1
  obtain ⟨v0, rfl, k0⟩ := b46 h0
  obtain ⟨v1, rfl, k1⟩ := b46 h1
  obtain ⟨v2, rfl, k2⟩ := b46 h2
  exact ⟨⟨v0, ⟨v1, v2⟩⟩, by rw [c31 g2]; rfl, ⟨k0, ⟨k1, k2⟩⟩⟩
theorem j2h {a : AV} (h : Mt (.sl [.i .i64, .i .i64, .i .i64]) a) : ∃ l : List Crowd, a = .fs 3 (l.map b21) ∧ OkL c2j l := by
  obtain ⟨l, rfl, h1, h2⟩ := c6t b21 c2j h fun r hr => j8g hr
  exact ⟨l, rfl, h1, h2⟩
def b8m (x : Train) : Prop := b95 x.At ∧ OkL c2j x.Crowds
theorem j8j {r : List AV} (h : MtL [.i .i64, .i .i64, .sl [.i .i64, .i .i64, .i .i64]] r) : ∃ x : Train, r = b0p x ∧ b8m x := by
  obtain ⟨a0, r0, rfl, h0, g0⟩ := b4e h
  obtain ⟨a1, r1, rfl, h1, g1⟩ := b4e g0
  obtain ⟨a2, r2, rfl, h2, g2⟩ := b4e g1
  obtain ⟨v0, rfl, k0⟩ := b46 h0
  obtain ⟨v1, rfl, k1⟩ := b46 h1
  obtain ⟨v2, rfl, k2⟩ := j2h h2
  exact ⟨⟨⟨v0, v1⟩, v2⟩, by rw [c31 g2]; rfl, ⟨⟨k0, k1⟩, k2⟩⟩
theorem j2j {a : AV} (h : Mt (.sl [.i .i64, .i .i64, .sl [.i .i64, .i .i64, .i .i64]]) a) : ∃ l : List Train, a = .fs 3 (l.map b0p) ∧ OkL b8m l := by
  obtain ⟨l, rfl, h1, h2⟩ := c6t b0p b8m h fun r hr => j8j hr
  exact ⟨l, rfl, h1, h2⟩
def c2k (x : Shift) : Prop := b3d x.At ∧ b3d x.Comb ∧ b3d x.Rate
theorem j8i {r : List AV} (h : MtL [.i .i64, .i .i64, .i .i64] r) : ∃ x : Shift, r = b0o x ∧ c2k x := by
  obtain ⟨a0, r0, rfl, h0, g0⟩ := b4e h
  obtain ⟨a1, r1, rfl, h1, g1⟩ := b4e g0
  obtain ⟨a2, r2, rfl, h2, g2⟩ := b4e g1
  obtain ⟨v0, rfl, k0⟩ := b46 h0
  obtain ⟨v1, rfl, k1⟩ := b46 h1
  obtain ⟨v2, rfl, k2⟩ := b46 h2
  exact ⟨⟨v0, v1, v2⟩, by rw [c31 g2]; rfl, ⟨k0, k1, k2⟩⟩
theorem j2i {a : AV} (h : Mt (.sl [.i .i64, .i .i64, .i .i64]) a) : ∃ l : List Shift, a = .fs 3 (l.map b0o) ∧ OkL c2k l := by
  obtain ⟨l, rfl, h1, h2⟩ := c6t b0o c2k h fun r hr => j8i hr
  exact ⟨l, rfl, h1, h2⟩
def b55 (x : Hall) : Prop := OkL c2i x.Combs ∧ OkL b8m x.Trains ∧ OkL c2k x.Shifts ∧ b3d x.Until
def g6j (x : Hall) : List AV := [.fs 5 (List.map b0q x.Combs), .fs 3 (List.map b0p x.Trains), .fs 3 (List.map b0o x.Shifts), I x.Until]
theorem j8h {r : List AV} (h : MtL [.sl [.i .i64, .i .i64, .i .i64, .i .i64, .i .i64], .sl [.i .i64, .i .i64, .sl [.i .i64, .i .i64, .i .i64]], .sl [.i .i64, .i .i64, .i .i64], .i .i64] r) : ∃ x : Hall, r = g6j x ∧ b55 x := by
  obtain ⟨a0, r0, rfl, h0, g0⟩ := b4e h
  obtain ⟨a1, r1, rfl, h1, g1⟩ := b4e g0
  obtain ⟨a2, r2, rfl, h2, g2⟩ := b4e g1
  obtain ⟨a3, r3, rfl, h3, g3⟩ := b4e g2
  obtain ⟨v0, rfl, k0⟩ := j2g h0
  obtain ⟨v1, rfl, k1⟩ := j2j h1
  obtain ⟨v2, rfl, k2⟩ := j2i h2
  obtain ⟨v3, rfl, k3⟩ := b46 h3
  exact ⟨⟨v0, v1, v2, v3⟩, by rw [c31 g3]; rfl, ⟨k0, k1, k2, k3⟩⟩
abbrev d2n : List Sh := [.sl [.i .i64, .i .i64, .i .i64, .i .i64, .i .i64], .sl [.i .i64, .i .i64, .sl [.i .i64, .i .i64, .i .i64]], .sl [.i .i64, .i .i64, .i .i64], .i .i64]
theorem j9m {a : AV} (h : MtA (.agg d2n) a) : ∃ x : Hall, a = .agg [.fs 5 (List.map b0q x.Combs), .fs 3 (List.map b0p x.Trains), .fs 3 (List.map b0o x.Shifts), I x.Until] ∧ b55 x := by
  obtain ⟨r, rfl, hr⟩ := j2k h
  obtain ⟨x, rfl, hx⟩ := j8h hr
  exact ⟨x, rfl, hx⟩
def g2t (x : Day) : Prop := OkL b3d x.At ∧ OkL (OkL b3d) x.People ∧ OkL (OkL b3d) x.Walks
end Go.Nw.HM
