/- The arguments of laws, typed: printed by gentyp.py. -/
import Derived.Test.YtkoonfmgmgfmdaaDoorTM
import Derived.Test.YtkoonfmgmgfmdaaDoorNwTypes
set_option linter.all false
set_option linter.unusedVariables false
set_option linter.unusedSimpArgs false
set_option linter.unusedSectionVars false
namespace Go.Nw.TM
theorem d7s {a : AV} (h : Mt (.sl [.i .i64]) a) : ∃ l : List Int, a = .fs 1 (l.map eI) ∧ OkL b2h l := by
  obtain ⟨l, rfl, h1, h2⟩ := b8q eI b2h h fun r hr => j8i hr
  exact ⟨l, rfl, h1, h2⟩
def b86 (x : Span) : Prop := b2h x.Low ∧ b2h x.High
def c4b (x : Reading) : Prop := b2h x.Says ∧ b2h x.Error ∧ b2h x.Drift ∧ b2h x.Days
theorem j8k {r : List AV} (h : MtL [.i .i64, .i .i64, .i .i64, .i .i64] r) : ∃ x : Reading, r = b17 x ∧ c4b x := by
  obtain ⟨a0, r0, rfl, h0, g0⟩ := b2o h
  obtain ⟨a1, r1, rfl, h1, g1⟩ := b2o g0
  obtain ⟨a2, r2, rfl, h2, g2⟩ := b2o g1
  obtain ⟨a3, r3, rfl, h3, g3⟩ := b2o g2
  obtain ⟨v0, rfl, k0⟩ := b3l h0
  obtain ⟨v1, rfl, k1⟩ := b3l h1
  obtain ⟨v2, rfl, k2⟩ := b3l h2
  obtain ⟨v3, rfl, k3⟩ := b3l h3
  exact ⟨⟨v0, v1, v2, v3⟩, by rw [b59 g3]; rfl, ⟨k0, k1, k2, k3⟩⟩
theorem j2g {a : AV} (h : Mt (.sl [.i .i64, .i .i64, .i .i64, .i .i64]) a) : ∃ l : List Reading, a = .fs 4 (l.map b17) ∧ OkL c4b l := by
  obtain ⟨l, rfl, h1, h2⟩ := b8q b17 c4b h fun r hr => j8k hr
  exact ⟨l, rfl, h1, h2⟩
def c1b (x : Comb) : Prop := b2h x.Rate ∧ b2h x.Limit ∧ b2h x.Next ∧ b86 x.Walk
theorem j8e {r : List AV} (h : MtL [.i .i64, .i .i64, .i .i64, .i .i64, .i .i64] r) : ∃ x : Comb, r = b0u x ∧ c1b x := by
  obtain ⟨a0, r0, rfl, h0, g0⟩ := b2o h
  obtain ⟨a1, r1, rfl, h1, g1⟩ := b2o g0
  obtain ⟨a2, r2, rfl, h2, g2⟩ := b2o g1
  obtain ⟨a3, r3, rfl, h3, g3⟩ := b2o g2
  obtain ⟨a4, r4, rfl, h4, g4⟩ := b2o g3
  obtain ⟨v0, rfl, k0⟩ := b3l h0
  obtain ⟨v1, rfl, k1⟩ := b3l h1
  obtain ⟨v2, rfl, k2⟩ := b3l h2
  obtain ⟨v3, rfl, k3⟩ := b3l h3
  obtain ⟨v4, rfl, k4⟩ := b3l h4
  exact ⟨⟨v0, v1, v2, ⟨v3, v4⟩⟩, by rw [b59 g4]; rfl, ⟨k0, k1, k2, ⟨k3, k4⟩⟩⟩
theorem j2e {a : AV} (h : Mt (.sl [.i .i64, .i .i64, .i .i64, .i .i64, .i .i64]) a) : ∃ l : List Comb, a = .fs 5 (l.map b0u) ∧ OkL c1b l := by
  obtain ⟨l, rfl, h1, h2⟩ := b8q b0u c1b h fun r hr => j8e hr
  exact ⟨l, rfl, h1, h2⟩
def c1c (x : Crowd) : Prop := b2h x.Comb ∧ b86 x.People
theorem j8f {r : List AV} (h : MtL [.i .i64, .i .i64, .i .i64] r) : ∃ x : Crowd, r = b2m x ∧ c1c x := by
  obtain ⟨a0, r0, rfl, h0, g0⟩ := b2o h
  obtain ⟨a1, r1, rfl, h1, g1⟩ := b2o g0
  obtain ⟨a2, r2, rfl, h2, g2⟩ := b2o g1
  obtain ⟨v0, rfl, k0⟩ := b3l h0
  obtain ⟨v1, rfl, k1⟩ := b3l h1
  obtain ⟨v2, rfl, k2⟩ := b3l h2
  exact ⟨⟨v0, ⟨v1, v2⟩⟩, by rw [b59 g2]; rfl, ⟨k0, ⟨k1, k2⟩⟩⟩
theorem j2f {a : AV} (h : Mt (.sl [.i .i64, .i .i64, .i .i64]) a) : ∃ l : List Crowd, a = .fs 3 (l.map b2m) ∧ OkL c1c l := by
  obtain ⟨l, rfl, h1, h2⟩ := b8q b2m c1c h fun r hr => j8f hr
  exact ⟨l, rfl, h1, h2⟩
def b70 (x : Train) : Prop := b86 x.At ∧ OkL c1c x.Crowds
theorem j8m {r : List AV} (h : MtL [.i .i64, .i .i64, .sl [.i .i64, .i .i64, .i .i64]] r) : ∃ x : Train, r = b0r x ∧ b70 x := by
  obtain ⟨a0, r0, rfl, h0, g0⟩ := b2o h
  obtain ⟨a1, r1, rfl, h1, g1⟩ := b2o g0
  obtain ⟨a2, r2, rfl, h2, g2⟩ := b2o g1
  obtain ⟨v0, rfl, k0⟩ := b3l h0
  obtain ⟨v1, rfl, k1⟩ := b3l h1
  obtain ⟨v2, rfl, k2⟩ := j2f h2
  exact ⟨⟨⟨v0, v1⟩, v2⟩, by rw [b59 g2]; rfl, ⟨⟨k0, k1⟩, k2⟩⟩
theorem j2i {a : AV} (h : Mt (.sl [.i .i64, .i .i64, .sl [.i .i64, .i .i64, .i .i64]]) a) : ∃ l : List Train, a = .fs 3 (l.map b0r) ∧ OkL b70 l := by
  obtain ⟨l, rfl, h1, h2⟩ := b8q b0r b70 h fun r hr => j8m hr
  exact ⟨l, rfl, h1, h2⟩
def c1d (x : Shift) : Prop := b2h x.At ∧ b2h x.Comb ∧ b2h x.Rate
theorem j8l {r : List AV} (h : MtL [.i .i64, .i .i64, .i .i64] r) : ∃ x : Shift, r = b0v x ∧ c1d x := by
  obtain ⟨a0, r0, rfl, h0, g0⟩ := b2o h
  obtain ⟨a1, r1, rfl, h1, g1⟩ := b2o g0
  obtain ⟨a2, r2, rfl, h2, g2⟩ := b2o g1
  obtain ⟨v0, rfl, k0⟩ := b3l h0
  obtain ⟨v1, rfl, k1⟩ := b3l h1
  obtain ⟨v2, rfl, k2⟩ := b3l h2
  exact ⟨⟨v0, v1, v2⟩, by rw [b59 g2]; rfl, ⟨k0, k1, k2⟩⟩
theorem j2h {a : AV} (h : Mt (.sl [.i .i64, .i .i64, .i .i64]) a) : ∃ l : List Shift, a = .fs 3 (l.map b0v) ∧ OkL c1d l := by
  obtain ⟨l, rfl, h1, h2⟩ := b8q b0v c1d h fun r hr => j8l hr
  exact ⟨l, rfl, h1, h2⟩
def b5p (x : Hall) : Prop := OkL c1b x.Combs ∧ OkL b70 x.Trains ∧ OkL c1d x.Shifts ∧ b2h x.Until
def g5d (x : Hall) : List AV := [.fs 5 (List.map b0u x.Combs), .fs 3 (List.map b0r x.Trains), .fs 3 (List.map b0v x.Shifts), I x.Until]
theorem j8h {r : List AV} (h : MtL [.sl [.i .i64, .i .i64, .i .i64, .i .i64, .i .i64], .sl [.i .i64, .i .i64, .sl [.i .i64, .i .i64, .i .i64]], .sl [.i .i64, .i .i64, .i .i64], .i .i64] r) : ∃ x : Hall, r = g5d x ∧ b5p x := by
  obtain ⟨a0, r0, rfl, h0, g0⟩ := b2o h
  obtain ⟨a1, r1, rfl, h1, g1⟩ := b2o g0
  obtain ⟨a2, r2, rfl, h2, g2⟩ := b2o g1
  obtain ⟨a3, r3, rfl, h3, g3⟩ := b2o g2
  obtain ⟨v0, rfl, k0⟩ := j2e h0
  obtain ⟨v1, rfl, k1⟩ := j2i h1
  obtain ⟨v2, rfl, k2⟩ := j2h h2
  obtain ⟨v3, rfl, k3⟩ := b3l h3
  exact ⟨⟨v0, v1, v2, v3⟩, by rw [b59 g3]; rfl, ⟨k0, k1, k2, k3⟩⟩
abbrev d11 : List Sh := [.sl [.i .i64, .i .i64, .i .i64, .i .i64, .i .i64], .sl [.i .i64, .i .i64, .sl [.i .i64, .i .i64, .i .i64]], .sl [.i .i64, .i .i64, .i .i64], .i .i64]
theorem j9y {a : AV} (h : MtA (.agg d11) a) : ∃ x : Hall, a = .agg [.fs 5 (List.map b0u x.Combs), .fs 3 (List.map b0r x.Trains), .fs 3 (List.map b0v x.Shifts), I x.Until] ∧ b5p x := by
  obtain ⟨r, rfl, hr⟩ := d08 h
  obtain ⟨x, rfl, hx⟩ := j8h hr
  exact ⟨x, rfl, hx⟩
theorem j8j {r : List AV} (h : MtL [.sl [.i .i64]] r) : ∃ x : List Int, r = b0s x ∧ OkL b2h x := by
  obtain ⟨a0, r0, rfl, h0, g0⟩ := b2o h
  obtain ⟨v0, rfl, k0⟩ := d7s h0
  exact ⟨v0, by rw [b59 g0]; rfl, k0⟩
theorem d7t {a : AV} (h : Mt (.sl [.sl [.i .i64]]) a) : ∃ l : List (List Int), a = .fs 1 (l.map b0s) ∧ OkL (OkL b2h) l := by
  obtain ⟨l, rfl, h1, h2⟩ := b8q b0s (OkL b2h) h fun r hr => j8j hr
  exact ⟨l, rfl, h1, h2⟩
def b85 (x : Day) : Prop := OkL b2h x.At ∧ OkL (OkL b2h) x.People ∧ OkL (OkL b2h) x.Walks
def g5c (x : Day) : List AV := [.fs 1 (List.map eI x.At), .fs 1 (List.map b0s x.People), .fs 1 (List.map b0s x.Walks)]
theorem j8g {r : List AV} (h : MtL [.sl [.i .i64], .sl [.sl [.i .i64]], .sl [.sl [.i .i64]]] r) : ∃ x : Day, r = g5c x ∧ b85 x := by
  obtain ⟨a0, r0, rfl, h0, g0⟩ := b2o h
  obtain ⟨a1, r1, rfl, h1, g1⟩ := b2o g0
  obtain ⟨a2, r2, rfl, h2, g2⟩ := b2o g1
  obtain ⟨v0, rfl, k0⟩ := d7s h0
  obtain ⟨v1, rfl, k1⟩ := d7t h1
  obtain ⟨v2, rfl, k2⟩ := d7t h2
  exact ⟨⟨v0, v1, v2⟩, by rw [b59 g2]; rfl, ⟨k0, k1, k2⟩⟩
abbrev d10 : List Sh := [.sl [.i .i64], .sl [.sl [.i .i64]], .sl [.sl [.i .i64]]]
theorem j9x {a : AV} (h : MtA (.agg d10) a) : ∃ x : Day, a = .agg [.fs 1 (List.map eI x.At), .fs 1 (List.map b0s x.People), .fs 1 (List.map b0s x.Walks)] ∧ b85 x := by
  obtain ⟨r, rfl, hr⟩ := d08 h
  obtain ⟨x, rfl, hx⟩ := j8g hr
  exact ⟨x, rfl, hx⟩
def c4c (x : neweltop_Counted) : Prop := b2h x.Comb ∧ b2h x.Tick ∧ OkL c4b x.Readings
def g51 (x : neweltop_Counted) : List AV := [I x.Comb, I x.Tick, .fs 4 (List.map b17 x.Readings)]
theorem j8p {r : List AV} (h : MtL [.i .i64, .i .i64, .sl [.i .i64, .i .i64, .i .i64, .i .i64]] r) : ∃ x : neweltop_Counted, r = g51 x ∧ c4c x := by
  obtain ⟨a0, r0, rfl, h0, g0⟩ := b2o h
  obtain ⟨a1, r1, rfl, h1, g1⟩ := b2o g0
  obtain ⟨a2, r2, rfl, h2, g2⟩ := b2o g1
  obtain ⟨v0, rfl, k0⟩ := b3l h0
  obtain ⟨v1, rfl, k1⟩ := b3l h1
  obtain ⟨v2, rfl, k2⟩ := j2g h2
  exact ⟨⟨v0, v1, v2⟩, by rw [b59 g2]; rfl, ⟨k0, k1, k2⟩⟩
abbrev d12 : List Sh := [.i .i64, .i .i64, .sl [.i .i64, .i .i64, .i .i64, .i .i64]]
theorem j9z {a : AV} (h : MtA (.agg d12) a) : ∃ x : neweltop_Counted, a = .agg [I x.Comb, I x.Tick, .fs 4 (List.map b17 x.Readings)] ∧ c4c x := by
  obtain ⟨r, rfl, hr⟩ := d08 h
  obtain ⟨x, rfl, hx⟩ := j8p hr
  exact ⟨x, rfl, hx⟩
end Go.Nw.TM
