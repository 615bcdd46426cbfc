/- The arguments of laws, typed: printed by gentyp.py. -/
import Derived.Test.YteoedeeljnboeaaHM
import Derived.Test.YteoedeeljnboeaaNwTypes
set_option linter.all false
set_option linter.unusedVariables false
set_option linter.unusedSimpArgs false
set_option linter.unusedSectionVars false
namespace Go.Nw.HM
def b8x (x : Span) : Prop := b2x x.Low ∧ b2x x.High
def c0r (x : Comb) : Prop := b2x x.Rate ∧ b2x x.Limit ∧ b2x x.Next ∧ b8x x.Walk
theorem j5w {r : List AV} (h : MtL [.i .i64, .i .i64, .i .i64, .i .i64, .i .i64] r) : ∃ x : Comb, r = b0p x ∧ c0r x := by
  obtain ⟨a0, r0, rfl, h0, g0⟩ := b3g h
  obtain ⟨a1, r1, rfl, h1, g1⟩ := b3g g0
  obtain ⟨a2, r2, rfl, h2, g2⟩ := b3g g1
  obtain ⟨a3, r3, rfl, h3, g3⟩ := b3g g2
  obtain ⟨a4, r4, rfl, h4, g4⟩ := b3g g3
  obtain ⟨v0, rfl, k0⟩ := b39 h0
  obtain ⟨v1, rfl, k1⟩ := b39 h1
  obtain ⟨v2, rfl, k2⟩ := b39 h2
  obtain ⟨v3, rfl, k3⟩ := b39 h3
  obtain ⟨v4, rfl, k4⟩ := b39 h4
  exact ⟨⟨v0, v1, v2, ⟨v3, v4⟩⟩, by rw [b63 g4]; rfl, ⟨k0, k1, k2, ⟨k3, k4⟩⟩⟩
theorem j0f {a : AV} (h : Mt (.sl [.i .i64, .i .i64, .i .i64, .i .i64, .i .i64]) a) : ∃ l : List Comb, a = .fs 5 (l.map b0p) ∧ OkL c0r l := by
  obtain ⟨l, rfl, h1, h2⟩ := b91 b0p c0r h fun r hr => j5w hr
  exact ⟨l, rfl, h1, h2⟩
def c0s (x : Crowd) : Prop := b2x x.Comb ∧ b8x x.People
theorem j5x {r : List AV} (h : MtL [.i .i64, .i .i64, .i .i64] r) : ∃ x : Crowd, r = b2t x ∧ c0s x := by
  obtain ⟨a0, r0, rfl, h0, g0⟩ := b3g h
  obtain ⟨a1, r1, rfl, h1, g1⟩ := b3g g0
  obtain ⟨a2, r2, rfl, h2, g2⟩ := b3g g1
  obtain ⟨v0, rfl, k0⟩ := b39 h0
  obtain ⟨v1, rfl, k1⟩ := b39 h1
  obtain ⟨v2, rfl, k2⟩ := b39 h2
  exact ⟨⟨v0, ⟨v1, v2⟩⟩, by rw [b63 g2]; rfl, ⟨k0, ⟨k1, k2⟩⟩⟩
theorem j0g {a : AV} (h : Mt (.sl [.i .i64, .i .i64, .i .i64]) a) : ∃ l : List Crowd, a = .fs 3 (l.map b2t) ∧ OkL c0s l := by
  obtain ⟨l, rfl, h1, h2⟩ := b91 b2t c0s h fun r hr => j5x hr
  exact ⟨l, rfl, h1, h2⟩
def b7j (x : Train) : Prop := b8x x.At ∧ OkL c0s x.Crowds
theorem j53 {r : List AV} (h : MtL [.i .i64, .i .i64, .sl [.i .i64, .i .i64, .i .i64]] r) : ∃ x : Train, r = b0o x ∧ b7j x := by
  obtain ⟨a0, r0, rfl, h0, g0⟩ := b3g h
  obtain ⟨a1, r1, rfl, h1, g1⟩ := b3g g0
  obtain ⟨a2, r2, rfl, h2, g2⟩ := b3g g1
  obtain ⟨v0, rfl, k0⟩ := b39 h0
  obtain ⟨v1, rfl, k1⟩ := b39 h1
  obtain ⟨v2, rfl, k2⟩ := j0g h2
  exact ⟨⟨⟨v0, v1⟩, v2⟩, by rw [b63 g2]; rfl, ⟨⟨k0, k1⟩, k2⟩⟩
theorem j0i {a : AV} (h : Mt (.sl [.i .i64, .i .i64, .sl [.i .i64, .i .i64, .i .i64]]) a) : ∃ l : List Train, a = .fs 3 (l.map b0o) ∧ OkL b7j l := by
  obtain ⟨l, rfl, h1, h2⟩ := b91 b0o b7j h fun r hr => j53 hr
  exact ⟨l, rfl, h1, h2⟩
def c0t (x : Shift) : Prop := b2x x.At ∧ b2x x.Comb ∧ b2x x.Rate
theorem j52 {r : List AV} (h : MtL [.i .i64, .i .i64, .i .i64] r) : ∃ x : Shift, r = b0q x ∧ c0t x := by
  obtain ⟨a0, r0, rfl, h0, g0⟩ := b3g h
  obtain ⟨a1, r1, rfl, h1, g1⟩ := b3g g0
  obtain ⟨a2, r2, rfl, h2, g2⟩ := b3g g1
  obtain ⟨v0, rfl, k0⟩ := b39 h0
  obtain ⟨v1, rfl, k1⟩ := b39 h1
  obtain ⟨v2, rfl, k2⟩ := b39 h2
  exact ⟨⟨v0, v1, v2⟩, by rw [b63 g2]; rfl, ⟨k0, k1, k2⟩⟩
theorem j0h {a : AV} (h : Mt (.sl [.i .i64, .i .i64, .i .i64]) a) : ∃ l : List Shift, a = .fs 3 (l.map b0q) ∧ OkL c0t l := by
  obtain ⟨l, rfl, h1, h2⟩ := b91 b0q c0t h fun r hr => j52 hr
  exact ⟨l, rfl, h1, h2⟩
def b5c (x : Hall) : Prop := OkL c0r x.Combs ∧ OkL b7j x.Trains ∧ OkL c0t x.Shifts ∧ b2x x.Until
def g4o (x : Hall) : List AV := [.fs 5 (List.map b0p x.Combs), .fs 3 (List.map b0o x.Trains), .fs 3 (List.map b0q x.Shifts), I x.Until]
theorem j5z {r : List AV} (h : MtL [.sl [.i .i64, .i .i64, .i .i64, .i .i64, .i .i64], .sl [.i .i64, .i .i64, .sl [.i .i64, .i .i64, .i .i64]], .sl [.i .i64, .i .i64, .i .i64], .i .i64] r) : ∃ x : Hall, r = g4o x ∧ b5c x := by
  obtain ⟨a0, r0, rfl, h0, g0⟩ := b3g h
  obtain ⟨a1, r1, rfl, h1, g1⟩ := b3g g0
  obtain ⟨a2, r2, rfl, h2, g2⟩ := b3g g1
  obtain ⟨a3, r3, rfl, h3, g3⟩ := b3g g2
  obtain ⟨v0, rfl, k0⟩ := j0f h0
  obtain ⟨v1, rfl, k1⟩ := j0i h1
  obtain ⟨v2, rfl, k2⟩ := j0h h2
  obtain ⟨v3, rfl, k3⟩ := b39 h3
  exact ⟨⟨v0, v1, v2, v3⟩, by rw [b63 g3]; rfl, ⟨k0, k1, k2, k3⟩⟩
abbrev d1o : List Sh := [.sl [.i .i64, .i .i64, .i .i64, .i .i64, .i .i64], .sl [.i .i64, .i .i64, .sl [.i .i64, .i .i64, .i .i64]], .sl [.i .i64, .i .i64, .i .i64], .i .i64]
theorem j66 {a : AV} (h : MtA (.agg d1o) a) : ∃ x : Hall, a = .agg [.fs 5 (List.map b0p x.Combs), .fs 3 (List.map b0o x.Trains), .fs 3 (List.map b0q x.Shifts), I x.Until] ∧ b5c x := by
  obtain ⟨r, rfl, hr⟩ := d78 h
  obtain ⟨x, rfl, hx⟩ := j5z hr
  exact ⟨x, rfl, hx⟩
theorem d76 {a : AV} (h : Mt (.sl [.i .i64]) a) : ∃ l : List Int, a = .fs 1 (l.map eI) ∧ OkL b2x l := by
  obtain ⟨l, rfl, h1, h2⟩ := b91 eI b2x h fun r hr => j50 hr
  exact ⟨l, rfl, h1, h2⟩
theorem j51 {r : List AV} (h : MtL [.sl [.i .i64]] r) : ∃ x : List Int, r = b0k x ∧ OkL b2x x := by
  obtain ⟨a0, r0, rfl, h0, g0⟩ := b3g h
  obtain ⟨v0, rfl, k0⟩ := d76 h0
  exact ⟨v0, by rw [b63 g0]; rfl, k0⟩
theorem d77 {a : AV} (h : Mt (.sl [.sl [.i .i64]]) a) : ∃ l : List (List Int), a = .fs 1 (l.map b0k) ∧ OkL (OkL b2x) l := by
  obtain ⟨l, rfl, h1, h2⟩ := b91 b0k (OkL b2x) h fun r hr => j51 hr
  exact ⟨l, rfl, h1, h2⟩
def b7i (x : Day) : Prop := OkL b2x x.At ∧ OkL (OkL b2x) x.People ∧ OkL (OkL b2x) x.Walks
def g4n (x : Day) : List AV := [.fs 1 (List.map eI x.At), .fs 1 (List.map b0k x.People), .fs 1 (List.map b0k x.Walks)]
theorem j5y {r : List AV} (h : MtL [.sl [.i .i64], .sl [.sl [.i .i64]], .sl [.sl [.i .i64]]] r) : ∃ x : Day, r = g4n x ∧ b7i x := by
  obtain ⟨a0, r0, rfl, h0, g0⟩ := b3g h
  obtain ⟨a1, r1, rfl, h1, g1⟩ := b3g g0
  obtain ⟨a2, r2, rfl, h2, g2⟩ := b3g g1
  obtain ⟨v0, rfl, k0⟩ := d76 h0
  obtain ⟨v1, rfl, k1⟩ := d77 h1
  obtain ⟨v2, rfl, k2⟩ := d77 h2
  exact ⟨⟨v0, v1, v2⟩, by rw [b63 g2]; rfl, ⟨k0, k1, k2⟩⟩
abbrev d1n : List Sh := [.sl [.i .i64], .sl [.sl [.i .i64]], .sl [.sl [.i .i64]]]
theorem j65 {a : AV} (h : MtA (.agg d1n) a) : ∃ x : Day, a = .agg [.fs 1 (List.map eI x.At), .fs 1 (List.map b0k x.People), .fs 1 (List.map b0k x.Walks)] ∧ b7i x := by
  obtain ⟨r, rfl, hr⟩ := d78 h
  obtain ⟨x, rfl, hx⟩ := j5y hr
  exact ⟨x, rfl, hx⟩
end Go.Nw.HM
