/- The arguments of laws, typed: printed by gentyp.py. -/
import Derived.Test.YtkoonfmgmgfmdaaDoorTM
import Derived.Test.YtkoonfmgmgfmdaaDoorNwTypes
set_option linter.all false
set_option linter.unusedVariables false
set_option linter.unusedSimpArgs false
set_option linter.unusedSectionVars false
namespace Go.Nw.TM
theorem c93 {a : AV} (h : Mt (.sl [.i .i64]) a) : ∃ l : List Int, a = .fs 1 (l.map eI) ∧ OkL b1l l := by
  obtain ⟨l, rfl, h1, h2⟩ := c4j eI b1l h fun r hr => g8d hr
  exact ⟨l, rfl, h1, h2⟩
def b8w (x : Band) : Prop := True ∧ b1l x.Pull ∧ b1l x.Drag ∧ b1l x.Body ∧ b1l x.Ride ∧ b1l x.Most ∧ OkL b1l x.Paces ∧ b1l x.Num ∧ b1l x.Den
def d51 (x : Band) : List AV := [B x.Up, I x.Pull, I x.Drag, I x.Body, I x.Ride, I x.Most, .fs 1 (List.map eI x.Paces), I x.Num, I x.Den]
theorem g8c {r : List AV} (h : MtL [.b, .i .i64, .i .i64, .i .i64, .i .i64, .i .i64, .sl [.i .i64], .i .i64, .i .i64] r) : ∃ x : Band, r = d51 x ∧ b8w x := by
  obtain ⟨a0, r0, rfl, h0, g0⟩ := b17 h
  obtain ⟨a1, r1, rfl, h1, g1⟩ := b17 g0
  obtain ⟨a2, r2, rfl, h2, g2⟩ := b17 g1
  obtain ⟨a3, r3, rfl, h3, g3⟩ := b17 g2
  obtain ⟨a4, r4, rfl, h4, g4⟩ := b17 g3
  obtain ⟨a5, r5, rfl, h5, g5⟩ := b17 g4
  obtain ⟨a6, r6, rfl, h6, g6⟩ := b17 g5
  obtain ⟨a7, r7, rfl, h7, g7⟩ := b17 g6
  obtain ⟨a8, r8, rfl, h8, g8⟩ := b17 g7
  obtain ⟨v0, rfl, k0⟩ := g2w h0
  obtain ⟨v1, rfl, k1⟩ := b2d h1
  obtain ⟨v2, rfl, k2⟩ := b2d h2
  obtain ⟨v3, rfl, k3⟩ := b2d h3
  obtain ⟨v4, rfl, k4⟩ := b2d h4
  obtain ⟨v5, rfl, k5⟩ := b2d h5
  obtain ⟨v6, rfl, k6⟩ := c93 h6
  obtain ⟨v7, rfl, k7⟩ := b2d h7
  obtain ⟨v8, rfl, k8⟩ := b2d h8
  exact ⟨⟨v0, v1, v2, v3, v4, v5, v6, v7, v8⟩, by rw [b6j g8]; rfl, ⟨k0, k1, k2, k3, k4, k5, k6, k7, k8⟩⟩
abbrev c43 : List Sh := [.b, .i .i64, .i .i64, .i .i64, .i .i64, .i .i64, .sl [.i .i64], .i .i64, .i .i64]
theorem g9i {a : AV} (h : MtA (.agg c43) a) : ∃ x : Band, a = .agg [B x.Up, I x.Pull, I x.Drag, I x.Body, I x.Ride, I x.Most, .fs 1 (List.map eI x.Paces), I x.Num, I x.Den] ∧ b8w x := by
  obtain ⟨r, rfl, hr⟩ := c4k h
  obtain ⟨x, rfl, hx⟩ := g8c hr
  exact ⟨x, rfl, hx⟩
def d2e (x : Span) : Prop := b1l x.Low ∧ b1l x.High
def b8x (x : Period) : Prop := b1l x.Lasts ∧ b1l x.Price ∧ d2e x.Flow
theorem g8e {r : List AV} (h : MtL [.i .i64, .i .i64, .i .i64, .i .i64] r) : ∃ x : Period, r = b1i x ∧ b8x x := by
  obtain ⟨a0, r0, rfl, h0, g0⟩ := b17 h
  obtain ⟨a1, r1, rfl, h1, g1⟩ := b17 g0
  obtain ⟨a2, r2, rfl, h2, g2⟩ := b17 g1
  obtain ⟨a3, r3, rfl, h3, g3⟩ := b17 g2
  obtain ⟨v0, rfl, k0⟩ := b2d h0
  obtain ⟨v1, rfl, k1⟩ := b2d h1
  obtain ⟨v2, rfl, k2⟩ := b2d h2
  obtain ⟨v3, rfl, k3⟩ := b2d h3
  exact ⟨⟨v0, v1, ⟨v2, v3⟩⟩, by rw [b6j g3]; rfl, ⟨k0, k1, ⟨k2, k3⟩⟩⟩
theorem g2t {a : AV} (h : Mt (.sl [.i .i64, .i .i64, .i .i64, .i .i64]) a) : ∃ l : List Period, a = .fs 4 (l.map b1i) ∧ OkL b8x l := by
  obtain ⟨l, rfl, h1, h2⟩ := c4j b1i b8x h fun r hr => g8e hr
  exact ⟨l, rfl, h1, h2⟩
def b8z (x : Times) : Prop := OkL b8x x.Periods ∧ b1l x.Peak
def d52 (x : Times) : List AV := [.fs 4 (List.map b1i x.Periods), I x.Peak]
theorem g8g {r : List AV} (h : MtL [.sl [.i .i64, .i .i64, .i .i64, .i .i64], .i .i64] r) : ∃ x : Times, r = d52 x ∧ b8z x := by
  obtain ⟨a0, r0, rfl, h0, g0⟩ := b17 h
  obtain ⟨a1, r1, rfl, h1, g1⟩ := b17 g0
  obtain ⟨v0, rfl, k0⟩ := g2t h0
  obtain ⟨v1, rfl, k1⟩ := b2d h1
  exact ⟨⟨v0, v1⟩, by rw [b6j g1]; rfl, ⟨k0, k1⟩⟩
abbrev c45 : List Sh := [.sl [.i .i64, .i .i64, .i .i64, .i .i64], .i .i64]
theorem g9k {a : AV} (h : MtA (.agg c45) a) : ∃ x : Times, a = .agg [.fs 4 (List.map b1i x.Periods), I x.Peak] ∧ b8z x := by
  obtain ⟨r, rfl, hr⟩ := c4k h
  obtain ⟨x, rfl, hx⟩ := g8g hr
  exact ⟨x, rfl, hx⟩
abbrev c44 : Sh := .sl [.i .i64]
theorem g9j {a : AV} (h : MtA (.c c44) a) : ∃ x : List Int, a = .fs 1 (List.map eI x) ∧ (OkL b1l) x := c93 (g2x h)
def b8y (x : Reading) : Prop := b1l x.Says ∧ b1l x.Error ∧ b1l x.Drift ∧ b1l x.Days
theorem g8f {r : List AV} (h : MtL [.i .i64, .i .i64, .i .i64, .i .i64] r) : ∃ x : Reading, r = b1e x ∧ b8y x := by
  obtain ⟨a0, r0, rfl, h0, g0⟩ := b17 h
  obtain ⟨a1, r1, rfl, h1, g1⟩ := b17 g0
  obtain ⟨a2, r2, rfl, h2, g2⟩ := b17 g1
  obtain ⟨a3, r3, rfl, h3, g3⟩ := b17 g2
  obtain ⟨v0, rfl, k0⟩ := b2d h0
  obtain ⟨v1, rfl, k1⟩ := b2d h1
  obtain ⟨v2, rfl, k2⟩ := b2d h2
  obtain ⟨v3, rfl, k3⟩ := b2d h3
  exact ⟨⟨v0, v1, v2, v3⟩, by rw [b6j g3]; rfl, ⟨k0, k1, k2, k3⟩⟩
theorem g2u {a : AV} (h : Mt (.sl [.i .i64, .i .i64, .i .i64, .i .i64]) a) : ∃ l : List Reading, a = .fs 4 (l.map b1e) ∧ OkL b8y l := by
  obtain ⟨l, rfl, h1, h2⟩ := c4j b1e b8y h fun r hr => g8f hr
  exact ⟨l, rfl, h1, h2⟩
def b80 (x : neweltop_Metered) : Prop := b1l x.Period ∧ b1l x.Flow ∧ OkL b8y x.Readings
def d6q (x : neweltop_Metered) : List AV := [I x.Period, I x.Flow, .fs 4 (List.map b1e x.Readings)]
theorem g8j {r : List AV} (h : MtL [.i .i64, .i .i64, .sl [.i .i64, .i .i64, .i .i64, .i .i64]] r) : ∃ x : neweltop_Metered, r = d6q x ∧ b80 x := by
  obtain ⟨a0, r0, rfl, h0, g0⟩ := b17 h
  obtain ⟨a1, r1, rfl, h1, g1⟩ := b17 g0
  obtain ⟨a2, r2, rfl, h2, g2⟩ := b17 g1
  obtain ⟨v0, rfl, k0⟩ := b2d h0
  obtain ⟨v1, rfl, k1⟩ := b2d h1
  obtain ⟨v2, rfl, k2⟩ := g2u h2
  exact ⟨⟨v0, v1, v2⟩, by rw [b6j g2]; rfl, ⟨k0, k1, k2⟩⟩
abbrev c46 : List Sh := [.i .i64, .i .i64, .sl [.i .i64, .i .i64, .i .i64, .i .i64]]
theorem g9l {a : AV} (h : MtA (.agg c46) a) : ∃ x : neweltop_Metered, a = .agg [I x.Period, I x.Flow, .fs 4 (List.map b1e x.Readings)] ∧ b80 x := by
  obtain ⟨r, rfl, hr⟩ := c4k h
  obtain ⟨x, rfl, hx⟩ := g8j hr
  exact ⟨x, rfl, hx⟩
end Go.Nw.TM
