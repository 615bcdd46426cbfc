/- The arguments of laws, typed: printed by gentyp.py. -/
import Derived.Test.YteoedeeljnboeaaHM
import Derived.Test.YteoedeeljnboeaaNwTypes
set_option linter.all false
namespace Go.Nw.HM
instance instBd : Bd := ⟨maxLen, Nat.le_refl _⟩
def E7o (x : Span) : Prop := b5k x.Low /\ b5k x.High
def E9r (x : Comb) : Prop := b5k x.Rate /\ b5k x.Limit /\ b5k x.Next /\ E7o x.Walk
theorem H1c {r : List AV} (h : MtL [.i .i64, .i .i64, .i .i64, .i .i64, .i .i64] r) : ∃ x : Comb, r = b15 x /\ E9r x := by
 obtain ⟨a0, r0, rfl, h0, g0⟩ := b3e h;obtain ⟨a1, r1, rfl, h1, g1⟩ := b3e g0;obtain ⟨a2, r2, rfl, h2, g2⟩ := b3e g1;obtain ⟨a3, r3, rfl, h3, g3⟩ := b3e g2;obtain ⟨a4, r4, rfl, h4, g4⟩ := b3e g3;obtain ⟨v0, rfl, k0⟩ := b6n h0;obtain ⟨v1, rfl, k1⟩ := b6n h1;obtain ⟨v2, rfl, k2⟩ := b6n h2;obtain ⟨v3, rfl, k3⟩ := b6n h3;obtain ⟨v4, rfl, k4⟩ := b6n h4;exact ⟨⟨v0, v1, v2, ⟨v3, v4⟩⟩, by rw [b6o g4]; rfl, ⟨k0, k1, k2, ⟨k3, k4⟩⟩⟩
theorem H0u {a : AV} (h : Mt (.sl [.i .i64, .i .i64, .i .i64, .i .i64, .i .i64]) a) : ∃ l : List Comb, a = .fs 5 (l.map b15) /\ OkL E9r l := by
 obtain ⟨l, rfl, h1, h2⟩ := b8q b15 E9r h fun r hr => H1c hr;exact ⟨l, rfl, h1, h2⟩
def E9s (x : Crowd) : Prop := b5k x.Comb /\ E7o x.People
theorem H1d {r : List AV} (h : MtL [.i .i64, .i .i64, .i .i64] r) : ∃ x : Crowd, r = c16 x /\ E9s x := by
 obtain ⟨a0, r0, rfl, h0, g0⟩ := b3e h;obtain ⟨a1, r1, rfl, h1, g1⟩ := b3e g0;obtain ⟨a2, r2, rfl, h2, g2⟩ := b3e g1;obtain ⟨v0, rfl, k0⟩ := b6n h0;obtain ⟨v1, rfl, k1⟩ := b6n h1;obtain ⟨v2, rfl, k2⟩ := b6n h2;exact ⟨⟨v0, ⟨v1, v2⟩⟩, by rw [b6o g2]; rfl, ⟨k0, ⟨k1, k2⟩⟩⟩
theorem H0v {a : AV} (h : Mt (.sl [.i .i64, .i .i64, .i .i64]) a) : ∃ l : List Crowd, a = .fs 3 (l.map c16) /\ OkL E9s l := by
 obtain ⟨l, rfl, h1, h2⟩ := b8q c16 E9s h fun r hr => H1d hr;exact ⟨l, rfl, h1, h2⟩
def E78 (x : Train) : Prop := E7o x.At /\ OkL E9s x.Crowds
theorem H1g {r : List AV} (h : MtL [.i .i64, .i .i64, .sl [.i .i64, .i .i64, .i .i64]] r) : ∃ x : Train, r = b11 x /\ E78 x := by
 obtain ⟨a0, r0, rfl, h0, g0⟩ := b3e h;obtain ⟨a1, r1, rfl, h1, g1⟩ := b3e g0;obtain ⟨a2, r2, rfl, h2, g2⟩ := b3e g1;obtain ⟨v0, rfl, k0⟩ := b6n h0;obtain ⟨v1, rfl, k1⟩ := b6n h1;obtain ⟨v2, rfl, k2⟩ := H0v h2;exact ⟨⟨⟨v0, v1⟩, v2⟩, by rw [b6o g2]; rfl, ⟨⟨k0, k1⟩, k2⟩⟩
theorem H0x {a : AV} (h : Mt (.sl [.i .i64, .i .i64, .sl [.i .i64, .i .i64, .i .i64]]) a) : ∃ l : List Train, a = .fs 3 (l.map b11) /\ OkL E78 l := by
 obtain ⟨l, rfl, h1, h2⟩ := b8q b11 E78 h fun r hr => H1g hr;exact ⟨l, rfl, h1, h2⟩
def E9t (x : Shift) : Prop := b5k x.At /\ b5k x.Comb /\ b5k x.Rate
theorem H1f {r : List AV} (h : MtL [.i .i64, .i .i64, .i .i64] r) : ∃ x : Shift, r = b20 x /\ E9t x := by
 obtain ⟨a0, r0, rfl, h0, g0⟩ := b3e h;obtain ⟨a1, r1, rfl, h1, g1⟩ := b3e g0;obtain ⟨a2, r2, rfl, h2, g2⟩ := b3e g1;obtain ⟨v0, rfl, k0⟩ := b6n h0;obtain ⟨v1, rfl, k1⟩ := b6n h1;obtain ⟨v2, rfl, k2⟩ := b6n h2;exact ⟨⟨v0, v1, v2⟩, by rw [b6o g2]; rfl, ⟨k0, k1, k2⟩⟩
theorem H0w {a : AV} (h : Mt (.sl [.i .i64, .i .i64, .i .i64]) a) : ∃ l : List Shift, a = .fs 3 (l.map b20) /\ OkL E9t l := by
 obtain ⟨l, rfl, h1, h2⟩ := b8q b20 E9t h fun r hr => H1f hr;exact ⟨l, rfl, h1, h2⟩
def E66 (x : Hall) : Prop := OkL E9r x.Combs /\ OkL E78 x.Trains /\ OkL E9t x.Shifts /\ b5k x.Until
def G9e (x : Hall) : List AV := [.fs 5 (List.map b15 x.Combs), .fs 3 (List.map b11 x.Trains), .fs 3 (List.map b20 x.Shifts), I x.Until]
theorem H1e {r : List AV} (h : MtL [.sl [.i .i64, .i .i64, .i .i64, .i .i64, .i .i64], .sl [.i .i64, .i .i64, .sl [.i .i64, .i .i64, .i .i64]], .sl [.i .i64, .i .i64, .i .i64], .i .i64] r) : ∃ x : Hall, r = G9e x /\ E66 x := by
 obtain ⟨a0, r0, rfl, h0, g0⟩ := b3e h;obtain ⟨a1, r1, rfl, h1, g1⟩ := b3e g0;obtain ⟨a2, r2, rfl, h2, g2⟩ := b3e g1;obtain ⟨a3, r3, rfl, h3, g3⟩ := b3e g2;obtain ⟨v0, rfl, k0⟩ := H0u h0;obtain ⟨v1, rfl, k1⟩ := H0x h1;obtain ⟨v2, rfl, k2⟩ := H0w h2;obtain ⟨v3, rfl, k3⟩ := b6n h3;exact ⟨⟨v0, v1, v2, v3⟩, by rw [b6o g3]; rfl, ⟨k0, k1, k2, k3⟩⟩
abbrev G4c : List Sh := [.sl [.i .i64, .i .i64, .i .i64, .i .i64, .i .i64], .sl [.i .i64, .i .i64, .sl [.i .i64, .i .i64, .i .i64]], .sl [.i .i64, .i .i64, .i .i64], .i .i64]
theorem H1r {a : AV} (h : MtA (.agg G4c) a) : ∃ x : Hall, a = .agg [.fs 5 (List.map b15 x.Combs), .fs 3 (List.map b11 x.Trains), .fs 3 (List.map b20 x.Shifts), I x.Until] /\ E66 x := by
 obtain ⟨r, rfl, hr⟩ := g1y h;obtain ⟨x, rfl, hx⟩ := H1e hr;exact ⟨x, rfl, hx⟩
def G0q (x : l06_Less) : Prop := b5k x.Train /\ b5k x.Crowd /\ E7o x.At /\ E7o x.People
def G9f (x : l06_Less) : List AV := [I x.Train, I x.Crowd, I x.At.Low, I x.At.High, I x.People.Low, I x.People.High]
theorem H1h {r : List AV} (h : MtL [.i .i64, .i .i64, .i .i64, .i .i64, .i .i64, .i .i64] r) : ∃ x : l06_Less, r = G9f x /\ G0q x := by
 obtain ⟨a0, r0, rfl, h0, g0⟩ := b3e h;obtain ⟨a1, r1, rfl, h1, g1⟩ := b3e g0;obtain ⟨a2, r2, rfl, h2, g2⟩ := b3e g1;obtain ⟨a3, r3, rfl, h3, g3⟩ := b3e g2;obtain ⟨a4, r4, rfl, h4, g4⟩ := b3e g3;obtain ⟨a5, r5, rfl, h5, g5⟩ := b3e g4;obtain ⟨v0, rfl, k0⟩ := b6n h0;obtain ⟨v1, rfl, k1⟩ := b6n h1;obtain ⟨v2, rfl, k2⟩ := b6n h2;obtain ⟨v3, rfl, k3⟩ := b6n h3;obtain ⟨v4, rfl, k4⟩ := b6n h4;obtain ⟨v5, rfl, k5⟩ := b6n h5;exact ⟨⟨v0, v1, ⟨v2, v3⟩, ⟨v4, v5⟩⟩, by rw [b6o g5]; rfl, ⟨k0, k1, ⟨k2, k3⟩, ⟨k4, k5⟩⟩⟩
abbrev G4d : List Sh := [.i .i64, .i .i64, .i .i64, .i .i64, .i .i64, .i .i64]
theorem H1s {a : AV} (h : MtA (.agg G4d) a) : ∃ x : l06_Less, a = .agg [I x.Train, I x.Crowd, I x.At.Low, I x.At.High, I x.People.Low, I x.People.High] /\ G0q x := by
 obtain ⟨r, rfl, hr⟩ := g1y h;obtain ⟨x, rfl, hx⟩ := H1h hr;exact ⟨x, rfl, hx⟩
end Go.Nw.HM
