/- The arguments of laws, typed: printed by gentyp.py. -/
import Derived.Test.YtinmifhfkkjccaaXM
import Derived.Test.YtinmifhfkkjccaaNwTypes
set_option linter.all false
namespace Go.Nw.XM
variable [Bd]
theorem p33 {a : AV} (h : Mt (.sl [.i .i64]) a) : ∃ l : List Int, a = .fs 1 (l.map eI) /\ OkL b5k l := by
 obtain ⟨l, rfl, h1, h2⟩ := b8q eI b5k h fun r hr => p36 hr;exact ⟨l, rfl, h1, h2⟩
def J8h (x : Brake) : Prop := b5k x.Force /\ b5k x.Delay
theorem K20 {r : List AV} (h : MtL [.i .i64, .i .i64] r) : ∃ x : Brake, r = J1g x /\ J8h x := by
 obtain ⟨a0, r0, rfl, h0, g0⟩ := b3e h;obtain ⟨a1, r1, rfl, h1, g1⟩ := b3e g0;obtain ⟨v0, rfl, k0⟩ := b6n h0;obtain ⟨v1, rfl, k1⟩ := b6n h1;exact ⟨⟨v0, v1⟩, by rw [b6o g1]; rfl, ⟨k0, k1⟩⟩
theorem K2p {a : AV} (h : Mt (.sl [.i .i64, .i .i64]) a) : ∃ l : List Brake, a = .fs 2 (l.map J1g) /\ OkL J8h l := by
 obtain ⟨l, rfl, h1, h2⟩ := b8q J1g J8h h fun r hr => K20 hr;exact ⟨l, rfl, h1, h2⟩
def J8i (x : Escalator) : Prop := True /\ b5k x.Empty /\ b5k x.Pull /\ b5k x.Drag /\ b5k x.Motor /\ OkL J8h x.Brakes
def K1g (x : Escalator) : List AV := [B x.Up, I x.Empty, I x.Pull, I x.Drag, I x.Motor, .fs 2 (List.map J1g x.Brakes)]
theorem K22 {r : List AV} (h : MtL [.b, .i .i64, .i .i64, .i .i64, .i .i64, .sl [.i .i64, .i .i64]] r) : ∃ x : Escalator, r = K1g x /\ J8i x := by
 obtain ⟨a0, r0, rfl, h0, g0⟩ := b3e h;obtain ⟨a1, r1, rfl, h1, g1⟩ := b3e g0;obtain ⟨a2, r2, rfl, h2, g2⟩ := b3e g1;obtain ⟨a3, r3, rfl, h3, g3⟩ := b3e g2;obtain ⟨a4, r4, rfl, h4, g4⟩ := b3e g3;obtain ⟨a5, r5, rfl, h5, g5⟩ := b3e g4;obtain ⟨v0, rfl, k0⟩ := j8k h0;obtain ⟨v1, rfl, k1⟩ := b6n h1;obtain ⟨v2, rfl, k2⟩ := b6n h2;obtain ⟨v3, rfl, k3⟩ := b6n h3;obtain ⟨v4, rfl, k4⟩ := b6n h4;obtain ⟨v5, rfl, k5⟩ := K2p h5;exact ⟨⟨v0, v1, v2, v3, v4, v5⟩, by rw [b6o g5]; rfl, ⟨k0, k1, k2, k3, k4, k5⟩⟩
abbrev J91 : List Sh := [.b, .i .i64, .i .i64, .i .i64, .i .i64, .sl [.i .i64, .i .i64]]
theorem K29 {a : AV} (h : MtA (.agg J91) a) : ∃ x : Escalator, a = .agg [B x.Up, I x.Empty, I x.Pull, I x.Drag, I x.Motor, .fs 2 (List.map J1g x.Brakes)] /\ J8i x := by
 obtain ⟨r, rfl, hr⟩ := g1y h;obtain ⟨x, rfl, hx⟩ := K22 hr;exact ⟨x, rfl, hx⟩
def E7o (x : Span) : Prop := b5k x.Low /\ b5k x.High
def J8j (x : Stop) : Prop := b5k x.Speed /\ E7o x.Loads /\ b5k x.Fail
def K1h (x : Stop) : List AV := [I x.Speed, I x.Loads.Low, I x.Loads.High, I x.Fail]
theorem K24 {r : List AV} (h : MtL [.i .i64, .i .i64, .i .i64, .i .i64] r) : ∃ x : Stop, r = K1h x /\ J8j x := by
 obtain ⟨a0, r0, rfl, h0, g0⟩ := b3e h;obtain ⟨a1, r1, rfl, h1, g1⟩ := b3e g0;obtain ⟨a2, r2, rfl, h2, g2⟩ := b3e g1;obtain ⟨a3, r3, rfl, h3, g3⟩ := b3e g2;obtain ⟨v0, rfl, k0⟩ := b6n h0;obtain ⟨v1, rfl, k1⟩ := b6n h1;obtain ⟨v2, rfl, k2⟩ := b6n h2;obtain ⟨v3, rfl, k3⟩ := b6n h3;exact ⟨⟨v0, ⟨v1, v2⟩, v3⟩, by rw [b6o g3]; rfl, ⟨k0, ⟨k1, k2⟩, k3⟩⟩
abbrev J92 : List Sh := [.i .i64, .i .i64, .i .i64, .i .i64]
theorem K3a {a : AV} (h : MtA (.agg J92) a) : ∃ x : Stop, a = .agg [I x.Speed, I x.Loads.Low, I x.Loads.High, I x.Fail] /\ J8j x := by
 obtain ⟨r, rfl, hr⟩ := g1y h;obtain ⟨x, rfl, hx⟩ := K24 hr;exact ⟨x, rfl, hx⟩
abbrev p66 : Sh := .sl [.i .i64]
theorem p7m {a : AV} (h : MtA (.c p66) a) : ∃ x : List Int, a = .fs 1 (List.map eI x) /\ (OkL b5k) x := p33 (o9m h)
end Go.Nw.XM
