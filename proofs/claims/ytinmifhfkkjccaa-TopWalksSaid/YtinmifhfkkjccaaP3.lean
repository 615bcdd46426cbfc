/- The arguments of laws, typed: printed by gentyp.py. -/
import Derived.Test.YtinmifhfkkjccaaXM
import Derived.Test.YtinmifhfkkjccaaNwTypes
set_option linter.all false
namespace Go.Nw.XM
variable [Bd]
def H9y (x : Passage) : Prop := b5k x.A /\ b5k x.B /\ b5k x.Kind /\ b5k x.Ticks /\ b5k x.Wide /\ b5k x.Machine /\ b5k x.Still
theorem C2s {r : List AV} (h : MtL [.i .i64, .i .i64, .i .i64, .i .i64, .i .i64, .i .i64, .i .i64] r) : ∃ x : Passage, r = z9o x /\ H9y x := by
 obtain ⟨a0, r0, rfl, h0, g0⟩ := b3e h;obtain ⟨a1, r1, rfl, h1, g1⟩ := b3e g0;obtain ⟨a2, r2, rfl, h2, g2⟩ := b3e g1;obtain ⟨a3, r3, rfl, h3, g3⟩ := b3e g2;obtain ⟨a4, r4, rfl, h4, g4⟩ := b3e g3;obtain ⟨a5, r5, rfl, h5, g5⟩ := b3e g4;obtain ⟨a6, r6, rfl, h6, g6⟩ := b3e g5;obtain ⟨v0, rfl, k0⟩ := b6n h0;obtain ⟨v1, rfl, k1⟩ := b6n h1;obtain ⟨v2, rfl, k2⟩ := b6n h2;obtain ⟨v3, rfl, k3⟩ := b6n h3;obtain ⟨v4, rfl, k4⟩ := b6n h4;obtain ⟨v5, rfl, k5⟩ := b6n h5;obtain ⟨v6, rfl, k6⟩ := b6n h6;exact ⟨⟨v0, v1, v2, v3, v4, v5, v6⟩, by rw [b6o g6]; rfl, ⟨k0, k1, k2, k3, k4, k5, k6⟩⟩
theorem C2m {a : AV} (h : Mt (.sl [.i .i64, .i .i64, .i .i64, .i .i64, .i .i64, .i .i64, .i .i64]) a) : ∃ l : List Passage, a = .fs 7 (l.map z9o) /\ OkL H9y l := by
 obtain ⟨l, rfl, h1, h2⟩ := b8q z9o H9y h fun r hr => C2s hr;exact ⟨l, rfl, h1, h2⟩
theorem p33 {a : AV} (h : Mt (.sl [.i .i64]) a) : ∃ l : List Int, a = .fs 1 (l.map eI) /\ OkL b5k l := by
 obtain ⟨l, rfl, h1, h2⟩ := b8q eI b5k h fun r hr => p36 hr;exact ⟨l, rfl, h1, h2⟩
def H9z (x : Station) : Prop := b5k x.Places /\ OkL H9y x.Passages /\ OkL b5k x.Exits
def C1v (x : Station) : List AV := [I x.Places, .fs 7 (List.map z9o x.Passages), .fs 1 (List.map eI x.Exits)]
theorem C2t {r : List AV} (h : MtL [.i .i64, .sl [.i .i64, .i .i64, .i .i64, .i .i64, .i .i64, .i .i64, .i .i64], .sl [.i .i64]] r) : ∃ x : Station, r = C1v x /\ H9z x := by
 obtain ⟨a0, r0, rfl, h0, g0⟩ := b3e h;obtain ⟨a1, r1, rfl, h1, g1⟩ := b3e g0;obtain ⟨a2, r2, rfl, h2, g2⟩ := b3e g1;obtain ⟨v0, rfl, k0⟩ := b6n h0;obtain ⟨v1, rfl, k1⟩ := C2m h1;obtain ⟨v2, rfl, k2⟩ := p33 h2;exact ⟨⟨v0, v1, v2⟩, by rw [b6o g2]; rfl, ⟨k0, k1, k2⟩⟩
abbrev C0p : List Sh := [.i .i64, .sl [.i .i64, .i .i64, .i .i64, .i .i64, .i .i64, .i .i64, .i .i64], .sl [.i .i64]]
theorem C2y {a : AV} (h : MtA (.agg C0p) a) : ∃ x : Station, a = .agg [I x.Places, .fs 7 (List.map z9o x.Passages), .fs 1 (List.map eI x.Exits)] /\ H9z x := by
 obtain ⟨r, rfl, hr⟩ := g1y h;obtain ⟨x, rfl, hx⟩ := C2t hr;exact ⟨x, rfl, hx⟩
def H90 (x : l08_Trip) : Prop := b5k x.Out /\ True /\ b5k x.From /\ b5k x.To
def J25 (x : l08_Trip) : List AV := [I x.Out, B x.Help, I x.From, I x.To]
theorem J4i {r : List AV} (h : MtL [.i .i64, .b, .i .i64, .i .i64] r) : ∃ x : l08_Trip, r = J25 x /\ H90 x := by
 obtain ⟨a0, r0, rfl, h0, g0⟩ := b3e h;obtain ⟨a1, r1, rfl, h1, g1⟩ := b3e g0;obtain ⟨a2, r2, rfl, h2, g2⟩ := b3e g1;obtain ⟨a3, r3, rfl, h3, g3⟩ := b3e g2;obtain ⟨v0, rfl, k0⟩ := b6n h0;obtain ⟨v1, rfl, k1⟩ := j8k h1;obtain ⟨v2, rfl, k2⟩ := b6n h2;obtain ⟨v3, rfl, k3⟩ := b6n h3;exact ⟨⟨v0, v1, v2, v3⟩, by rw [b6o g3]; rfl, ⟨k0, k1, k2, k3⟩⟩
abbrev J08 : List Sh := [.i .i64, .b, .i .i64, .i .i64]
theorem J4v {a : AV} (h : MtA (.agg J08) a) : ∃ x : l08_Trip, a = .agg [I x.Out, B x.Help, I x.From, I x.To] /\ H90 x := by
 obtain ⟨r, rfl, hr⟩ := g1y h;obtain ⟨x, rfl, hx⟩ := J4i hr;exact ⟨x, rfl, hx⟩
end Go.Nw.XM
