/- The arguments of laws, typed: printed by gentyp.py. -/
import Derived.Test.YtfahaljhgfjooaaDoorKM
import Derived.Test.YtfahaljhgfjooaaDoorNwTypes
set_option linter.all false
namespace Go.Nw.KM
variable [Bd]
def c68 (x : ByteArray) : Prop := x.size <= Bd.B
theorem l4q {r : List AV} (h : MtL [.s] r) : ∃ x : ByteArray, r = eS x /\ c68 x := by
 obtain ⟨a0, r0, rfl, h0, g0⟩ := b3e h;obtain ⟨v0, rfl, k0⟩ := d4c h0;exact ⟨v0, by rw [b6o g0]; rfl, k0⟩
theorem g1x {a : AV} (h : Mt (.sl [.s]) a) : ∃ l : List ByteArray, a = .fs 1 (l.map eS) /\ OkL c68 l := by
 obtain ⟨l, rfl, h1, h2⟩ := b8q eS c68 h fun r hr => l4q hr;exact ⟨l, rfl, h1, h2⟩
def r8n (x : Counter) : Prop := c68 x.Name /\ b5k x.Max
theorem l4l {r : List AV} (h : MtL [.s, .i .i64] r) : ∃ x : Counter, r = b0o x /\ r8n x := by
 obtain ⟨a0, r0, rfl, h0, g0⟩ := b3e h;obtain ⟨a1, r1, rfl, h1, g1⟩ := b3e g0;obtain ⟨v0, rfl, k0⟩ := d4c h0;obtain ⟨v1, rfl, k1⟩ := b6n h1;exact ⟨⟨v0, v1⟩, by rw [b6o g1]; rfl, ⟨k0, k1⟩⟩
theorem j8e {a : AV} (h : Mt (.sl [.s, .i .i64]) a) : ∃ l : List Counter, a = .fs 2 (l.map b0o) /\ OkL r8n l := by
 obtain ⟨l, rfl, h1, h2⟩ := b8q b0o r8n h fun r hr => l4l hr;exact ⟨l, rfl, h1, h2⟩
def c53 (x : State) : Prop := c68 x.Name /\ b5k x.Shows
theorem l4s {r : List AV} (h : MtL [.s, .i .i64] r) : ∃ x : State, r = b0p x /\ c53 x := by
 obtain ⟨a0, r0, rfl, h0, g0⟩ := b3e h;obtain ⟨a1, r1, rfl, h1, g1⟩ := b3e g0;obtain ⟨v0, rfl, k0⟩ := d4c h0;obtain ⟨v1, rfl, k1⟩ := b6n h1;exact ⟨⟨v0, v1⟩, by rw [b6o g1]; rfl, ⟨k0, k1⟩⟩
theorem j8i {a : AV} (h : Mt (.sl [.s, .i .i64]) a) : ∃ l : List State, a = .fs 2 (l.map b0p) /\ OkL c53 l := by
 obtain ⟨l, rfl, h1, h2⟩ := b8q b0p c53 h fun r hr => l4s hr;exact ⟨l, rfl, h1, h2⟩
def b5x (x : Literal) : Prop := b5k x.Kind /\ b5k x.Number /\ b5k x.Value /\ True
theorem l4n {r : List AV} (h : MtL [.i .i64, .i .i64, .i .i64, .b] r) : ∃ x : Literal, r = b3k x /\ b5x x := by
 obtain ⟨a0, r0, rfl, h0, g0⟩ := b3e h;obtain ⟨a1, r1, rfl, h1, g1⟩ := b3e g0;obtain ⟨a2, r2, rfl, h2, g2⟩ := b3e g1;obtain ⟨a3, r3, rfl, h3, g3⟩ := b3e g2;obtain ⟨v0, rfl, k0⟩ := b6n h0;obtain ⟨v1, rfl, k1⟩ := b6n h1;obtain ⟨v2, rfl, k2⟩ := b6n h2;obtain ⟨v3, rfl, k3⟩ := j8k h3;exact ⟨⟨v0, v1, v2, v3⟩, by rw [b6o g3]; rfl, ⟨k0, k1, k2, k3⟩⟩
theorem j8f {a : AV} (h : Mt (.sl [.i .i64, .i .i64, .i .i64, .b]) a) : ∃ l : List Literal, a = .fs 4 (l.map b3k) /\ OkL b5x l := by
 obtain ⟨l, rfl, h1, h2⟩ := b8q b3k b5x h fun r hr => l4n hr;exact ⟨l, rfl, h1, h2⟩
theorem l4m {r : List AV} (h : MtL [.sl [.i .i64, .i .i64, .i .i64, .b]] r) : ∃ x : List Literal, r = b0t x /\ OkL b5x x := by
 obtain ⟨a0, r0, rfl, h0, g0⟩ := b3e h;obtain ⟨v0, rfl, k0⟩ := j8f h0;exact ⟨v0, by rw [b6o g0]; rfl, k0⟩
theorem d4b {a : AV} (h : Mt (.sl [.sl [.i .i64, .i .i64, .i .i64, .b]]) a) : ∃ l : List (List Literal), a = .fs 1 (l.map b0t) /\ OkL (OkL b5x) l := by
 obtain ⟨l, rfl, h1, h2⟩ := b8q b0t (OkL b5x) h fun r hr => l4m hr;exact ⟨l, rfl, h1, h2⟩
def c52 (x : Set) : Prop := b5k x.Kind /\ b5k x.Counter
theorem l4r {r : List AV} (h : MtL [.i .i64, .i .i64] r) : ∃ x : Set, r = b2o x /\ c52 x := by
 obtain ⟨a0, r0, rfl, h0, g0⟩ := b3e h;obtain ⟨a1, r1, rfl, h1, g1⟩ := b3e g0;obtain ⟨v0, rfl, k0⟩ := b6n h0;obtain ⟨v1, rfl, k1⟩ := b6n h1;exact ⟨⟨v0, v1⟩, by rw [b6o g1]; rfl, ⟨k0, k1⟩⟩
theorem j8h {a : AV} (h : Mt (.sl [.i .i64, .i .i64]) a) : ∃ l : List Set, a = .fs 2 (l.map b2o) /\ OkL c52 l := by
 obtain ⟨l, rfl, h1, h2⟩ := b8q b2o c52 h fun r hr => l4r hr;exact ⟨l, rfl, h1, h2⟩
def c51 (x : Rule) : Prop := b5k x.From /\ b5k x.To /\ OkL (OkL b5x) x.When /\ OkL c52 x.Sets
theorem l4p {r : List AV} (h : MtL [.i .i64, .i .i64, .sl [.sl [.i .i64, .i .i64, .i .i64, .b]], .sl [.i .i64, .i .i64]] r) : ∃ x : Rule, r = b0m x /\ c51 x := by
 obtain ⟨a0, r0, rfl, h0, g0⟩ := b3e h;obtain ⟨a1, r1, rfl, h1, g1⟩ := b3e g0;obtain ⟨a2, r2, rfl, h2, g2⟩ := b3e g1;obtain ⟨a3, r3, rfl, h3, g3⟩ := b3e g2;obtain ⟨v0, rfl, k0⟩ := b6n h0;obtain ⟨v1, rfl, k1⟩ := b6n h1;obtain ⟨v2, rfl, k2⟩ := d4b h2;obtain ⟨v3, rfl, k3⟩ := j8h h3;exact ⟨⟨v0, v1, v2, v3⟩, by rw [b6o g3]; rfl, ⟨k0, k1, k2, k3⟩⟩
theorem j8g {a : AV} (h : Mt (.sl [.i .i64, .i .i64, .sl [.sl [.i .i64, .i .i64, .i .i64, .b]], .sl [.i .i64, .i .i64]]) a) : ∃ l : List Rule, a = .fs 4 (l.map b0m) /\ OkL c51 l := by
 obtain ⟨l, rfl, h1, h2⟩ := b8q b0m c51 h fun r hr => l4p hr;exact ⟨l, rfl, h1, h2⟩
def b9d (x : Machine) : Prop := OkL c68 x.Inputs /\ OkL c68 x.Outputs /\ OkL r8n x.Counters /\ OkL c53 x.States /\ OkL c51 x.Rules
def g9z (x : Machine) : List AV := [.fs 1 (List.map eS x.Inputs), .fs 1 (List.map eS x.Outputs), .fs 2 (List.map b0o x.Counters), .fs 2 (List.map b0p x.States), .fs 4 (List.map b0m x.Rules)]
theorem l4o {r : List AV} (h : MtL [.sl [.s], .sl [.s], .sl [.s, .i .i64], .sl [.s, .i .i64], .sl [.i .i64, .i .i64, .sl [.sl [.i .i64, .i .i64, .i .i64, .b]], .sl [.i .i64, .i .i64]]] r) : ∃ x : Machine, r = g9z x /\ b9d x := by
 obtain ⟨a0, r0, rfl, h0, g0⟩ := b3e h;obtain ⟨a1, r1, rfl, h1, g1⟩ := b3e g0;obtain ⟨a2, r2, rfl, h2, g2⟩ := b3e g1;obtain ⟨a3, r3, rfl, h3, g3⟩ := b3e g2;obtain ⟨a4, r4, rfl, h4, g4⟩ := b3e g3;obtain ⟨v0, rfl, k0⟩ := g1x h0;obtain ⟨v1, rfl, k1⟩ := g1x h1;obtain ⟨v2, rfl, k2⟩ := j8e h2;obtain ⟨v3, rfl, k3⟩ := j8i h3;obtain ⟨v4, rfl, k4⟩ := j8g h4;exact ⟨⟨v0, v1, v2, v3, v4⟩, by rw [b6o g4]; rfl, ⟨k0, k1, k2, k3, k4⟩⟩
abbrev d43 : List Sh := [.sl [.s], .sl [.s], .sl [.s, .i .i64], .sl [.s, .i .i64], .sl [.i .i64, .i .i64, .sl [.sl [.i .i64, .i .i64, .i .i64, .b]], .sl [.i .i64, .i .i64]]]
theorem l52 {a : AV} (h : MtA (.agg d43) a) : ∃ x : Machine, a = .agg [.fs 1 (List.map eS x.Inputs), .fs 1 (List.map eS x.Outputs), .fs 2 (List.map b0o x.Counters), .fs 2 (List.map b0p x.States), .fs 4 (List.map b0m x.Rules)] /\ b9d x := by
 obtain ⟨r, rfl, hr⟩ := g1y h;obtain ⟨x, rfl, hx⟩ := l4o hr;exact ⟨x, rfl, hx⟩
def c54 (x : l04_Conds) : Prop := OkL (OkL b5x) x.Assume /\ OkL (OkL b5x) x.Never
def j0m (x : l04_Conds) : List AV := [.fs 1 (List.map b0t x.Assume), .fs 1 (List.map b0t x.Never)]
theorem l4u {r : List AV} (h : MtL [.sl [.sl [.i .i64, .i .i64, .i .i64, .b]], .sl [.sl [.i .i64, .i .i64, .i .i64, .b]]] r) : ∃ x : l04_Conds, r = j0m x /\ c54 x := by
 obtain ⟨a0, r0, rfl, h0, g0⟩ := b3e h;obtain ⟨a1, r1, rfl, h1, g1⟩ := b3e g0;obtain ⟨v0, rfl, k0⟩ := d4b h0;obtain ⟨v1, rfl, k1⟩ := d4b h1;exact ⟨⟨v0, v1⟩, by rw [b6o g1]; rfl, ⟨k0, k1⟩⟩
abbrev d44 : List Sh := [.sl [.sl [.i .i64, .i .i64, .i .i64, .b]], .sl [.sl [.i .i64, .i .i64, .i .i64, .b]]]
theorem l53 {a : AV} (h : MtA (.agg d44) a) : ∃ x : l04_Conds, a = .agg [.fs 1 (List.map b0t x.Assume), .fs 1 (List.map b0t x.Never)] /\ c54 x := by
 obtain ⟨r, rfl, hr⟩ := g1y h;obtain ⟨x, rfl, hx⟩ := l4u hr;exact ⟨x, rfl, hx⟩
theorem p33 {a : AV} (h : Mt (.sl [.i .i64]) a) : ∃ l : List Int, a = .fs 1 (l.map eI) /\ OkL b5k l := by
 obtain ⟨l, rfl, h1, h2⟩ := b8q eI b5k h fun r hr => p36 hr;exact ⟨l, rfl, h1, h2⟩
def p5u (x : l04_Pinned) : Prop := OkL b5k x.Run /\ b5k x.Input /\ b5k x.Value
def p51 (x : l04_Pinned) : List AV := [.fs 1 (List.map eI x.Run), I x.Input, I x.Value]
theorem p55 {r : List AV} (h : MtL [.sl [.i .i64], .i .i64, .i .i64] r) : ∃ x : l04_Pinned, r = p51 x /\ p5u x := by
 obtain ⟨a0, r0, rfl, h0, g0⟩ := b3e h;obtain ⟨a1, r1, rfl, h1, g1⟩ := b3e g0;obtain ⟨a2, r2, rfl, h2, g2⟩ := b3e g1;obtain ⟨v0, rfl, k0⟩ := p33 h0;obtain ⟨v1, rfl, k1⟩ := b6n h1;obtain ⟨v2, rfl, k2⟩ := b6n h2;exact ⟨⟨v0, v1, v2⟩, by rw [b6o g2]; rfl, ⟨k0, k1, k2⟩⟩
abbrev p5w : List Sh := [.sl [.i .i64], .i .i64, .i .i64]
theorem p57 {a : AV} (h : MtA (.agg p5w) a) : ∃ x : l04_Pinned, a = .agg [.fs 1 (List.map eI x.Run), I x.Input, I x.Value] /\ p5u x := by
 obtain ⟨r, rfl, hr⟩ := g1y h;obtain ⟨x, rfl, hx⟩ := p55 hr;exact ⟨x, rfl, hx⟩
end Go.Nw.KM
