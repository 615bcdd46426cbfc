/- The arguments of laws, typed: printed by gentyp.py. -/
import Derived.Test.YtfahaljhgfjooaaDoorKM
import Derived.Test.YtfahaljhgfjooaaDoorNwTypes
set_option linter.all false
namespace Go.Nw.KM
variable [Bd]
def b7r (x : ByteArray) : Prop := x.size <= Bd.B
theorem l2j {r : List AV} (h : MtL [.s] r) : ∃ x : ByteArray, r = eS x /\ b7r x := by
 obtain ⟨a0, r0, rfl, h0, g0⟩ := b26 h
 obtain ⟨v0, rfl, k0⟩ := d20 h0
 exact ⟨v0, by rw [b6e g0]; rfl, k0⟩
theorem d9x {a : AV} (h : Mt (.sl [.s]) a) : ∃ l : List ByteArray, a = .fs 1 (l.map eS) /\ OkL b7r l := by
 obtain ⟨l, rfl, h1, h2⟩ := b8l eS b7r h fun r hr => l2j hr
 exact ⟨l, rfl, h1, h2⟩
def c4b (x : Counter) : Prop := b7r x.Name /\ b5b x.Max
theorem l2e {r : List AV} (h : MtL [.s, .i .i64] r) : ∃ x : Counter, r = b0m x /\ c4b x := by
 obtain ⟨a0, r0, rfl, h0, g0⟩ := b26 h
 obtain ⟨a1, r1, rfl, h1, g1⟩ := b26 g0
 obtain ⟨v0, rfl, k0⟩ := d20 h0
 obtain ⟨v1, rfl, k1⟩ := b6d h1
 exact ⟨⟨v0, v1⟩, by rw [b6e g1]; rfl, ⟨k0, k1⟩⟩
theorem j59 {a : AV} (h : Mt (.sl [.s, .i .i64]) a) : ∃ l : List Counter, a = .fs 2 (l.map b0m) /\ OkL c4b l := by
 obtain ⟨l, rfl, h1, h2⟩ := b8l b0m c4b h fun r hr => l2e hr
 exact ⟨l, rfl, h1, h2⟩
def c4e (x : State) : Prop := b7r x.Name /\ b5b x.Shows
theorem l2l {r : List AV} (h : MtL [.s, .i .i64] r) : ∃ x : State, r = b0n x /\ c4e x := by
 obtain ⟨a0, r0, rfl, h0, g0⟩ := b26 h
 obtain ⟨a1, r1, rfl, h1, g1⟩ := b26 g0
 obtain ⟨v0, rfl, k0⟩ := d20 h0
 obtain ⟨v1, rfl, k1⟩ := b6d h1
 exact ⟨⟨v0, v1⟩, by rw [b6e g1]; rfl, ⟨k0, k1⟩⟩
theorem j6d {a : AV} (h : Mt (.sl [.s, .i .i64]) a) : ∃ l : List State, a = .fs 2 (l.map b0n) /\ OkL c4e l := by
 obtain ⟨l, rfl, h1, h2⟩ := b8l b0n c4e h fun r hr => l2l hr
 exact ⟨l, rfl, h1, h2⟩
def b5q (x : Literal) : Prop := b5b x.Kind /\ b5b x.Number /\ b5b x.Value /\ True
theorem l2g {r : List AV} (h : MtL [.i .i64, .i .i64, .i .i64, .b] r) : ∃ x : Literal, r = b3c x /\ b5q x := by
 obtain ⟨a0, r0, rfl, h0, g0⟩ := b26 h
 obtain ⟨a1, r1, rfl, h1, g1⟩ := b26 g0
 obtain ⟨a2, r2, rfl, h2, g2⟩ := b26 g1
 obtain ⟨a3, r3, rfl, h3, g3⟩ := b26 g2
 obtain ⟨v0, rfl, k0⟩ := b6d h0
 obtain ⟨v1, rfl, k1⟩ := b6d h1
 obtain ⟨v2, rfl, k2⟩ := b6d h2
 obtain ⟨v3, rfl, k3⟩ := j6f h3
 exact ⟨⟨v0, v1, v2, v3⟩, by rw [b6e g3]; rfl, ⟨k0, k1, k2, k3⟩⟩
theorem j6a {a : AV} (h : Mt (.sl [.i .i64, .i .i64, .i .i64, .b]) a) : ∃ l : List Literal, a = .fs 4 (l.map b3c) /\ OkL b5q l := by
 obtain ⟨l, rfl, h1, h2⟩ := b8l b3c b5q h fun r hr => l2g hr
 exact ⟨l, rfl, h1, h2⟩
theorem l2f {r : List AV} (h : MtL [.sl [.i .i64, .i .i64, .i .i64, .b]] r) : ∃ x : List Literal, r = b0t x /\ OkL b5q x := by
 obtain ⟨a0, r0, rfl, h0, g0⟩ := b26 h
 obtain ⟨v0, rfl, k0⟩ := j6a h0
 exact ⟨v0, by rw [b6e g0]; rfl, k0⟩
theorem d2z {a : AV} (h : Mt (.sl [.sl [.i .i64, .i .i64, .i .i64, .b]]) a) : ∃ l : List (List Literal), a = .fs 1 (l.map b0t) /\ OkL (OkL b5q) l := by
 obtain ⟨l, rfl, h1, h2⟩ := b8l b0t (OkL b5q) h fun r hr => l2f hr
 exact ⟨l, rfl, h1, h2⟩
def c4d (x : Set) : Prop := b5b x.Kind /\ b5b x.Counter
theorem l2k {r : List AV} (h : MtL [.i .i64, .i .i64] r) : ∃ x : Set, r = b2k x /\ c4d x := by
 obtain ⟨a0, r0, rfl, h0, g0⟩ := b26 h
 obtain ⟨a1, r1, rfl, h1, g1⟩ := b26 g0
 obtain ⟨v0, rfl, k0⟩ := b6d h0
 obtain ⟨v1, rfl, k1⟩ := b6d h1
 exact ⟨⟨v0, v1⟩, by rw [b6e g1]; rfl, ⟨k0, k1⟩⟩
theorem j6c {a : AV} (h : Mt (.sl [.i .i64, .i .i64]) a) : ∃ l : List Set, a = .fs 2 (l.map b2k) /\ OkL c4d l := by
 obtain ⟨l, rfl, h1, h2⟩ := b8l b2k c4d h fun r hr => l2k hr
 exact ⟨l, rfl, h1, h2⟩
def c4c (x : Rule) : Prop := b5b x.From /\ b5b x.To /\ OkL (OkL b5q) x.When /\ OkL c4d x.Sets
theorem l2i {r : List AV} (h : MtL [.i .i64, .i .i64, .sl [.sl [.i .i64, .i .i64, .i .i64, .b]], .sl [.i .i64, .i .i64]] r) : ∃ x : Rule, r = b0k x /\ c4c x := by
 obtain ⟨a0, r0, rfl, h0, g0⟩ := b26 h
 obtain ⟨a1, r1, rfl, h1, g1⟩ := b26 g0
 obtain ⟨a2, r2, rfl, h2, g2⟩ := b26 g1
 obtain ⟨a3, r3, rfl, h3, g3⟩ := b26 g2
 obtain ⟨v0, rfl, k0⟩ := b6d h0
 obtain ⟨v1, rfl, k1⟩ := b6d h1
 obtain ⟨v2, rfl, k2⟩ := d2z h2
 obtain ⟨v3, rfl, k3⟩ := j6c h3
 exact ⟨⟨v0, v1, v2, v3⟩, by rw [b6e g3]; rfl, ⟨k0, k1, k2, k3⟩⟩
theorem j6b {a : AV} (h : Mt (.sl [.i .i64, .i .i64, .sl [.sl [.i .i64, .i .i64, .i .i64, .b]], .sl [.i .i64, .i .i64]]) a) : ∃ l : List Rule, a = .fs 4 (l.map b0k) /\ OkL c4c l := by
 obtain ⟨l, rfl, h1, h2⟩ := b8l b0k c4c h fun r hr => l2i hr
 exact ⟨l, rfl, h1, h2⟩
def b88 (x : Machine) : Prop := OkL b7r x.Inputs /\ OkL b7r x.Outputs /\ OkL c4b x.Counters /\ OkL c4e x.States /\ OkL c4c x.Rules
def g7w (x : Machine) : List AV := [.fs 1 (List.map eS x.Inputs), .fs 1 (List.map eS x.Outputs), .fs 2 (List.map b0m x.Counters), .fs 2 (List.map b0n x.States), .fs 4 (List.map b0k x.Rules)]
theorem l2h {r : List AV} (h : MtL [.sl [.s], .sl [.s], .sl [.s, .i .i64], .sl [.s, .i .i64], .sl [.i .i64, .i .i64, .sl [.sl [.i .i64, .i .i64, .i .i64, .b]], .sl [.i .i64, .i .i64]]] r) : ∃ x : Machine, r = g7w x /\ b88 x := by
 obtain ⟨a0, r0, rfl, h0, g0⟩ := b26 h
 obtain ⟨a1, r1, rfl, h1, g1⟩ := b26 g0
 obtain ⟨a2, r2, rfl, h2, g2⟩ := b26 g1
 obtain ⟨a3, r3, rfl, h3, g3⟩ := b26 g2
 obtain ⟨a4, r4, rfl, h4, g4⟩ := b26 g3
 obtain ⟨v0, rfl, k0⟩ := d9x h0
 obtain ⟨v1, rfl, k1⟩ := d9x h1
 obtain ⟨v2, rfl, k2⟩ := j59 h2
 obtain ⟨v3, rfl, k3⟩ := j6d h3
 obtain ⟨v4, rfl, k4⟩ := j6b h4
 exact ⟨⟨v0, v1, v2, v3, v4⟩, by rw [b6e g4]; rfl, ⟨k0, k1, k2, k3, k4⟩⟩
abbrev d3p : List Sh := [.sl [.s], .sl [.s], .sl [.s, .i .i64], .sl [.s, .i .i64], .sl [.i .i64, .i .i64, .sl [.sl [.i .i64, .i .i64, .i .i64, .b]], .sl [.i .i64, .i .i64]]]
theorem l35 {a : AV} (h : MtA (.agg d3p) a) : ∃ x : Machine, a = .agg [.fs 1 (List.map eS x.Inputs), .fs 1 (List.map eS x.Outputs), .fs 2 (List.map b0m x.Counters), .fs 2 (List.map b0n x.States), .fs 4 (List.map b0k x.Rules)] /\ b88 x := by
 obtain ⟨r, rfl, hr⟩ := d9y h
 obtain ⟨x, rfl, hx⟩ := l2h hr
 exact ⟨x, rfl, hx⟩
def c4f (x : l04_Conds) : Prop := OkL (OkL b5q) x.Assume /\ OkL (OkL b5q) x.Never
def g8j (x : l04_Conds) : List AV := [.fs 1 (List.map b0t x.Assume), .fs 1 (List.map b0t x.Never)]
theorem l2m {r : List AV} (h : MtL [.sl [.sl [.i .i64, .i .i64, .i .i64, .b]], .sl [.sl [.i .i64, .i .i64, .i .i64, .b]]] r) : ∃ x : l04_Conds, r = g8j x /\ c4f x := by
 obtain ⟨a0, r0, rfl, h0, g0⟩ := b26 h
 obtain ⟨a1, r1, rfl, h1, g1⟩ := b26 g0
 obtain ⟨v0, rfl, k0⟩ := d2z h0
 obtain ⟨v1, rfl, k1⟩ := d2z h1
 exact ⟨⟨v0, v1⟩, by rw [b6e g1]; rfl, ⟨k0, k1⟩⟩
abbrev d3q : List Sh := [.sl [.sl [.i .i64, .i .i64, .i .i64, .b]], .sl [.sl [.i .i64, .i .i64, .i .i64, .b]]]
theorem l36 {a : AV} (h : MtA (.agg d3q) a) : ∃ x : l04_Conds, a = .agg [.fs 1 (List.map b0t x.Assume), .fs 1 (List.map b0t x.Never)] /\ c4f x := by
 obtain ⟨r, rfl, hr⟩ := d9y h
 obtain ⟨x, rfl, hx⟩ := l2m hr
 exact ⟨x, rfl, hx⟩
end Go.Nw.KM
