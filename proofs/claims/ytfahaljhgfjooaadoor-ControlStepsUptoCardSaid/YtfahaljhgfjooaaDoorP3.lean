/- The arguments of laws, typed: printed by gentyp.py. -/
import Derived.Test.YtfahaljhgfjooaaDoorKM
import Derived.Test.YtfahaljhgfjooaaDoorNwTypes
set_option linter.all false
namespace Go.Nw.KM
variable [Bd]
def b7a (x : ByteArray) : Prop := x.size <= Bd.B
theorem j7c {r : List AV} (h : MtL [.s] r) : ∃ x : ByteArray, r = eS x /\ b7a x := by
 obtain ⟨a0, r0, rfl, h0, g0⟩ := b2o h
 obtain ⟨v0, rfl, k0⟩ := c9z h0
 exact ⟨v0, by rw [b5d g0]; rfl, k0⟩
theorem d6p {a : AV} (h : Mt (.sl [.s]) a) : ∃ l : List ByteArray, a = .fs 1 (l.map eS) /\ OkL b7a l := by
 obtain ⟨l, rfl, h1, h2⟩ := b6n eS b7a h fun r hr => j7c hr
 exact ⟨l, rfl, h1, h2⟩
def c2q (x : Counter) : Prop := b7a x.Name /\ b2u x.Max
theorem j65 {r : List AV} (h : MtL [.s, .i .i64] r) : ∃ x : Counter, r = b0l x /\ c2q x := by
 obtain ⟨a0, r0, rfl, h0, g0⟩ := b2o h
 obtain ⟨a1, r1, rfl, h1, g1⟩ := b2o g0
 obtain ⟨v0, rfl, k0⟩ := c9z h0
 obtain ⟨v1, rfl, k1⟩ := b4h h1
 exact ⟨⟨v0, v1⟩, by rw [b5d g1]; rfl, ⟨k0, k1⟩⟩
theorem j1f {a : AV} (h : Mt (.sl [.s, .i .i64]) a) : ∃ l : List Counter, a = .fs 2 (l.map b0l) /\ OkL c2q l := by
 obtain ⟨l, rfl, h1, h2⟩ := b6n b0l c2q h fun r hr => j65 hr
 exact ⟨l, rfl, h1, h2⟩
def c2u (x : State) : Prop := b7a x.Name /\ b2u x.Shows
theorem j7e {r : List AV} (h : MtL [.s, .i .i64] r) : ∃ x : State, r = b0m x /\ c2u x := by
 obtain ⟨a0, r0, rfl, h0, g0⟩ := b2o h
 obtain ⟨a1, r1, rfl, h1, g1⟩ := b2o g0
 obtain ⟨v0, rfl, k0⟩ := c9z h0
 obtain ⟨v1, rfl, k1⟩ := b4h h1
 exact ⟨⟨v0, v1⟩, by rw [b5d g1]; rfl, ⟨k0, k1⟩⟩
theorem j1l {a : AV} (h : Mt (.sl [.s, .i .i64]) a) : ∃ l : List State, a = .fs 2 (l.map b0m) /\ OkL c2u l := by
 obtain ⟨l, rfl, h1, h2⟩ := b6n b0m c2u h fun r hr => j7e hr
 exact ⟨l, rfl, h1, h2⟩
def b5u (x : Literal) : Prop := b2u x.Kind /\ b2u x.Number /\ b2u x.Value /\ True
theorem j68 {r : List AV} (h : MtL [.i .i64, .i .i64, .i .i64, .b] r) : ∃ x : Literal, r = b24 x /\ b5u x := by
 obtain ⟨a0, r0, rfl, h0, g0⟩ := b2o h
 obtain ⟨a1, r1, rfl, h1, g1⟩ := b2o g0
 obtain ⟨a2, r2, rfl, h2, g2⟩ := b2o g1
 obtain ⟨a3, r3, rfl, h3, g3⟩ := b2o g2
 obtain ⟨v0, rfl, k0⟩ := b4h h0
 obtain ⟨v1, rfl, k1⟩ := b4h h1
 obtain ⟨v2, rfl, k2⟩ := b4h h2
 obtain ⟨v3, rfl, k3⟩ := j1n h3
 exact ⟨⟨v0, v1, v2, v3⟩, by rw [b5d g3]; rfl, ⟨k0, k1, k2, k3⟩⟩
theorem j1i {a : AV} (h : Mt (.sl [.i .i64, .i .i64, .i .i64, .b]) a) : ∃ l : List Literal, a = .fs 4 (l.map b24) /\ OkL b5u l := by
 obtain ⟨l, rfl, h1, h2⟩ := b6n b24 b5u h fun r hr => j68 hr
 exact ⟨l, rfl, h1, h2⟩
theorem j67 {r : List AV} (h : MtL [.sl [.i .i64, .i .i64, .i .i64, .b]] r) : ∃ x : List Literal, r = b03 x /\ OkL b5u x := by
 obtain ⟨a0, r0, rfl, h0, g0⟩ := b2o h
 obtain ⟨v0, rfl, k0⟩ := j1i h0
 exact ⟨v0, by rw [b5d g0]; rfl, k0⟩
theorem j1h {a : AV} (h : Mt (.sl [.sl [.i .i64, .i .i64, .i .i64, .b]]) a) : ∃ l : List (List Literal), a = .fs 1 (l.map b03) /\ OkL (OkL b5u) l := by
 obtain ⟨l, rfl, h1, h2⟩ := b6n b03 (OkL b5u) h fun r hr => j67 hr
 exact ⟨l, rfl, h1, h2⟩
def c2t (x : Set) : Prop := b2u x.Kind /\ b2u x.Counter
theorem j7d {r : List AV} (h : MtL [.i .i64, .i .i64] r) : ∃ x : Set, r = b2c x /\ c2t x := by
 obtain ⟨a0, r0, rfl, h0, g0⟩ := b2o h
 obtain ⟨a1, r1, rfl, h1, g1⟩ := b2o g0
 obtain ⟨v0, rfl, k0⟩ := b4h h0
 obtain ⟨v1, rfl, k1⟩ := b4h h1
 exact ⟨⟨v0, v1⟩, by rw [b5d g1]; rfl, ⟨k0, k1⟩⟩
theorem j1k {a : AV} (h : Mt (.sl [.i .i64, .i .i64]) a) : ∃ l : List Set, a = .fs 2 (l.map b2c) /\ OkL c2t l := by
 obtain ⟨l, rfl, h1, h2⟩ := b6n b2c c2t h fun r hr => j7d hr
 exact ⟨l, rfl, h1, h2⟩
def c2s (x : Rule) : Prop := b2u x.From /\ b2u x.To /\ OkL (OkL b5u) x.When /\ OkL c2t x.Sets
theorem j7b {r : List AV} (h : MtL [.i .i64, .i .i64, .sl [.sl [.i .i64, .i .i64, .i .i64, .b]], .sl [.i .i64, .i .i64]] r) : ∃ x : Rule, r = b0j x /\ c2s x := by
 obtain ⟨a0, r0, rfl, h0, g0⟩ := b2o h
 obtain ⟨a1, r1, rfl, h1, g1⟩ := b2o g0
 obtain ⟨a2, r2, rfl, h2, g2⟩ := b2o g1
 obtain ⟨a3, r3, rfl, h3, g3⟩ := b2o g2
 obtain ⟨v0, rfl, k0⟩ := b4h h0
 obtain ⟨v1, rfl, k1⟩ := b4h h1
 obtain ⟨v2, rfl, k2⟩ := j1h h2
 obtain ⟨v3, rfl, k3⟩ := j1k h3
 exact ⟨⟨v0, v1, v2, v3⟩, by rw [b5d g3]; rfl, ⟨k0, k1, k2, k3⟩⟩
theorem j1j {a : AV} (h : Mt (.sl [.i .i64, .i .i64, .sl [.sl [.i .i64, .i .i64, .i .i64, .b]], .sl [.i .i64, .i .i64]]) a) : ∃ l : List Rule, a = .fs 4 (l.map b0j) /\ OkL c2s l := by
 obtain ⟨l, rfl, h1, h2⟩ := b6n b0j c2s h fun r hr => j7b hr
 exact ⟨l, rfl, h1, h2⟩
def b79 (x : Machine) : Prop := OkL b7a x.Inputs /\ OkL b7a x.Outputs /\ OkL c2q x.Counters /\ OkL c2u x.States /\ OkL c2s x.Rules
def g3o (x : Machine) : List AV := [.fs 1 (List.map eS x.Inputs), .fs 1 (List.map eS x.Outputs), .fs 2 (List.map b0l x.Counters), .fs 2 (List.map b0m x.States), .fs 4 (List.map b0j x.Rules)]
theorem j69 {r : List AV} (h : MtL [.sl [.s], .sl [.s], .sl [.s, .i .i64], .sl [.s, .i .i64], .sl [.i .i64, .i .i64, .sl [.sl [.i .i64, .i .i64, .i .i64, .b]], .sl [.i .i64, .i .i64]]] r) : ∃ x : Machine, r = g3o x /\ b79 x := by
 obtain ⟨a0, r0, rfl, h0, g0⟩ := b2o h
 obtain ⟨a1, r1, rfl, h1, g1⟩ := b2o g0
 obtain ⟨a2, r2, rfl, h2, g2⟩ := b2o g1
 obtain ⟨a3, r3, rfl, h3, g3⟩ := b2o g2
 obtain ⟨a4, r4, rfl, h4, g4⟩ := b2o g3
 obtain ⟨v0, rfl, k0⟩ := d6p h0
 obtain ⟨v1, rfl, k1⟩ := d6p h1
 obtain ⟨v2, rfl, k2⟩ := j1f h2
 obtain ⟨v3, rfl, k3⟩ := j1l h3
 obtain ⟨v4, rfl, k4⟩ := j1j h4
 exact ⟨⟨v0, v1, v2, v3, v4⟩, by rw [b5d g4]; rfl, ⟨k0, k1, k2, k3, k4⟩⟩
abbrev d0o : List Sh := [.sl [.s], .sl [.s], .sl [.s, .i .i64], .sl [.s, .i .i64], .sl [.i .i64, .i .i64, .sl [.sl [.i .i64, .i .i64, .i .i64, .b]], .sl [.i .i64, .i .i64]]]
theorem j8m {a : AV} (h : MtA (.agg d0o) a) : ∃ x : Machine, a = .agg [.fs 1 (List.map eS x.Inputs), .fs 1 (List.map eS x.Outputs), .fs 2 (List.map b0l x.Counters), .fs 2 (List.map b0m x.States), .fs 4 (List.map b0j x.Rules)] /\ b79 x := by
 obtain ⟨r, rfl, hr⟩ := d6q h
 obtain ⟨x, rfl, hx⟩ := j69 hr
 exact ⟨x, rfl, hx⟩
theorem j1g {a : AV} (h : Mt (.sl [.i .i64]) a) : ∃ l : List Int, a = .fs 1 (l.map eI) /\ OkL b2u l := by
 obtain ⟨l, rfl, h1, h2⟩ := b6n eI b2u h fun r hr => j66 hr
 exact ⟨l, rfl, h1, h2⟩
abbrev d0n : Sh := .sl [.i .i64]
theorem j8l {a : AV} (h : MtA (.c d0n) a) : ∃ x : List Int, a = .fs 1 (List.map eI x) /\ (OkL b2u) x := j1g (j1o h)
def d92 (x : Int × Int) : Prop := b2u x.1 /\ b2u x.2
def c2r (x : Place) : Prop := b2u x.State /\ d92 x.Values
theorem j7a {r : List AV} (h : MtL [.i .i64, .i .i64, .i .i64] r) : ∃ x : Place, r = b2w x /\ c2r x := by
 obtain ⟨a0, r0, rfl, h0, g0⟩ := b2o h
 obtain ⟨a1, r1, rfl, h1, g1⟩ := b2o g0
 obtain ⟨a2, r2, rfl, h2, g2⟩ := b2o g1
 obtain ⟨v0, rfl, k0⟩ := b4h h0
 obtain ⟨v1, rfl, k1⟩ := b4h h1
 obtain ⟨v2, rfl, k2⟩ := b4h h2
 exact ⟨⟨v0, (v1, v2)⟩, by rw [b5d g2]; rfl, ⟨k0, ⟨k1, k2⟩⟩⟩
abbrev d0p : List Sh := [.i .i64, .i .i64, .i .i64]
theorem j8n {a : AV} (h : MtA (.agg d0p) a) : ∃ x : Place, a = .agg [I x.State, I x.Values.1, I x.Values.2] /\ c2r x := by
 obtain ⟨r, rfl, hr⟩ := d6q h
 obtain ⟨x, rfl, hx⟩ := j7a hr
 exact ⟨x, rfl, hx⟩
end Go.Nw.KM
