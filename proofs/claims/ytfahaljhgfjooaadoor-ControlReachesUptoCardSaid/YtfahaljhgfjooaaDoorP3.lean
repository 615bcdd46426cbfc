/- The arguments of laws, typed: printed by gentyp.py. -/
import Derived.Test.YtfahaljhgfjooaaDoorKM
import Derived.Test.YtfahaljhgfjooaaDoorNwTypes
set_option linter.all false
namespace Go.Nw.KM
variable [Bd]
def b7d (x : ByteArray) : Prop := x.size <= Bd.B
theorem j9r {r : List AV} (h : MtL [.s] r) : ∃ x : ByteArray, r = eS x /\ b7d x := by
 obtain ⟨a0, r0, rfl, h0, g0⟩ := b2x h
 obtain ⟨v0, rfl, k0⟩ := d1d h0
 exact ⟨v0, by rw [b50 g0]; rfl, k0⟩
theorem d74 {a : AV} (h : Mt (.sl [.s]) a) : ∃ l : List ByteArray, a = .fs 1 (l.map eS) /\ OkL b7d l := by
 obtain ⟨l, rfl, h1, h2⟩ := b7v eS b7d h fun r hr => j9r hr
 exact ⟨l, rfl, h1, h2⟩
def c3i (x : Counter) : Prop := b7d x.Name /\ b41 x.Max
theorem j9m {r : List AV} (h : MtL [.s, .i .i64] r) : ∃ x : Counter, r = b0l x /\ c3i x := by
 obtain ⟨a0, r0, rfl, h0, g0⟩ := b2x h
 obtain ⟨a1, r1, rfl, h1, g1⟩ := b2x g0
 obtain ⟨v0, rfl, k0⟩ := d1d h0
 obtain ⟨v1, rfl, k1⟩ := b5z h1
 exact ⟨⟨v0, v1⟩, by rw [b50 g1]; rfl, ⟨k0, k1⟩⟩
theorem j3r {a : AV} (h : Mt (.sl [.s, .i .i64]) a) : ∃ l : List Counter, a = .fs 2 (l.map b0l) /\ OkL c3i l := by
 obtain ⟨l, rfl, h1, h2⟩ := b7v b0l c3i h fun r hr => j9m hr
 exact ⟨l, rfl, h1, h2⟩
def c3l (x : State) : Prop := b7d x.Name /\ b41 x.Shows
theorem j9t {r : List AV} (h : MtL [.s, .i .i64] r) : ∃ x : State, r = b0m x /\ c3l x := by
 obtain ⟨a0, r0, rfl, h0, g0⟩ := b2x h
 obtain ⟨a1, r1, rfl, h1, g1⟩ := b2x g0
 obtain ⟨v0, rfl, k0⟩ := d1d h0
 obtain ⟨v1, rfl, k1⟩ := b5z h1
 exact ⟨⟨v0, v1⟩, by rw [b50 g1]; rfl, ⟨k0, k1⟩⟩
theorem j3v {a : AV} (h : Mt (.sl [.s, .i .i64]) a) : ∃ l : List State, a = .fs 2 (l.map b0m) /\ OkL c3l l := by
 obtain ⟨l, rfl, h1, h2⟩ := b7v b0m c3l h fun r hr => j9t hr
 exact ⟨l, rfl, h1, h2⟩
def b5e (x : Literal) : Prop := b41 x.Kind /\ b41 x.Number /\ b41 x.Value /\ True
theorem j9o {r : List AV} (h : MtL [.i .i64, .i .i64, .i .i64, .b] r) : ∃ x : Literal, r = b27 x /\ b5e x := by
 obtain ⟨a0, r0, rfl, h0, g0⟩ := b2x h
 obtain ⟨a1, r1, rfl, h1, g1⟩ := b2x g0
 obtain ⟨a2, r2, rfl, h2, g2⟩ := b2x g1
 obtain ⟨a3, r3, rfl, h3, g3⟩ := b2x g2
 obtain ⟨v0, rfl, k0⟩ := b5z h0
 obtain ⟨v1, rfl, k1⟩ := b5z h1
 obtain ⟨v2, rfl, k2⟩ := b5z h2
 obtain ⟨v3, rfl, k3⟩ := j3x h3
 exact ⟨⟨v0, v1, v2, v3⟩, by rw [b50 g3]; rfl, ⟨k0, k1, k2, k3⟩⟩
theorem j3s {a : AV} (h : Mt (.sl [.i .i64, .i .i64, .i .i64, .b]) a) : ∃ l : List Literal, a = .fs 4 (l.map b27) /\ OkL b5e l := by
 obtain ⟨l, rfl, h1, h2⟩ := b7v b27 b5e h fun r hr => j9o hr
 exact ⟨l, rfl, h1, h2⟩
theorem j9n {r : List AV} (h : MtL [.sl [.i .i64, .i .i64, .i .i64, .b]] r) : ∃ x : List Literal, r = b0x x /\ OkL b5e x := by
 obtain ⟨a0, r0, rfl, h0, g0⟩ := b2x h
 obtain ⟨v0, rfl, k0⟩ := j3s h0
 exact ⟨v0, by rw [b50 g0]; rfl, k0⟩
theorem d1c {a : AV} (h : Mt (.sl [.sl [.i .i64, .i .i64, .i .i64, .b]]) a) : ∃ l : List (List Literal), a = .fs 1 (l.map b0x) /\ OkL (OkL b5e) l := by
 obtain ⟨l, rfl, h1, h2⟩ := b7v b0x (OkL b5e) h fun r hr => j9n hr
 exact ⟨l, rfl, h1, h2⟩
def c3k (x : Set) : Prop := b41 x.Kind /\ b41 x.Counter
theorem j9s {r : List AV} (h : MtL [.i .i64, .i .i64] r) : ∃ x : Set, r = b2j x /\ c3k x := by
 obtain ⟨a0, r0, rfl, h0, g0⟩ := b2x h
 obtain ⟨a1, r1, rfl, h1, g1⟩ := b2x g0
 obtain ⟨v0, rfl, k0⟩ := b5z h0
 obtain ⟨v1, rfl, k1⟩ := b5z h1
 exact ⟨⟨v0, v1⟩, by rw [b50 g1]; rfl, ⟨k0, k1⟩⟩
theorem j3u {a : AV} (h : Mt (.sl [.i .i64, .i .i64]) a) : ∃ l : List Set, a = .fs 2 (l.map b2j) /\ OkL c3k l := by
 obtain ⟨l, rfl, h1, h2⟩ := b7v b2j c3k h fun r hr => j9s hr
 exact ⟨l, rfl, h1, h2⟩
def c3j (x : Rule) : Prop := b41 x.From /\ b41 x.To /\ OkL (OkL b5e) x.When /\ OkL c3k x.Sets
theorem j9q {r : List AV} (h : MtL [.i .i64, .i .i64, .sl [.sl [.i .i64, .i .i64, .i .i64, .b]], .sl [.i .i64, .i .i64]] r) : ∃ x : Rule, r = b0i x /\ c3j x := by
 obtain ⟨a0, r0, rfl, h0, g0⟩ := b2x h
 obtain ⟨a1, r1, rfl, h1, g1⟩ := b2x g0
 obtain ⟨a2, r2, rfl, h2, g2⟩ := b2x g1
 obtain ⟨a3, r3, rfl, h3, g3⟩ := b2x g2
 obtain ⟨v0, rfl, k0⟩ := b5z h0
 obtain ⟨v1, rfl, k1⟩ := b5z h1
 obtain ⟨v2, rfl, k2⟩ := d1c h2
 obtain ⟨v3, rfl, k3⟩ := j3u h3
 exact ⟨⟨v0, v1, v2, v3⟩, by rw [b50 g3]; rfl, ⟨k0, k1, k2, k3⟩⟩
theorem j3t {a : AV} (h : Mt (.sl [.i .i64, .i .i64, .sl [.sl [.i .i64, .i .i64, .i .i64, .b]], .sl [.i .i64, .i .i64]]) a) : ∃ l : List Rule, a = .fs 4 (l.map b0i) /\ OkL c3j l := by
 obtain ⟨l, rfl, h1, h2⟩ := b7v b0i c3j h fun r hr => j9q hr
 exact ⟨l, rfl, h1, h2⟩
def b8g (x : Machine) : Prop := OkL b7d x.Inputs /\ OkL b7d x.Outputs /\ OkL c3i x.Counters /\ OkL c3l x.States /\ OkL c3j x.Rules
def g5k (x : Machine) : List AV := [.fs 1 (List.map eS x.Inputs), .fs 1 (List.map eS x.Outputs), .fs 2 (List.map b0l x.Counters), .fs 2 (List.map b0m x.States), .fs 4 (List.map b0i x.Rules)]
theorem j9p {r : List AV} (h : MtL [.sl [.s], .sl [.s], .sl [.s, .i .i64], .sl [.s, .i .i64], .sl [.i .i64, .i .i64, .sl [.sl [.i .i64, .i .i64, .i .i64, .b]], .sl [.i .i64, .i .i64]]] r) : ∃ x : Machine, r = g5k x /\ b8g x := by
 obtain ⟨a0, r0, rfl, h0, g0⟩ := b2x h
 obtain ⟨a1, r1, rfl, h1, g1⟩ := b2x g0
 obtain ⟨a2, r2, rfl, h2, g2⟩ := b2x g1
 obtain ⟨a3, r3, rfl, h3, g3⟩ := b2x g2
 obtain ⟨a4, r4, rfl, h4, g4⟩ := b2x g3
 obtain ⟨v0, rfl, k0⟩ := d74 h0
 obtain ⟨v1, rfl, k1⟩ := d74 h1
 obtain ⟨v2, rfl, k2⟩ := j3r h2
 obtain ⟨v3, rfl, k3⟩ := j3v h3
 obtain ⟨v4, rfl, k4⟩ := j3t h4
 exact ⟨⟨v0, v1, v2, v3, v4⟩, by rw [b50 g4]; rfl, ⟨k0, k1, k2, k3, k4⟩⟩
abbrev d12 : List Sh := [.sl [.s], .sl [.s], .sl [.s, .i .i64], .sl [.s, .i .i64], .sl [.i .i64, .i .i64, .sl [.sl [.i .i64, .i .i64, .i .i64, .b]], .sl [.i .i64, .i .i64]]]
theorem l03 {a : AV} (h : MtA (.agg d12) a) : ∃ x : Machine, a = .agg [.fs 1 (List.map eS x.Inputs), .fs 1 (List.map eS x.Outputs), .fs 2 (List.map b0l x.Counters), .fs 2 (List.map b0m x.States), .fs 4 (List.map b0i x.Rules)] /\ b8g x := by
 obtain ⟨r, rfl, hr⟩ := d75 h
 obtain ⟨x, rfl, hx⟩ := j9p hr
 exact ⟨x, rfl, hx⟩
def c3m (x : l04_Conds) : Prop := OkL (OkL b5e) x.Assume /\ OkL (OkL b5e) x.Never
def g57 (x : l04_Conds) : List AV := [.fs 1 (List.map b0x x.Assume), .fs 1 (List.map b0x x.Never)]
theorem j9u {r : List AV} (h : MtL [.sl [.sl [.i .i64, .i .i64, .i .i64, .b]], .sl [.sl [.i .i64, .i .i64, .i .i64, .b]]] r) : ∃ x : l04_Conds, r = g57 x /\ c3m x := by
 obtain ⟨a0, r0, rfl, h0, g0⟩ := b2x h
 obtain ⟨a1, r1, rfl, h1, g1⟩ := b2x g0
 obtain ⟨v0, rfl, k0⟩ := d1c h0
 obtain ⟨v1, rfl, k1⟩ := d1c h1
 exact ⟨⟨v0, v1⟩, by rw [b50 g1]; rfl, ⟨k0, k1⟩⟩
abbrev d13 : List Sh := [.sl [.sl [.i .i64, .i .i64, .i .i64, .b]], .sl [.sl [.i .i64, .i .i64, .i .i64, .b]]]
theorem l04 {a : AV} (h : MtA (.agg d13) a) : ∃ x : l04_Conds, a = .agg [.fs 1 (List.map b0x x.Assume), .fs 1 (List.map b0x x.Never)] /\ c3m x := by
 obtain ⟨r, rfl, hr⟩ := d75 h
 obtain ⟨x, rfl, hx⟩ := j9u hr
 exact ⟨x, rfl, hx⟩
end Go.Nw.KM
