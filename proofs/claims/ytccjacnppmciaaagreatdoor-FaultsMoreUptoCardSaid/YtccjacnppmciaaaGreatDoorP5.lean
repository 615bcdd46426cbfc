/- Plain laws on the models. -/
import Derived.Test.YtccjacnppmciaaaGreatDoorAM
import Derived.Test.YtccjacnppmciaaaGreatDoorNwTypes
import Derived.Test.YtccjacnppmciaaaGreatDoorP4
import Derived.Test.YtccjacnppmciaaaGreatDoorP3
import Derived.Test.YtccjacnppmciaaaGreatDoorKH1
set_option linter.all false
namespace Go.Nw.AM
variable [Bd]
def c68 (x : ByteArray) : Prop := x.size <= Bd.B
theorem l4q {r : List AV} (h : MtL [.s] r) : ∃ x : ByteArray, r = eS x /\ c68 x := by
 obtain ⟨a0, r0, rfl, h0, g0⟩ := b3e h
 obtain ⟨v0, rfl, k0⟩ := d4c h0
 exact ⟨v0, by rw [b6o g0]; rfl, k0⟩
theorem g1x {a : AV} (h : Mt (.sl [.s]) a) : ∃ l : List ByteArray, a = .fs 1 (l.map eS) /\ OkL c68 l := by
 obtain ⟨l, rfl, h1, h2⟩ := b8q eS c68 h fun r hr => l4q hr
 exact ⟨l, rfl, h1, h2⟩
def r8n (x : Counter) : Prop := c68 x.Name /\ b5k x.Max
theorem l4l {r : List AV} (h : MtL [.s, .i .i64] r) : ∃ x : Counter, r = b0o x /\ r8n x := by
 obtain ⟨a0, r0, rfl, h0, g0⟩ := b3e h
 obtain ⟨a1, r1, rfl, h1, g1⟩ := b3e g0
 obtain ⟨v0, rfl, k0⟩ := d4c h0
 obtain ⟨v1, rfl, k1⟩ := b6n h1
 exact ⟨⟨v0, v1⟩, by rw [b6o g1]; rfl, ⟨k0, k1⟩⟩
theorem j8e {a : AV} (h : Mt (.sl [.s, .i .i64]) a) : ∃ l : List Counter, a = .fs 2 (l.map b0o) /\ OkL r8n l := by
 obtain ⟨l, rfl, h1, h2⟩ := b8q b0o r8n h fun r hr => l4l hr
 exact ⟨l, rfl, h1, h2⟩
def y9d (x : State) : Prop := c68 x.Name /\ b5k x.Shows
theorem l4s {r : List AV} (h : MtL [.s, .i .i64] r) : ∃ x : State, r = b0p x /\ y9d x := by
 obtain ⟨a0, r0, rfl, h0, g0⟩ := b3e h
 obtain ⟨a1, r1, rfl, h1, g1⟩ := b3e g0
 obtain ⟨v0, rfl, k0⟩ := d4c h0
 obtain ⟨v1, rfl, k1⟩ := b6n h1
 exact ⟨⟨v0, v1⟩, by rw [b6o g1]; rfl, ⟨k0, k1⟩⟩
theorem j8i {a : AV} (h : Mt (.sl [.s, .i .i64]) a) : ∃ l : List State, a = .fs 2 (l.map b0p) /\ OkL y9d l := by
 obtain ⟨l, rfl, h1, h2⟩ := b8q b0p y9d h fun r hr => l4s hr
 exact ⟨l, rfl, h1, h2⟩
def b5x (x : Literal) : Prop := b5k x.Kind /\ b5k x.Number /\ b5k x.Value /\ True
theorem l4n {r : List AV} (h : MtL [.i .i64, .i .i64, .i .i64, .b] r) : ∃ x : Literal, r = b3k x /\ b5x x := by
 obtain ⟨a0, r0, rfl, h0, g0⟩ := b3e h
 obtain ⟨a1, r1, rfl, h1, g1⟩ := b3e g0
 obtain ⟨a2, r2, rfl, h2, g2⟩ := b3e g1
 obtain ⟨a3, r3, rfl, h3, g3⟩ := b3e g2
 obtain ⟨v0, rfl, k0⟩ := b6n h0
 obtain ⟨v1, rfl, k1⟩ := b6n h1
 obtain ⟨v2, rfl, k2⟩ := b6n h2
 obtain ⟨v3, rfl, k3⟩ := j8k h3
 exact ⟨⟨v0, v1, v2, v3⟩, by rw [b6o g3]; rfl, ⟨k0, k1, k2, k3⟩⟩
theorem j8f {a : AV} (h : Mt (.sl [.i .i64, .i .i64, .i .i64, .b]) a) : ∃ l : List Literal, a = .fs 4 (l.map b3k) /\ OkL b5x l := by
 obtain ⟨l, rfl, h1, h2⟩ := b8q b3k b5x h fun r hr => l4n hr
 exact ⟨l, rfl, h1, h2⟩
theorem l4m {r : List AV} (h : MtL [.sl [.i .i64, .i .i64, .i .i64, .b]] r) : ∃ x : List Literal, r = b0t x /\ OkL b5x x := by
 obtain ⟨a0, r0, rfl, h0, g0⟩ := b3e h
 obtain ⟨v0, rfl, k0⟩ := j8f h0
 exact ⟨v0, by rw [b6o g0]; rfl, k0⟩
theorem d4b {a : AV} (h : Mt (.sl [.sl [.i .i64, .i .i64, .i .i64, .b]]) a) : ∃ l : List (List Literal), a = .fs 1 (l.map b0t) /\ OkL (OkL b5x) l := by
 obtain ⟨l, rfl, h1, h2⟩ := b8q b0t (OkL b5x) h fun r hr => l4m hr
 exact ⟨l, rfl, h1, h2⟩
def z15 (x : Set) : Prop := b5k x.Kind /\ b5k x.Counter
theorem l4r {r : List AV} (h : MtL [.i .i64, .i .i64] r) : ∃ x : Set, r = b2o x /\ z15 x := by
 obtain ⟨a0, r0, rfl, h0, g0⟩ := b3e h
 obtain ⟨a1, r1, rfl, h1, g1⟩ := b3e g0
 obtain ⟨v0, rfl, k0⟩ := b6n h0
 obtain ⟨v1, rfl, k1⟩ := b6n h1
 exact ⟨⟨v0, v1⟩, by rw [b6o g1]; rfl, ⟨k0, k1⟩⟩
theorem j8h {a : AV} (h : Mt (.sl [.i .i64, .i .i64]) a) : ∃ l : List Set, a = .fs 2 (l.map b2o) /\ OkL z15 l := by
 obtain ⟨l, rfl, h1, h2⟩ := b8q b2o z15 h fun r hr => l4r hr
 exact ⟨l, rfl, h1, h2⟩
def y9c (x : Rule) : Prop := b5k x.From /\ b5k x.To /\ OkL (OkL b5x) x.When /\ OkL z15 x.Sets
theorem l4p {r : List AV} (h : MtL [.i .i64, .i .i64, .sl [.sl [.i .i64, .i .i64, .i .i64, .b]], .sl [.i .i64, .i .i64]] r) : ∃ x : Rule, r = b0m x /\ y9c x := by
 obtain ⟨a0, r0, rfl, h0, g0⟩ := b3e h
 obtain ⟨a1, r1, rfl, h1, g1⟩ := b3e g0
 obtain ⟨a2, r2, rfl, h2, g2⟩ := b3e g1
 obtain ⟨a3, r3, rfl, h3, g3⟩ := b3e g2
 obtain ⟨v0, rfl, k0⟩ := b6n h0
 obtain ⟨v1, rfl, k1⟩ := b6n h1
 obtain ⟨v2, rfl, k2⟩ := d4b h2
 obtain ⟨v3, rfl, k3⟩ := j8h h3
 exact ⟨⟨v0, v1, v2, v3⟩, by rw [b6o g3]; rfl, ⟨k0, k1, k2, k3⟩⟩
theorem j8g {a : AV} (h : Mt (.sl [.i .i64, .i .i64, .sl [.sl [.i .i64, .i .i64, .i .i64, .b]], .sl [.i .i64, .i .i64]]) a) : ∃ l : List Rule, a = .fs 4 (l.map b0m) /\ OkL y9c l := by
 obtain ⟨l, rfl, h1, h2⟩ := b8q b0m y9c h fun r hr => l4p hr
 exact ⟨l, rfl, h1, h2⟩
def b9d (x : Machine) : Prop := OkL c68 x.Inputs /\ OkL c68 x.Outputs /\ OkL r8n x.Counters /\ OkL y9d x.States /\ OkL y9c x.Rules
def u1r (x : Record) : Prop := b5k x.From /\ b5k x.To /\ True /\ OkL (OkL b5x) x.Cond
theorem u9e {r : List AV} (h : MtL [.i .i64, .i .i64, .b, .sl [.sl [.i .i64, .i .i64, .i .i64, .b]]] r) : ∃ x : Record, r = c26 x /\ u1r x := by
 obtain ⟨a0, r0, rfl, h0, g0⟩ := b3e h
 obtain ⟨a1, r1, rfl, h1, g1⟩ := b3e g0
 obtain ⟨a2, r2, rfl, h2, g2⟩ := b3e g1
 obtain ⟨a3, r3, rfl, h3, g3⟩ := b3e g2
 obtain ⟨v0, rfl, k0⟩ := b6n h0
 obtain ⟨v1, rfl, k1⟩ := b6n h1
 obtain ⟨v2, rfl, k2⟩ := j8k h2
 obtain ⟨v3, rfl, k3⟩ := d4b h3
 exact ⟨⟨v0, v1, v2, v3⟩, by rw [b6o g3]; rfl, ⟨k0, k1, k2, k3⟩⟩
theorem u84 {a : AV} (h : Mt (.sl [.i .i64, .i .i64, .b, .sl [.sl [.i .i64, .i .i64, .i .i64, .b]]]) a) : ∃ l : List Record, a = .fs 4 (l.map c26) /\ OkL u1r l := by
 obtain ⟨l, rfl, h1, h2⟩ := b8q c26 u1r h fun r hr => u9e hr
 exact ⟨l, rfl, h1, h2⟩
def s9d (x : Accident) : Prop := b9d x.Machine /\ OkL (OkL b5x) x.Assume /\ b5k x.Ticks /\ OkL u1r x.Records
def u7i (x : Accident) : List AV := [.fs 1 (List.map eS x.Machine.Inputs), .fs 1 (List.map eS x.Machine.Outputs), .fs 2 (List.map b0o x.Machine.Counters), .fs 2 (List.map b0p x.Machine.States), .fs 4 (List.map b0m x.Machine.Rules), .fs 1 (List.map b0t x.Assume), I x.Ticks, .fs 4 (List.map c26 x.Records)]
theorem u9d {r : List AV} (h : MtL [.sl [.s], .sl [.s], .sl [.s, .i .i64], .sl [.s, .i .i64], .sl [.i .i64, .i .i64, .sl [.sl [.i .i64, .i .i64, .i .i64, .b]], .sl [.i .i64, .i .i64]], .sl [.sl [.i .i64, .i .i64, .i .i64, .b]], .i .i64, .sl [.i .i64, .i .i64, .b, .sl [.sl [.i .i64, .i .i64, .i .i64, .b]]]] r) : ∃ x : Accident, r = u7i x /\ s9d x := by
 obtain ⟨a0, r0, rfl, h0, g0⟩ := b3e h
 obtain ⟨a1, r1, rfl, h1, g1⟩ := b3e g0
 obtain ⟨a2, r2, rfl, h2, g2⟩ := b3e g1
 obtain ⟨a3, r3, rfl, h3, g3⟩ := b3e g2
 obtain ⟨a4, r4, rfl, h4, g4⟩ := b3e g3
 obtain ⟨a5, r5, rfl, h5, g5⟩ := b3e g4
 obtain ⟨a6, r6, rfl, h6, g6⟩ := b3e g5
 obtain ⟨a7, r7, rfl, h7, g7⟩ := b3e g6
 obtain ⟨v0, rfl, k0⟩ := g1x h0
 obtain ⟨v1, rfl, k1⟩ := g1x h1
 obtain ⟨v2, rfl, k2⟩ := j8e h2
 obtain ⟨v3, rfl, k3⟩ := j8i h3
 obtain ⟨v4, rfl, k4⟩ := j8g h4
 obtain ⟨v5, rfl, k5⟩ := d4b h5
 obtain ⟨v6, rfl, k6⟩ := b6n h6
 obtain ⟨v7, rfl, k7⟩ := u84 h7
 exact ⟨⟨⟨v0, v1, v2, v3, v4⟩, v5, v6, v7⟩, by rw [b6o g7]; rfl, ⟨⟨k0, k1, k2, k3, k4⟩, k5, k6, k7⟩⟩
abbrev u4b : List Sh := [.sl [.s], .sl [.s], .sl [.s, .i .i64], .sl [.s, .i .i64], .sl [.i .i64, .i .i64, .sl [.sl [.i .i64, .i .i64, .i .i64, .b]], .sl [.i .i64, .i .i64]], .sl [.sl [.i .i64, .i .i64, .i .i64, .b]], .i .i64, .sl [.i .i64, .i .i64, .b, .sl [.sl [.i .i64, .i .i64, .i .i64, .b]]]]
theorem u9s {a : AV} (h : MtA (.agg u4b) a) : ∃ x : Accident, a = .agg [.fs 1 (List.map eS x.Machine.Inputs), .fs 1 (List.map eS x.Machine.Outputs), .fs 2 (List.map b0o x.Machine.Counters), .fs 2 (List.map b0p x.Machine.States), .fs 4 (List.map b0m x.Machine.Rules), .fs 1 (List.map b0t x.Assume), I x.Ticks, .fs 4 (List.map c26 x.Records)] /\ s9d x := by
 obtain ⟨r, rfl, hr⟩ := g1y h
 obtain ⟨x, rfl, hx⟩ := u9d hr
 exact ⟨x, rfl, hx⟩
def u1s (x : Theory) : Prop := b5k x.Input /\ b5k x.Value /\ b5k x.From
theorem p33 {a : AV} (h : Mt (.sl [.i .i64]) a) : ∃ l : List Int, a = .fs 1 (l.map eI) /\ OkL b5k l := by
 obtain ⟨l, rfl, h1, h2⟩ := b8q eI b5k h fun r hr => p36 hr
 exact ⟨l, rfl, h1, h2⟩
def z28 (x : l10_Past) : Prop := u1s x.Theory /\ OkL b5k x.Inputs
def z16 (x : l10_Further) : Prop := u1r x.Record /\ z28 x.Past /\ OkL (OkL b5x) x.Cond /\ b5k x.Tick
def z3f (x : l10_Further) : List AV := [I x.Record.From, I x.Record.To, B x.Record.All, .fs 1 (List.map b0t x.Record.Cond), I x.Past.Theory.Input, I x.Past.Theory.Value, I x.Past.Theory.From, .fs 1 (List.map eI x.Past.Inputs), .fs 1 (List.map b0t x.Cond), I x.Tick]
theorem z3u {r : List AV} (h : MtL [.i .i64, .i .i64, .b, .sl [.sl [.i .i64, .i .i64, .i .i64, .b]], .i .i64, .i .i64, .i .i64, .sl [.i .i64], .sl [.sl [.i .i64, .i .i64, .i .i64, .b]], .i .i64] r) : ∃ x : l10_Further, r = z3f x /\ z16 x := by
 obtain ⟨a0, r0, rfl, h0, g0⟩ := b3e h
 obtain ⟨a1, r1, rfl, h1, g1⟩ := b3e g0
 obtain ⟨a2, r2, rfl, h2, g2⟩ := b3e g1
 obtain ⟨a3, r3, rfl, h3, g3⟩ := b3e g2
 obtain ⟨a4, r4, rfl, h4, g4⟩ := b3e g3
 obtain ⟨a5, r5, rfl, h5, g5⟩ := b3e g4
 obtain ⟨a6, r6, rfl, h6, g6⟩ := b3e g5
 obtain ⟨a7, r7, rfl, h7, g7⟩ := b3e g6
 obtain ⟨a8, r8, rfl, h8, g8⟩ := b3e g7
 obtain ⟨a9, r9, rfl, h9, g9⟩ := b3e g8
 obtain ⟨v0, rfl, k0⟩ := b6n h0
 obtain ⟨v1, rfl, k1⟩ := b6n h1
 obtain ⟨v2, rfl, k2⟩ := j8k h2
 obtain ⟨v3, rfl, k3⟩ := d4b h3
 obtain ⟨v4, rfl, k4⟩ := b6n h4
 obtain ⟨v5, rfl, k5⟩ := b6n h5
 obtain ⟨v6, rfl, k6⟩ := b6n h6
 obtain ⟨v7, rfl, k7⟩ := p33 h7
 obtain ⟨v8, rfl, k8⟩ := d4b h8
 obtain ⟨v9, rfl, k9⟩ := b6n h9
 exact ⟨⟨⟨v0, v1, v2, v3⟩, ⟨⟨v4, v5, v6⟩, v7⟩, v8, v9⟩, by rw [b6o g9]; rfl, ⟨⟨k0, k1, k2, k3⟩, ⟨⟨k4, k5, k6⟩, k7⟩, k8, k9⟩⟩
abbrev z2r : List Sh := [.i .i64, .i .i64, .b, .sl [.sl [.i .i64, .i .i64, .i .i64, .b]], .i .i64, .i .i64, .i .i64, .sl [.i .i64], .sl [.sl [.i .i64, .i .i64, .i .i64, .b]], .i .i64]
theorem z3v {a : AV} (h : MtA (.agg z2r) a) : ∃ x : l10_Further, a = .agg [I x.Record.From, I x.Record.To, B x.Record.All, .fs 1 (List.map b0t x.Record.Cond), I x.Past.Theory.Input, I x.Past.Theory.Value, I x.Past.Theory.From, .fs 1 (List.map eI x.Past.Inputs), .fs 1 (List.map b0t x.Cond), I x.Tick] /\ z16 x := by
 obtain ⟨r, rfl, hr⟩ := g1y h
 obtain ⟨x, rfl, hx⟩ := z3u hr
 exact ⟨x, rfl, hx⟩
end Go.Nw.AM
namespace Go.Nw.AM
noncomputable section
theorem u4a {a : Accident} {th : Theory} (ha : OkA a) (hth : OkT a th) : (∃ w, Lst (l18 a th (fun _ => true) ftT) w /\ u0k a th = some (toI w, true)) \/ ((∀ w, ¬ l18 a th (fun _ => true) ftT w) /\ u0k a th = some ([], false)) :=
 u9k (keep := fun _ => true) (ft := ftT) ha hth (fun _ _ => rfl) (fun _ _ _ _ _ _ => rfl)
theorem u88 {a : Accident} {th : Theory} (hs : Small a) (hth : OkT a th) : ∃ b, (s8s a).bind (fun y => z12 a th y) = some b /\ (b = true ↔ ∃ w, l18 a th (fun _ => true) ftT w) := by
 have hn8 := hs.ok.n
 rw [u35 (by omega), bS9]
 obtain ⟨b, h1, h2⟩ := u89 (l := List.range a.Records.length) hs hth (fun i hi => List.mem_range.1 hi) (by rw [List.length_range]; exact hn8)
 refine ⟨b, h1, h2.trans ?_⟩
 exact ⟨fun ⟨w, hw⟩ => ⟨w, (u3c fun i hi => u3w hi).1 hw⟩, fun ⟨w, hw⟩ => ⟨w, (u3c fun i hi => u3w hi).2 hw⟩⟩
section
variable {a : Accident} {th : Theory} (hf : ∀ n ∈ b3g a.Machine, n.size <= maxLen) (hn : a.Records.length <= 10) (hs : b40 a ≠ 0 \/ Small a)
include hf hn hs
theorem u6i : ∃ r, u0g a th = some r /\ u05 a th = some r /\ ((b32 a th ≠ 0 /\ r = (false, b32 a th)) \/ (Small a /\ OkT a th /\ r.2 = 0 /\ (r.1 = true ↔ ∃ w, l18 a th (fun _ => true) ftT w))) := by
 unfold u0g u05
 rw [u23 hf hn, u24 hf hn, bS9, bS9]
 by_cases he : b32 a th = 0
 case neg => rw [if_pos (by simpa using he), if_pos (by simpa using he)]; exact ⟨_, rfl, rfl, .inl ⟨he, rfl⟩⟩
 rw [if_neg (by simp [he]), if_neg (by simp [he])]
 obtain ⟨ha, hth⟩ := u27.1 he
 have hs' : Small a := by
  rcases hs with h | h
  ·exact absurd (u1v.2 ha) h
  ·exact h
 obtain ⟨b, h1, h2⟩ := u88 hs' hth
 have h1' : ((s8s a).bind fun y7 => (z12 a th y7).bind fun y8 => some (y8, (0 : Int))) = some (b, 0) := by
  obtain ⟨y, hy, hb⟩ := bE9.1 h1
  rw [hy, bS9, hb, bS9]
 rw [h1']
 rcases u4a ha hth with ⟨w, hw, h3⟩ | ⟨hw, h3⟩
 ·have : b = true := h2.2 ⟨w, hw.1⟩
  subst this
  rw [h3, bS9]
  exact ⟨_, rfl, rfl, .inr ⟨hs', hth, rfl, h2⟩⟩
 ·have : b = false := by
   cases b with
   | false => rfl
   | true => obtain ⟨w, h⟩ := h2.1 rfl; exact absurd h (hw w)
  subst this
  rw [h3, bS9]
  exact ⟨_, rfl, rfl, .inr ⟨hs', hth, rfl, h2⟩⟩
end
section
variable [Bd]
theorem d5j {c : List (List Literal)} (hB : Bd.B <= 1048576) (h : OkL (OkL b5x) c) : d02 c := ⟨Nat.le_trans h.1 hB, fun t ht => Nat.le_trans (h.2 t ht).1 hB⟩
theorem l5y {m : Machine} (h : b9d m) : ∀ n ∈ b3g m, n.size <= maxLen := by
 obtain ⟨h1, h2, h3, h4, h5⟩ := h
 intro n hn
 have hB := Bd.le
 simp only [b3g, List.mem_append, List.mem_map] at hn
 rcases hn with ((hn | hn) | ⟨c, hc, rfl⟩) | ⟨c, hc, rfl⟩
 ·exact Nat.le_trans (h1.2 n hn) hB
 ·exact Nat.le_trans (h2.2 n hn) hB
 ·exact Nat.le_trans (h3.2 c hc).1 hB
 ·exact Nat.le_trans (h4.2 c hc).1 hB
theorem tdm {m : Machine} (hB : Bd.B <= 1048576) (h : b9d m) : FewM m := by
 have hn := l5y h
 obtain ⟨h1, h2, h3, h4, h5⟩ := h
 exact ⟨Nat.le_trans h1.1 hB, Nat.le_trans h2.1 hB, Nat.le_trans h3.1 hB, Nat.le_trans h4.1 hB, Nat.le_trans h5.1 hB, fun r hr => ⟨d5j hB (h5.2 r hr).2.2.1, Nat.le_trans (h5.2 r hr).2.2.2.1 hB⟩, hn⟩
theorem tda {a : Accident} (hB : Bd.B <= 1048576) (h : s9d a) : FewA a := by
 obtain ⟨h1, h2, h3, h4⟩ := h
 exact ⟨tdm hB h1, d5j hB h2, fun r hr => d5j hB (h4.2 r hr).2.2.2⟩
theorem u9q {a : Accident} (h : s9d a) : ∀ n ∈ b3g a.Machine, n.size <= maxLen := l5y h.1
end
end
end Go.Nw.AM
namespace Go.Nw
theorem x55 {π : Type} {st : Nat -> π -> Nat -> π} : ∀ {w : List Nat} {t0 k x : Nat} {p : π}, w[k]? = some x -> pat st t0 p w (k + 1) = st (t0 + k) (pat st t0 p w k) x
 | [], t0, k, x, p, h => by simp at h
 | y :: ys, t0, 0, x, p, h => by
  simp only [List.getElem?_cons_zero, iE9] at h
  subst h
  cases ys <;> rfl
 | y :: ys, t0, k + 1, x, p, h => by
  simp only [List.getElem?_cons_succ] at h
  show pat st (t0 + 1) (st t0 p y) ys (k + 1) = st (t0 + (k + 1)) (pat st (t0 + 1) (st t0 p y) ys k) x
  rw [x55 h, show t0 + 1 + k = t0 + (k + 1) by omega]
end Go.Nw
namespace Go.Nw.AM
noncomputable section
section
variable {a : Accident} {th : Theory} {l : List Nat} {want : Nat}
theorem x56 : ∀ (w : List Nat) (t0 : Nat) (s0 : Place × Nat) (k x : Nat), Rch a th l t0 s0 -> AcD a th l want w (t0, s0) -> t0 + w.length = tA a -> w[k]? = some x ->
  ∃ s, Rch a th l (t0 + k) s /\ s.1 = pat (stA a th) t0 s0.1 w k /\ x < nA a /\ ∃ m', TD a th l (t0 + k, s) x = some m' /\ b64 a th l want m'
 | [], t0, s0, k, x, hR, hA, hlen, h => by simp at h
 | y :: ys, t0, s0, k, x, hR, hA, hlen, h => by
  rw [List.length_cons] at hlen
  obtain ⟨h1, m', h2, h3⟩ := (u1t (by show t0 < tA a; omega)).1 hA
  cases k with
  | zero =>
   simp only [List.getElem?_cons_zero, iE9] at h
   subst h
   exact ⟨s0, hR, by cases ys <;> rfl, h1, m', h2, ys, h3⟩
  | succ k =>
   simp only [List.getElem?_cons_succ] at h
   obtain ⟨D', _, _, e⟩ := u1f h2
   subst e
   obtain ⟨s, g1, g2, g3, g4⟩ := x56 ys (t0 + 1) _ k x ⟨s0, hR, y, h1, h2⟩ h3 (by omega) h
   rw [show t0 + 1 + k = t0 + (k + 1) by omega] at g1 g4
   exact ⟨s, g1, g2, g3, g4⟩
def x40 (a : Accident) (c : List (List Literal)) (tick : Nat) (t : Nat) (p : Place) (x : Nat) : Bool := decide (t ≠ tick) || !b46 a.Machine p (x : Int) c
theorem x53 {keep : Nat -> Bool} {c : List (List Literal)} {tick : Nat} {w : List Nat} : l18 a th keep (x40 a c tick) w ↔ l18 a th keep ftT w /\ ∀ x, w[tick]? = some x -> b46 a.Machine (pat (stA a th) 0 zero w tick) (x : Int) c = false := by
 unfold l18 l27
 rw [x5o, x5o]
 constructor
 ·rintro ⟨h1, h2, h3⟩
  refine ⟨⟨h1, fun k x hk => ?_, h3⟩, fun x hx => ?_⟩
  ·obtain ⟨g1, g2⟩ := h2 k x hk
   unfold okA at g2 ⊢
   rw [Bool.and_eq_true] at g2
   exact ⟨g1, by simp [g2.1, ftT]⟩
  ·obtain ⟨g1, g2⟩ := h2 tick x hx
   unfold okA x40 at g2
   rw [Nat.zero_add] at g2
   simpa using (Bool.and_eq_true_iff.1 g2).2
 ·rintro ⟨⟨h1, h2, h3⟩, h4⟩
  refine ⟨h1, fun k x hk => ?_, h3⟩
  obtain ⟨g1, g2⟩ := h2 k x hk
  unfold okA at g2 ⊢
  rw [Bool.and_eq_true] at g2
  refine ⟨g1, ?_⟩
  rw [g2.1, Bool.true_and, Nat.zero_add]
  unfold x40
  by_cases e : k = tick
  ·subst e; rw [h4 x hk]; simp
  ·simp [e]
def Bad (a : Accident) (th : Theory) (c : List (List Literal)) (tick : Nat) : Prop := ∃ w, l18 a th (fun _ => true) (x40 a c tick) w
theorem x60 (ha : OkA a) (hth : OkT a th) {c : List (List Literal)} (hc : b2s a.Machine true c) (tick : Nat) :
  ∃ r, x5q a th (fun z25 z26 z27 => v11 z25 z26 z27 (tick : Int) (situation_Plant.mk a.Machine) c) = some r /\ (r.2 = true ↔ Bad a th c tick) := by
 rcases u9k (keep := fun _ => true) (ft := x40 a c tick) (kp := fun _ => some true) (fp := fun z25 z26 z27 => v11 z25 z26 z27 (tick : Int) (situation_Plant.mk a.Machine) c) ha hth (fun _ _ => rfl) (fun t p x ht hp hx => by
   unfold v11 x40
   by_cases e : t = tick
   ·subst e
    rw [if_neg (by simp), c5w ha.m.z hp.s hc]
    simp
   ·rw [if_pos (by simp; omega)]
    simp [e]) with ⟨w, h1, h2⟩ | ⟨h1, h2⟩
 ·exact ⟨_, h2, fun _ => ⟨w, h1.1⟩, fun _ => rfl⟩
 ·exact ⟨_, h2, (fun h => by cases h), fun ⟨w, h⟩ => absurd h (h1 w)⟩
variable (hs : Small a) (hth : OkT a th)
include hs hth
end
section
variable {a : Accident} (hf : ∀ n ∈ b3g a.Machine, n.size <= maxLen) (hn : a.Records.length <= 10) (hs : b40 a ≠ 0 \/ Small a)
include hf hn hs
end
section
variable [Bd]
end
end
end Go.Nw.AM
namespace Go.Nw
section
variable {π : Type} {From To : Nat -> Nat} {Al keep : Nat -> Bool} {hold : Nat -> π -> Nat -> Bool} {st st' : Nat -> π -> Nat -> π} {ok : Nat -> π -> Nat -> Bool} {N T n : Nat}
end
end Go.Nw
namespace Go.Nw.AM
noncomputable section
section
variable {a : Accident} {th : Theory} (hf : ∀ n ∈ b3g a.Machine, n.size <= maxLen) (ha : OkA a) (hth : OkT a th)
include hf ha hth
theorem x9g {c : List (List Literal)} (hc : b2s a.Machine true c) {tick : Nat} (ht : tick < tA a) : ∃ b, x43 a [th] c (tick : Int) = some (b, 0) /\ (b = true ↔ ¬ Bad a th c tick) := by
 have hn8 := ha.n
 have hT := s9b ha
 have h40 := ha.t
 unfold x43
 rw [u6k hf (by omega), bS9, u1v.2 ha, if_neg (by simp)]
 obtain ⟨b, h1, h2⟩ := d5p ha.m.z c
 have hb : b = true := h2.2 hc
 subst hb
 rw [h1, bS9, if_neg (by simp)]
 have A : b0w (y62 a [th]) 0 = some (.inl ()) := by
  rcases b4j (f := y62 a [th]) (l := [th]) (p := fun _ x => ¬ OkT a x) (e := .inr (false, 1)) (u := .inl ()) (by simp [maxLen]) (fun k x hx => by
    refine ⟨!l59 a x, ?_, by unfold OkT; simp⟩
    unfold y62
    simp only [b1h hx, bS9, Int.ofNat_lt, b1k hx, decide_true, if_true, u9r]
    by_cases h : l59 a x = true <;> simp [h]) (by unfold y62; simp) with ⟨q1, q2⟩ | ⟨⟨k, x, q1, q2⟩, q3⟩
  ·exact q2
  ·have := mG9 q1
   rw [List.mem_singleton.1 this] at q2
   exact absurd hth q2
 rw [A, bS9]
 simp only
 unfold x5g
 have hw : c19 (tick : Int) 0 (wr (a.Ticks - 1)) = true := by
  rw [b3t (by omega) (by omega)]; unfold c19; simp; omega
 rw [hw, if_neg (by simp)]
 rcases b4j (f := x48 a [th] c (tick : Int)) (l := [th]) (p := fun _ x => Bad a x c tick) (e := .inr (false, 0)) (u := .inl ()) (by simp [maxLen]) (fun k x hx => by
   have hx' : x = th := List.mem_singleton.1 (mG9 hx)
   obtain ⟨r, g1, g2⟩ := x60 ha (by rw [hx']; exact hth : OkT a x) hc tick
   refine ⟨r.2, ?_, g2⟩
   unfold x48
   simp only [b1h hx, bS9, Int.ofNat_lt, b1k hx, decide_true, if_true, g1]) (by unfold x48; simp) with ⟨q1, q2⟩ | ⟨⟨k, x, q1, q2⟩, q3⟩
 ·rw [q2]
  exact ⟨true, rfl, fun _ => q1 0 th rfl, fun _ => rfl⟩
 ·rw [q3]
  have hx' : x = th := List.mem_singleton.1 (mG9 q1)
  subst hx'
  exact ⟨false, rfl, (fun h => by cases h), fun h => absurd q2 h⟩
end
end
end Go.Nw.AM
namespace Go.Nw.AM
noncomputable section
theorem o8t {m : Machine} {p : Place} : OkP m p ↔ In p.State m.States.length /\ b5q 2 (fun k => !(b2q (if (k : Int) = 0 then p.Values.1 else p.Values.2) 0 (b56 m k))) = none := by
 rw [d72]
 constructor
 ·intro h
  refine ⟨h.s, fun t ht => ?_⟩
  have : t = 0 \/ t = 1 := by omega
  rcases this with rfl | rfl
  ·have := b6t.2 h.a; simp [this]
  ·have := b6t.2 h.b; simp [this]
 ·rintro ⟨h1, h2⟩
  have h3 := h2 0 (by omega)
  have h4 := h2 1 (by omega)
  simp only [Bool.not_eq_false', Int.natCast_zero, if_true, b6t] at h3
  simp only [Bool.not_eq_false', show ¬ ((1 : Nat) : Int) = 0 by decide, if_false, b6t] at h4
  exact ⟨h1, h3, h4⟩
theorem o8q {m : Machine} (hm : OkM m) {p : Place} : ∃ b, b2q p.State 0 (wr ((List.length m.States : Int) - 1)) = b /\ (b = true ↔ In p.State m.States.length) := by
 have := hm.z.s
 rw [c1n (b1o (by omega))]
 refine ⟨_, rfl, ?_⟩
 rw [b6t]
 unfold In
 omega
theorem o8s {m : Machine} {k : Nat} : (k < m.Counters.length /\ ∃ c, get m.Counters k = some c /\ c.Max = b56 m k) \/ (¬ k < m.Counters.length /\ b56 m k = 0) := by
 by_cases h : k < m.Counters.length
 ·obtain ⟨c, hc⟩ := b3b h
  exact .inl ⟨h, c, b1h hc, by unfold b56; rw [hc]⟩
 ·exact .inr ⟨h, by unfold b56; rw [List.getElem?_eq_none (by omega)]⟩
theorem o8o {m : Machine} (hm : OkM m) (p : Place) : ∃ b, o7s ⟨m⟩ p = some b /\ (b = true ↔ OkP m p) := by
 unfold o7s o73
 have step : ∀ k : Nat, k < 2 -> o7t ⟨m⟩ p k = (if (!(b2q (if (k : Int) = 0 then p.Values.1 else p.Values.2) 0 (b56 m k))) = true then some (.br (.inr false)) else some (.nx ((k : Int) + 1))) := fun k hk => by
  have h2 : (k : Int) < 2 := by omega
  unfold o7t o7u
  simp only [h2, decide_true, if_true, c2x (show In (k : Int) 2 from ⟨by omega, by omega⟩), bS9, Int.ofNat_lt]
  rcases o8s (m := m) (k := k) with ⟨h3, c, h4, h5⟩ | ⟨h3, h4⟩
  ·simp only [h3, decide_true, if_true, h4, bS9, h5, b2r hk (show 2 <= maxLen by decide)]
  ·simp only [h3, decide_false, fT9, if_false, h4, b2r hk (show 2 <= maxLen by decide)]
 rw [c7s (f := o7t ⟨m⟩ p) (n := 2) (p := fun k => !(b2q (if (k : Int) = 0 then p.Values.1 else p.Values.2) 0 (b56 m k))) (e := fun _ => .inr false) (u := .inl ()) (fun t ht hp => by rw [step t ht, if_pos hp]) (fun t ht hp => by rw [step t ht, if_neg (by rw [hp]; simp)]) (by rfl), o8t]
 obtain ⟨b, h1, h2⟩ := o8q hm (p := p)
 cases b5q 2 (fun k => !(b2q (if (k : Int) = 0 then p.Values.1 else p.Values.2) 0 (b56 m k))) with
 | none => exact ⟨b, by simp only [bS9, h1], by rw [h2]; simp⟩
 | some t => exact ⟨false, rfl, by simp⟩
theorem o83 {m : Machine} (hm : OkM m) (p : Place) : ∃ b, o7y m p = some b /\ (b = true ↔ OkP m p) := by
 unfold o7y o77
 have step : ∀ k : Nat, k < 2 -> o7z m p k = (if (!(b2q (if (k : Int) = 0 then p.Values.1 else p.Values.2) 0 (b56 m k))) = true then some (.br (.inr false)) else some (.nx ((k : Int) + 1))) := fun k hk => by
  have h2 : (k : Int) < 2 := by omega
  have e : ∀ x y : Int, b2b x 0 y = b2q x 0 y := fun x y => by rw [Bool.eq_iff_iff, b6g, b6t]
  unfold o7z o70
  simp only [h2, decide_true, if_true, c2x (show In (k : Int) 2 from ⟨by omega, by omega⟩), bS9, Int.ofNat_lt, e]
  rcases o8s (m := m) (k := k) with ⟨h3, c, h4, h5⟩ | ⟨h3, h4⟩
  ·simp only [h3, decide_true, if_true, h4, bS9, h5, b2r hk (show 2 <= maxLen by decide)]
  ·simp only [h3, decide_false, fT9, if_false, h4, b2r hk (show 2 <= maxLen by decide)]
 rw [c7s (f := o7z m p) (n := 2) (p := fun k => !(b2q (if (k : Int) = 0 then p.Values.1 else p.Values.2) 0 (b56 m k))) (e := fun _ => .inr false) (u := .inl ()) (fun t ht hp => by rw [step t ht, if_pos hp]) (fun t ht hp => by rw [step t ht, if_neg (by rw [hp]; simp)]) (by rfl), o8t]
 obtain ⟨b, h1, h2⟩ := o8q hm (p := p)
 have e : b2b p.State 0 (wr ((List.length m.States : Int) - 1)) = b := by rw [<- h1, Bool.eq_iff_iff, b6g, b6t]
 rw [e]
 cases b with
 | false => exact ⟨false, rfl, by rw [<- h2]; simp⟩
 | true =>
  rw [if_neg (by simp), <- h2]
  cases b5q 2 (fun k => !(b2q (if (k : Int) = 0 then p.Values.1 else p.Values.2) 0 (b56 m k))) with
  | none => exact ⟨true, rfl, by simp⟩
  | some t => exact ⟨false, rfl, by simp⟩
theorem o82 {m : Machine} (hs : SizesOk m) : c1y ⟨m⟩ = some ((2 ^ m.Inputs.length : Nat) : Int) := by
 unfold c1y
 have := hs.i
 simp only
 rw [c83 (by omega)]; simp
theorem p3i {m : Machine} (hm : OkM m) (x : Int) : ∃ b, p2c ⟨m⟩ x = some b /\ (b = true ↔ OkX m x) := by
 unfold p2c
 have := p2a hm.z
 rw [o82 hm.z, bS9, c1n (b1o (by omega))]
 refine ⟨_, rfl, ?_⟩
 rw [b6t]
 unfold OkX In
 omega
theorem z24 {m : Machine} (hf : ∀ n ∈ b3g m, n.size <= maxLen) (hm : OkM m) {p : Place} (hp : OkP m p) {x : Int} (hx : OkX m x) : p2f m p x = some (nxt m p x, 0) := by
 obtain ⟨e, h1, h2⟩ := g5k hf
 have he : e = 0 := by
  rcases h2 with ⟨h, _⟩ | ⟨_, h⟩
  ·exact h
  ·exact absurd hm h
 subst he
 unfold p2f
 obtain ⟨b, a1, a2⟩ := o8o hm p
 obtain ⟨d, a5, a6⟩ := p3i hm x
 rw [h1, bS9, if_neg (by simp), show b3h m = ⟨⟨m⟩⟩ from rfl]
 simp only
 rw [a1, a5, a2.2 hp, a6.2 hx, bS9, bS9]
 simp only [Bool.not_true, fT9, if_false, bS9]
 rw [g5u hm hp]; rfl
theorem z3k : ((List.range 5).all fun n => (List.range (2 ^ n)).all fun x => (List.range n).all fun i => (List.range 2).all fun v => decide (((shl .i64 1 (i : Int)).bind fun q6 => (shl .i64 (v : Int) (i : Int)).bind fun q7 => some (decide (0 <= bor (g6a (x : Int) q6) q7 /\ bor (g6a (x : Int) q6) q7 < (2 : Int) ^ n))) = some true)) = true := by decide +kernel
theorem z3l {n x i v : Nat} (hn : n < 5) (hx : x < 2 ^ n) (hi : i < n) (hv : v < 2) : ((shl .i64 1 (i : Int)).bind fun q6 => (shl .i64 (v : Int) (i : Int)).bind fun q7 => some (decide (0 <= bor (g6a (x : Int) q6) q7 /\ bor (g6a (x : Int) q6) q7 < (2 : Int) ^ n))) = some true := by
 have g := List.all_eq_true.1 z3k n (List.mem_range.2 hn)
 have g := List.all_eq_true.1 g x (List.mem_range.2 hx)
 have g := List.all_eq_true.1 g i (List.mem_range.2 hi)
 have g := List.all_eq_true.1 g v (List.mem_range.2 hv)
 exact of_decide_eq_true g
def Gk (a : Accident) (th : Theory) (l : List Int) (w : List Nat) (j : Nat) : Prop := ∃ y : Nat, l[j]? = some (y : Int) /\ y < nA a /\ c25 a.Machine (pat (stA a th) 0 zero w j) (y : Int) a.Assume = true
def Hk (a : Accident) (th : Theory) (i : Nat) (w : List Nat) (k : Nat) : Bool := hold a i (pat (stA a th) 0 zero w k) (w.getD k 0)
theorem z23 {a : Accident} {th : Theory} {i : Nat} {w : List Nat} {k y : Nat} (hy : w[k]? = some y) : Hk a th i w k = hold a i (pat (stA a th) 0 zero w k) y := by
 unfold Hk; rw [List.getD_eq_getElem?_getD, hy]; rfl
section
variable {a : Accident} {th : Theory} (hf : ∀ n ∈ b3g a.Machine, n.size <= maxLen) (ha : OkA a) (hth : OkT a th)
include ha hth
theorem z3j {t x : Nat} (hx : x < nA a) : OkX a.Machine (hdT th t x) := by
 have hz := ha.m.z.i
 unfold hdT hdO OkX In
 by_cases hc : (decide (th.Input < 0) || decide ((t : Int) < th.From)) = true
 ·rw [if_pos hc]
  show 0 <= (x : Int) /\ (x : Int) < _
  unfold nA at hx; constructor
  ·omega
  ·exact Int.ofNat_lt.2 hx
 ·rw [if_neg hc]
  rcases u5f hth ha with ⟨h, _⟩ | ⟨h1, h2, h3⟩
  ·simp at hc; omega
  unfold In at h1
  obtain ⟨i, hi2⟩ : ∃ i : Nat, th.Input = i := ⟨th.Input.toNat, by omega⟩
  obtain ⟨v, hv⟩ : ∃ v : Nat, th.Value = v := ⟨th.Value.toNat, by omega⟩
  rw [hi2, hv]
  have g := z3l (n := a.Machine.Inputs.length) (x := x) (i := i) (v := v) (by omega) hx (by omega) (by omega)
  obtain ⟨q6, g1, g2⟩ := bE9.1 g
  obtain ⟨q7, g3, g4⟩ := bE9.1 g2
  have g5 := of_decide_eq_true (Option.some.inj g4)
  rw [g1, bS9, g3, bS9]
  have e : (((2 ^ a.Machine.Inputs.length : Nat)) : Int) = (2 : Int) ^ a.Machine.Inputs.length := by simp
  show 0 <= bor (g6a (x : Int) q6) q7 /\ bor (g6a (x : Int) q6) q7 < _
  exact ⟨g5.1, by rw [e]; exact g5.2⟩
include hf
theorem z11 {w : List Nat} : ∀ k, OkP a.Machine (pat (stA a th) 0 zero w k) := by
 have key : ∀ (w : List Nat) (t : Nat) (p : Place), OkP a.Machine p -> ∀ k, OkP a.Machine (pat (stA a th) t p w k) := by
  intro w
  induction w with
  | nil => intro t p hp k; cases k <;> exact hp
  | cons x xs ih =>
   intro t p hp k
   cases k with
   | zero => exact hp
   | succ k => exact ih _ _ (s1f ha.m hp _) k
 exact key w 0 zero (o5b ha.m)
omit hf ha hth in
theorem z3w {v : List Nat} {l : List Int} (hv : toI v = l) : v = l.map Int.toNat := by
 rw [<- hv]; unfold toI; rw [List.map_map]
 exact (List.map_id v).symm.trans (List.map_congr_left fun i _ => by simp)
theorem z3i (hs : Small a) {l : List Int} : ∃ b, z1v a th l = some b /\ (b = true ↔ ∃ w, toI w = l /\ l18 a th (fun _ => true) ftT w) := by
 have hT := s9b ha
 have h6 := tA6 hs
 have h16 := u3y ha
 have hn8 := ha.n
 unfold z1v
 by_cases hlen : (l.length : Int) = a.Ticks
 case neg =>
  rw [if_pos (by simpa using hlen)]
  refine ⟨false, rfl, (fun h => by cases h), fun ⟨w, h1, h2⟩ => absurd ?_ hlen⟩
  rw [<- h1, s95, h2.1, hT]
 rw [if_neg (by simpa using hlen)]
 have hl : l.length = tA a := by omega
 -- the first loop: where the inputs lead, if they are possible
 obtain ⟨w, hwd⟩ : ∃ w, w = l.map Int.toNat := ⟨_, rfl⟩
 have hwl : w.length = l.length := by rw [hwd]; simp
 obtain ⟨b, h1, h2⟩ := j7u (f := z1w a th l) l.length (fun (s : List Place) k => (s, k)) (fun k s => s = tab (k + 1) (fun j => pat (stA a th) 0 zero w j) /\ ∀ j, j < k -> Gk a th l w j)
  (fun b => (b = .inr false /\ ¬ ∀ j, j < l.length -> Gk a th l w j) \/ (b = .inl (tab (l.length + 1) (fun j => pat (stA a th) 0 zero w j)) /\ ∀ j, j < l.length -> Gk a th l w j)) (fun s k hk ⟨i0, i1⟩ => by
   subst i0
   obtain ⟨x, hx⟩ := b3b hk
   have hp := z11 hf ha hth (w := w) k
   unfold z1w
   have hgt : get (tab (k + 1) fun j => pat (stA a th) 0 zero w j) (k : Int) = some (pat (stA a th) 0 zero w k) := c2y (by omega)
   simp only [Int.ofNat_lt, hk, decide_true, if_true, b1h hx, hgt, bS9, c74]
   rw [u5e ha]
   have bad : ¬ Gk a th l w k -> ¬ ∀ j, j < l.length -> Gk a th l w j := fun h q => h (q k hk)
   by_cases hlo : x < 0
   ·simp only [hlo, decide_true, if_true, bS9]
    refine .inr ⟨_, rfl, .inl ⟨rfl, bad fun ⟨y, q1, _⟩ => ?_⟩⟩
    rw [hx] at q1; cases q1; omega
   by_cases hhi : ((nA a : Nat) : Int) <= x
   ·simp only [hlo, hhi, decide_true, decide_false, fT9, if_false, if_true, bS9]
    refine .inr ⟨_, rfl, .inl ⟨rfl, bad fun ⟨y, q1, q2, _⟩ => ?_⟩⟩
    rw [hx] at q1; cases q1; omega
   simp only [hlo, hhi, decide_false, fT9, if_false, bS9]
   rw [d5o ha.m.z hp.s ha.asu, bS9]
   cases hal : c25 a.Machine (pat (stA a th) 0 zero w k) x a.Assume with
   | false =>
    simp only [Bool.not_false, bS9, if_true]
    refine .inr ⟨_, rfl, .inl ⟨rfl, bad fun ⟨y, q1, q2, q3⟩ => ?_⟩⟩
    rw [hx] at q1; cases q1; rw [hal] at q3; cases q3
   | true =>
    simp only [Bool.not_true, bS9, fT9, if_false]
    obtain ⟨y, hy⟩ : ∃ y : Nat, x = y := ⟨x.toNat, by omega⟩
    subst hy
    have hyn : y < nA a := by omega
    have hwk : w[k]? = some y := by
     rw [hwd, List.getElem?_map, hx]; rfl
    have hps : pat (stA a th) 0 zero w (k + 1) = nxt a.Machine (pat (stA a th) 0 zero w k) (hdT th k y) := by
     rw [x55 hwk, Nat.zero_add]; rfl
    rw [u47 ha hth hyn, bS9, z24 hf ha.m hp (z3j ha hth hyn), bS9]
    simp only [not_true, decide_false, fT9, if_false]
    have hp2 := z11 hf ha hth (w := w) (k + 1)
    rw [hps] at hp2
    obtain ⟨b, b1, b2⟩ := o83 ha.m (nxt a.Machine (pat (stA a th) 0 zero w k) (hdT th k y))
    rw [b1, b2.2 hp2, bS9, bS9]
    simp only [Bool.not_true, fT9, if_false]
    rw [b6d (by rw [b3y]; omega) (by simp) (by omega), bS9, b2r hk (b26 (show l.length <= 6 by omega))]
    refine .inl ⟨tab (k + 1 + 1) (fun j => pat (stA a th) 0 zero w j), ?_, rfl, fun j hj => ?_⟩
    ·rw [l5w (n := k + 1), hps]
    ·by_cases e : j = k
     ·subst e; exact ⟨y, hx, hyn, hal⟩
     ·exact i1 j (by omega)) (fun s ⟨i0, i1⟩ => by
   subst i0
   refine ⟨.inl (tab (l.length + 1) (fun j => pat (stA a th) 0 zero w j)), ?_, .inr ⟨rfl, i1⟩⟩
   unfold z1w
   simp only [Int.lt_irrefl, decide_false, fT9, if_false]) 0 (Nat.zero_le _) (s := [zero]) ⟨rfl, fun j hj => by omega⟩
 have h1' : b0w (z1w a th l) ([Place.mk 0 (0, 0)], 0) = some b := h1
 rw [h1', bS9]
 -- a course has these inputs
 have hG : ∀ v, toI v = l -> l18 a th (fun _ => true) ftT v -> v = w /\ ∀ j, j < l.length -> Gk a th l w j := fun v hv hF => by
  have e : v = w := (z3w hv).trans hwd.symm
  refine ⟨e, fun j hj => ?_⟩
  rw [e] at hv hF
  obtain ⟨y, hy⟩ := b3b (l := w) (k := j) (by omega)
  obtain ⟨q1, q2⟩ := (x5o w 0 zero).1 hF.2.1 j y hy
  refine ⟨y, ?_, q1, ?_⟩
  ·rw [<- hv]; unfold toI; rw [List.getElem?_map, hy]; rfl
  ·unfold okA at q2; exact (Bool.and_eq_true_iff.1 q2).1
 rcases h2 with ⟨rfl, hno⟩ | ⟨rfl, hall⟩
 ·exact ⟨false, rfl, (fun h => by cases h), fun ⟨v, q1, q2⟩ => absurd (hG v q1 q2).2 hno⟩
 simp only
 have hw : toI w = l := by
  apply List.ext_getElem?
  intro i
  rw [hwd]; unfold toI
  rw [List.map_map, List.getElem?_map]
  cases hi : l[i]? with
  | none => rfl
  | some x =>
   obtain ⟨y, hy, _⟩ := hall i (b1k hi)
   rw [hi] at hy; cases hy
   rfl
 have hat : ∀ (k : Nat) y, w[k]? = some y -> y < nA a /\ c25 a.Machine (pat (stA a th) 0 zero w k) ((y : Nat) : Int) a.Assume = true := fun k y hy => by
  have hk := b1k hy
  obtain ⟨x, q1, q2, q3⟩ := hall k (by omega)
  have : y = x := by
   have hy' := hy
   rw [hwd, List.getElem?_map, q1] at hy'
   exact (Option.some.inj hy').symm
  subst this; exact ⟨q2, q3⟩
 -- the records
 unfold z2d
 have hrec : ∀ (i : Nat) r, a.Records[i]? = some r -> ∃ e s, b0w (y25 a l (tab (l.length + 1) (fun j => pat (stA a th) 0 zero w j)) r) (true, false, r.From) = some (e, s) /\
   ((((r.All && !e) || !s) = true) ↔ ¬ b69 (fr a) (to a) (al a) (hold a) (stA a th) i 0 false zero w) := fun i r hr => by
  obtain ⟨r', hr', eR, ef, et, hft, htT, hc⟩ := u2g ha (b1k hr)
  rw [hr] at hr'; cases hr'
  have hb : ∀ k : Nat, k <= to a i -> ∃ y : Nat, w[k]? = some y /\ get l (k : Int) = some (y : Int) := fun k hk => by
   obtain ⟨y, hy⟩ := b3b (l := w) (k := k) (by omega)
   refine ⟨y, hy, b1h ?_⟩
   rw [<- hw]; unfold toI; rw [List.getElem?_map, hy]; rfl
  have hH : ∀ k y, w[k]? = some y -> Hk a th i w k = hold a i (pat (stA a th) 0 zero w k) y := fun k y hy => z23 hy
  obtain ⟨b, g1, g2⟩ := j7u (f := y25 a l (tab (l.length + 1) (fun j => pat (stA a th) 0 zero w j)) r) (to a i + 1 - fr a i) (fun (s : Bool × Bool) k => (s.1, s.2, (fr a i : Int) + k))
   (fun k s => (s.1 = true ↔ ∀ j, j < k -> Hk a th i w (fr a i + j) = true) /\ (s.2 = true ↔ ∃ j, j < k /\ Hk a th i w (fr a i + j) = true))
   (fun s => (s.1 = true ↔ ∀ j, j < to a i + 1 - fr a i -> Hk a th i w (fr a i + j) = true) /\ (s.2 = true ↔ ∃ j, j < to a i + 1 - fr a i /\ Hk a th i w (fr a i + j) = true)) (fun s k hk ⟨i1, i2⟩ => by
    have hle : (fr a i : Int) + (k : Int) <= r.To := by clear i1 i2; omega
    obtain ⟨y, hy, hgy⟩ := hb (fr a i + k) (by omega)
    have hp := z11 hf ha hth (w := w) (fr a i + k)
    have hgt : get (tab (l.length + 1) fun j => pat (stA a th) 0 zero w j) (((fr a i + k : Nat)) : Int) = some (pat (stA a th) 0 zero w (fr a i + k)) := c2y (by omega)
    have ec : (fr a i : Int) + (k : Int) = ((fr a i + k : Nat) : Int) := by clear i1 i2; omega
    have hhold : b46 a.Machine (pat (stA a th) 0 zero w (fr a i + k)) (y : Int) r.Cond = Hk a th i w (fr a i + k) := by
     rw [hH _ _ hy]; unfold hold; rw [eR]
    unfold y25
    simp only [hle, decide_true, if_true]
    rw [ec, hgt, bS9, hgy, bS9, c5x ha.m.z hp.s hc, bS9, hhold, b3t (by omega) (by omega)]
    refine .inl ⟨(s.1 && Hk a th i w (fr a i + k), s.2 || Hk a th i w (fr a i + k)), by congr 4, ?_, ?_⟩
    ·simp only [Bool.and_eq_true, i1]
     constructor
     ·rintro ⟨q1, q2⟩ j hj
      by_cases e : j = k
      ·subst e; exact q2
      ·exact q1 j (by omega)
     ·intro q; exact ⟨fun j hj => q j (by omega), q k (by omega)⟩
    ·simp only [Bool.or_eq_true, i2]
     constructor
     ·rintro (⟨j, q1, q2⟩ | q)
      ·exact ⟨j, by omega, q2⟩
      ·exact ⟨k, by omega, q⟩
     ·rintro ⟨j, q1, q2⟩
      by_cases e : j = k
      ·subst e; exact .inr q2
      ·exact .inl ⟨j, by omega, q2⟩) (fun s ⟨i1, i2⟩ => by
    refine ⟨s, ?_, i1, i2⟩
    unfold y25
    have : ¬ (fr a i : Int) + ((to a i + 1 - fr a i : Nat) : Int) <= r.To := by omega
    simp only [this, decide_false, fT9, if_false]) 0 (Nat.zero_le _) (s := (true, false)) ⟨by simp, by simp⟩
  have g1' : b0w (y25 a l (tab (l.length + 1) (fun j => pat (stA a th) 0 zero w j)) r) (true, false, r.From) = some b := by
   rw [ef, <- g1]; congr 3
  refine ⟨b.1, b.2, g1', ?_⟩
  have hAl : al a i = r.All := by unfold al; rw [eR]
  rw [y9k, <- hAl]
  obtain ⟨g3, g4⟩ := g2
  have hall2 : (∀ j, j < to a i + 1 - fr a i -> Hk a th i w (fr a i + j) = true) ↔ ∀ k x, w[k]? = some x -> fr a i <= 0 + k -> 0 + k <= to a i -> hold a i (pat (stA a th) 0 zero w k) x = true := by
   constructor
   ·intro q k x hk q1 q2
    have := q (k - fr a i) (by omega)
    rw [show fr a i + (k - fr a i) = k by omega, hH k x hk] at this; exact this
   ·intro q j hj
    obtain ⟨y, hy, _⟩ := hb (fr a i + j) (by omega)
    rw [hH _ _ hy]; exact q _ y hy (by omega) (by omega)
  have hex2 : (∃ j, j < to a i + 1 - fr a i /\ Hk a th i w (fr a i + j) = true) ↔ ∃ k x, w[k]? = some x /\ fr a i <= 0 + k /\ 0 + k <= to a i /\ hold a i (pat (stA a th) 0 zero w k) x = true := by
   constructor
   ·rintro ⟨j, q1, q2⟩
    obtain ⟨y, hy, _⟩ := hb (fr a i + j) (by omega)
    exact ⟨_, y, hy, by omega, by omega, by rw [hH _ _ hy] at q2; exact q2⟩
   ·rintro ⟨k, x, hk, q1, q2, q3⟩
    refine ⟨k - fr a i, by omega, ?_⟩
    rw [show fr a i + (k - fr a i) = k by omega, hH k x hk]; exact q3
  cases hA : al a i with
  | true =>
   rw [if_pos rfl, <- hall2, <- g3]
   have : b.1 = true -> b.2 = true := fun q => g4.2 ⟨0, by omega, (g3.1 q) 0 (by omega)⟩
   cases hb1 : b.1 <;> cases hb2 : b.2 <;> simp_all
  | false =>
   rw [if_neg (by simp), <- hex2, <- g4]
   cases hb1 : b.1 <;> cases hb2 : b.2 <;> simp
 have hA : ∀ i : Nat, i < a.Records.length -> ∃ r, a.Records[i]? = some r := fun i hi => b3b hi
 rcases b4j (f := z10 a l (tab (l.length + 1) (fun j => pat (stA a th) 0 zero w j))) (l := a.Records) (p := fun i _ => ¬ b69 (fr a) (to a) (al a) (hold a) (stA a th) i 0 false zero w) (e := .inr false) (u := .inl ()) (b26 hn8) (fun k r hr => by
   obtain ⟨e, s, q1, q2⟩ := hrec k r hr
   refine ⟨(r.All && !e) || !s, ?_, q2⟩
   unfold z10
   simp only [Int.ofNat_lt, b1k hr, decide_true, if_true, b1h hr, bS9, q1]
   unfold z2c z2b
   cases ((r.All && !e) || !s) <;> simp) (by
   unfold z10
   simp only [Int.lt_irrefl, decide_false, fT9, if_false]) with ⟨q1, q2⟩ | ⟨⟨k, r, q1, q2⟩, q3⟩
 ·rw [q2]
  refine ⟨true, rfl, fun _ => ⟨w, hw, ?_⟩, fun _ => rfl⟩
  refine ⟨by rw [hwl]; exact hl, (x5o w 0 zero).2 fun k y hy => ?_, fun i hi _ => ?_⟩
  ·obtain ⟨r1, r2⟩ := hat k y hy
   refine ⟨r1, ?_⟩
   unfold okA
   rw [r2]; rfl
  ·obtain ⟨r, hr⟩ := hA i hi
   exact Classical.not_not.1 (q1 i r hr)
 ·rw [q3]
  refine ⟨false, rfl, (fun h => by cases h), fun ⟨v, r1, r2⟩ => ?_⟩
  obtain ⟨rfl, _⟩ := hG v r1 r2
  exact absurd (r2.2.2 k (b1k q1) rfl) q2
end
end
end Go.Nw.AM
namespace Go.Nw.AM
noncomputable section
theorem z2u {a : Accident} (h : FewA a) (hn : a.Records.length <= 1048576) : u02 a = some a := by
 unfold u02
 rw [g5m h.m, bS9, d01 h.asu, bS9]
 have := b4h (f := u03 a) a.Records.length (fun (s : List Record) k => (s, k)) (fun k => a.Records.take k) a.Records (s0 := []) rfl (fun k hk => by
   obtain ⟨x, hx⟩ := b3b hk
   unfold u03
   simp only [Int.ofNat_lt, hk, decide_true, if_true, b1h hx, bS9]
   rw [d01 (h.r x (b1d.2 ⟨k, hx⟩)), bS9, u9c, b6x (by rw [List.length_take]; omega) (by simp) (by omega), bS9, b2r hk (b26 hn), g3l hx]) (by
   unfold u03
   simp only [Int.lt_irrefl, decide_false, fT9, if_false, List.take_length])
 rw [this]; rfl
theorem z3p (a : Accident) (x : l10_Further) : z1z a x = y20 a x := rfl
def c21 (a : Accident) (r : Record) : Accident := ⟨a.Machine, a.Assume, a.Ticks, a.Records ++ [r]⟩
def z2y (a b : Accident) (x : l10_Further) : Option Bool :=
 (s9o a).bind fun y10 =>
 (if y10 then some true else (s9o b).bind fun y11 =>
 some y11).bind fun c12 =>
 (if c12 then some true else (s9r a).bind fun y13 =>
 some (decide (¬y13 = 0))).bind fun c14 =>
 if c14 || (!(l59 a x.Past.Theory)) then
  (u10).bind fun y21 =>
  some y21
 else
  (s9r b).bind fun y23 =>
  if decide (y23 = 0) then
   (u0g a x.Past.Theory).bind fun y71 =>
   (u0g b x.Past.Theory).bind fun y73 =>
   if ((decide (¬y71.2 = 0)) || (decide (¬y73.2 = 0))) || (y73.1 && (!y71.1)) then
    some false
   else
    y20 a x
  else
   y20 a x
theorem z3o {a : Accident} (h : FewA a) (hn : a.Records.length <= 1048576) (x : l10_Further) : z1t a x = z2y a (c21 a x.Record) x := by
 unfold z1t
 by_cases h0 : 0 < a.Records.length
 ·rw [if_pos h0]
  have hne : ¬ a.Records = [] := fun e => by rw [e] at h0; simp at h0
  unfold z18 z2f
  rw [z2u h hn, bS9, if_neg hne, bS9, b6x hn (by simp) (by omega), bS9]
  rfl
 ·rw [if_neg h0]
  have he : a.Records = [] := by
   cases hr : a.Records with
   | nil => rfl
   | cons r l => rw [hr] at h0; simp at h0
  unfold z2a z2e
  rw [z2u h hn, bS9, if_pos he, bS9, b6x (by simp) (by simp) (by omega), bS9]
  simp only [z3p]
  have e : c21 a x.Record = ⟨a.Machine, a.Assume, a.Ticks, [] ++ [x.Record]⟩ := by unfold c21; rw [he]
  rw [e]; rfl
section
variable {a : Accident} {th : Theory}
theorem z3s {r : Record} {i : Nat} (hi : i < a.Records.length) : R (c21 a r) i = R a i := by
 unfold R c21
 simp only
 rw [List.getD_eq_getElem?_getD, List.getElem?_append_left hi, List.getD_eq_getElem?_getD]
theorem z2q {a b : Accident} {i : Nat} (h : R b i = R a i) (hm : b.Machine = a.Machine) : ∀ (xs : List Nat) (t : Nat) (c : Bool) (p : Place), b69 (fr b) (to b) (al b) (hold b) (stA b th) i t c p xs ↔ b69 (fr a) (to a) (al a) (hold a) (stA a th) i t c p xs
 | [], t, c, p => by unfold b69 al; rw [h]
 | x :: xs, t, c, p => by
  unfold b69
  have e1 : fr b i = fr a i := by unfold fr; rw [h]
  have e2 : to b i = to a i := by unfold to; rw [h]
  have e3 : al b i = al a i := by unfold al; rw [h]
  have e4 : hold b i p x = hold a i p x := by unfold hold; rw [h, hm]
  have e5 : stA b th t p x = stA a th t p x := by unfold stA; rw [hm]
  rw [e1, e2, e3, e4, e5, z2q h hm xs, z2q h hm xs]
theorem z3t {r : Record} {w : List Nat} (hw : l18 (c21 a r) th (fun _ => true) ftT w) : l18 a th (fun _ => true) ftT w := by
 refine ⟨hw.1, hw.2.1, fun i hi _ => ?_⟩
 have := hw.2.2 i (by show i < (a.Records ++ [r]).length; simp; omega) rfl
 exact (z2q (z3s hi) rfl w 0 false zero).1 this
end
section
variable [Bd]
theorem z3r {a : Accident} {x : l10_Further} (hf : ∀ n ∈ b3g a.Machine, n.size <= maxLen) (hs : Small a) (hth : OkT a x.Past.Theory) : y20 a x = some true := by
 have ha := hs.ok
 have hT := s9b ha
 have h6 := tA6 hs
 unfold y20
 obtain ⟨e, c1, c2⟩ := d5s hf (l := [x.Cond]) (by simp)
 rw [c1, bS9]
 by_cases hq : (((decide (¬e = 0)) || (decide (x.Tick < 0))) || (decide (a.Ticks <= x.Tick))) = true
 ·rw [if_pos hq]; rfl
 rw [if_neg hq]
 simp only [Bool.or_eq_true, decide_eq_true_eq, not_or, Classical.not_not] at hq
 obtain ⟨⟨he, ht0⟩, ht1⟩ := hq
 subst he
 have hc : b2s a.Machine true x.Cond := by
  rcases c2 with ⟨_, _, h⟩ | ⟨q, _⟩ | ⟨q, _⟩
  ·exact h _ (by simp)
  ·cases q
  ·cases q
 obtain ⟨b, h1, h2⟩ := z3i hf ha hth hs (l := x.Past.Inputs)
 rw [h1, bS9, bS9]
 cases b with
 | false => rfl
 | true =>
 obtain ⟨w, hw, hF⟩ := h2.1 rfl
 simp only [Bool.not_true, fT9, if_false]
 obtain ⟨tk, htk⟩ : ∃ k : Nat, x.Tick = k := ⟨x.Tick.toNat, by omega⟩
 obtain ⟨b, g1, g2⟩ := x9g hf ha hth hc (tick := tk) (by omega)
 rw [htk, g1, bS9]
 have hget : ∀ k : Nat, k < tA a -> ∃ y : Nat, w[k]? = some y /\ y < nA a /\ get x.Past.Inputs (k : Int) = some (y : Int) := fun k hk => by
  obtain ⟨y, hy⟩ := b3b (l := w) (k := k) (by have := hF.1; omega)
  exact ⟨y, hy, ((x5o w 0 zero).1 hF.2.1 k y hy).1, by rw [<- hw]; exact u5m hy⟩
 have hloop := b4h (f := z1u a x) tk (fun (s : Place) k => (s.State, s.Values.1, s.Values.2, k)) (fun k => pat (stA a x.Past.Theory) 0 zero w k) ((pat (stA a x.Past.Theory) 0 zero w tk).State, (pat (stA a x.Past.Theory) 0 zero w tk).Values.1, (pat (stA a x.Past.Theory) 0 zero w tk).Values.2) (s0 := zero) (by cases w <;> rfl) (fun k hk => by
   obtain ⟨y, hy, hyn, hgy⟩ := hget k (by omega)
   have hp := z11 hf ha hth (w := w) k
   unfold z1u
   simp only [htk, Int.ofNat_lt, hk, decide_true, if_true, hgy, bS9, c74, u47 ha hth hyn]
   rw [d5u ha.m hp, bS9, b3t (by omega) (by omega), x55 hy, Nat.zero_add]
   rfl) (by
   unfold z1u
   simp only [htk, Int.lt_irrefl, decide_false, fT9, if_false])
 have hloop' : b0w (z1u a x) (0, 0, 0, 0) = _ := hloop
 rw [hloop', bS9]
 simp only
 unfold z19
 cases b with
 | false => simp [u10]
 | true =>
  obtain ⟨y, hy, hyn, hgy⟩ := hget tk (by omega)
  have hp := z11 hf ha hth (w := w) tk
  have hh : b46 a.Machine (pat (stA a x.Past.Theory) 0 zero w tk) (y : Int) x.Cond = true := by
   cases hq : b46 a.Machine (pat (stA a x.Past.Theory) 0 zero w tk) (y : Int) x.Cond with
   | true => rfl
   | false =>
    refine absurd ⟨w, x53.2 ⟨hF, fun z hz => ?_⟩⟩ (g2.1 rfl)
    rw [hy] at hz; cases hz; exact hq
  rw [htk, hgy]
  simp only [Bool.not_true, fT9, if_false, bS9, c74]
  rw [c5x ha.m.z hp.s hc, bS9, hh]
  simp [u10]
theorem z3q (hB : Bd.B <= 1048576) (a : Accident) (x : l10_Further) (hm : s9d a) (hx : z16 x) : z1t a x = some true := by
 have hf := u9q hm
 rw [z3o (tda hB hm) (Nat.le_trans hm.2.2.2.1 hB)]
 unfold z2y
 rcases u6h hf with h | ⟨hn, h, hs⟩
 ·rw [h]; rfl
 rw [h, bS9, if_neg (by simp)]
 rcases u6h (a := c21 a x.Record) hf with h | ⟨hnb, h, hsb⟩
 ·rw [h]; rfl
 rw [h, bS9, bS9, if_neg (by simp), u4j hf hn, bS9, bS9]
 by_cases hc : (decide (¬b40 a = 0) || !l59 a x.Past.Theory) = true
 ·rw [if_pos hc]; rfl
 rw [if_neg hc]
 simp only [Bool.or_eq_true, Bool.not_eq_true', decide_eq_true_eq, not_or, Bool.not_eq_false, Classical.not_not] at hc
 obtain ⟨he, hth⟩ := hc
 have hth : OkT a x.Past.Theory := hth
 have hs' : Small a := by
  rcases hs with h | h
  ·exact absurd he h
  ·exact h
 have htail := z3r (x := x) hf hs' hth
 rw [u4j (a := c21 a x.Record) hf hnb, bS9]
 by_cases heb : b40 (c21 a x.Record) = 0
 case neg => rw [if_neg (by simpa using heb), htail]
 rw [if_pos (by simpa using heb)]
 obtain ⟨r, p1, _, p2⟩ := u6i (th := x.Past.Theory) hf hn hs
 obtain ⟨q, q1, _, q2⟩ := u6i (a := c21 a x.Record) (th := x.Past.Theory) hf hnb hsb
 have hb := u1v.1 heb
 rcases p2 with ⟨z, _⟩ | ⟨_, _, p3, p4⟩
 ·exact absurd (u27.2 ⟨hs'.ok, hth⟩) z
 rcases q2 with ⟨z, _⟩ | ⟨_, _, q3, q4⟩
 ·exact absurd (u27.2 ⟨hb, (show OkT (c21 a x.Record) x.Past.Theory from hth)⟩) z
 rw [p1, q1, bS9, bS9, if_neg ?_, htail]
 simp only [p3, q3, not_true, decide_false, Bool.or_self, Bool.false_or, Bool.and_eq_true, Bool.not_eq_true', not_and]
 intro hq hp
 obtain ⟨w, hw⟩ := q4.1 hq
 rw [p4.2 ⟨w, z3t hw⟩] at hp
 cases hp
end
end
end Go.Nw.AM
