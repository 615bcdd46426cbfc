/- Plain laws on the models. -/
import Derived.Test.YtccjacnppmciaaaGreatDoorAM
import Derived.Test.YtccjacnppmciaaaGreatDoorNwTypes
import Derived.Test.YtccjacnppmciaaaGreatDoorP4
set_option linter.all false
namespace Go.Nw.AM
variable [Bd]
def c68 (x : ByteArray) : Prop := x.size <= Bd.B
theorem l4q {r : List AV} (h : MtL [.s] r) : ∃ x : ByteArray, r = eS x /\ c68 x := by
 obtain ⟨a0, r0, rfl, h0, g0⟩ := b3e h;obtain ⟨v0, rfl, k0⟩ := d4c h0;exact ⟨v0, by rw [b6o g0]; rfl, k0⟩
theorem g1x {a : AV} (h : Mt (.sl [.s]) a) : ∃ l : List ByteArray, a = .fs 1 (l.map eS) /\ OkL c68 l := by
 obtain ⟨l, rfl, h1, h2⟩ := b8q eS c68 h fun r hr => l4q hr;exact ⟨l, rfl, h1, h2⟩
def r8n (x : Counter) : Prop := c68 x.Name /\ b5k x.Max
theorem l4l {r : List AV} (h : MtL [.s, .i .i64] r) : ∃ x : Counter, r = b0o x /\ r8n x := by
 obtain ⟨a0, r0, rfl, h0, g0⟩ := b3e h;obtain ⟨a1, r1, rfl, h1, g1⟩ := b3e g0;obtain ⟨v0, rfl, k0⟩ := d4c h0;obtain ⟨v1, rfl, k1⟩ := b6n h1;exact ⟨⟨v0, v1⟩, by rw [b6o g1]; rfl, ⟨k0, k1⟩⟩
theorem j8e {a : AV} (h : Mt (.sl [.s, .i .i64]) a) : ∃ l : List Counter, a = .fs 2 (l.map b0o) /\ OkL r8n l := by
 obtain ⟨l, rfl, h1, h2⟩ := b8q b0o r8n h fun r hr => l4l hr;exact ⟨l, rfl, h1, h2⟩
def c53 (x : State) : Prop := c68 x.Name /\ b5k x.Shows
theorem l4s {r : List AV} (h : MtL [.s, .i .i64] r) : ∃ x : State, r = b0p x /\ c53 x := by
 obtain ⟨a0, r0, rfl, h0, g0⟩ := b3e h;obtain ⟨a1, r1, rfl, h1, g1⟩ := b3e g0;obtain ⟨v0, rfl, k0⟩ := d4c h0;obtain ⟨v1, rfl, k1⟩ := b6n h1;exact ⟨⟨v0, v1⟩, by rw [b6o g1]; rfl, ⟨k0, k1⟩⟩
theorem j8i {a : AV} (h : Mt (.sl [.s, .i .i64]) a) : ∃ l : List State, a = .fs 2 (l.map b0p) /\ OkL c53 l := by
 obtain ⟨l, rfl, h1, h2⟩ := b8q b0p c53 h fun r hr => l4s hr;exact ⟨l, rfl, h1, h2⟩
def b5x (x : Literal) : Prop := b5k x.Kind /\ b5k x.Number /\ b5k x.Value /\ True
theorem l4n {r : List AV} (h : MtL [.i .i64, .i .i64, .i .i64, .b] r) : ∃ x : Literal, r = b3k x /\ b5x x := by
 obtain ⟨a0, r0, rfl, h0, g0⟩ := b3e h;obtain ⟨a1, r1, rfl, h1, g1⟩ := b3e g0;obtain ⟨a2, r2, rfl, h2, g2⟩ := b3e g1;obtain ⟨a3, r3, rfl, h3, g3⟩ := b3e g2;obtain ⟨v0, rfl, k0⟩ := b6n h0;obtain ⟨v1, rfl, k1⟩ := b6n h1;obtain ⟨v2, rfl, k2⟩ := b6n h2;obtain ⟨v3, rfl, k3⟩ := j8k h3;exact ⟨⟨v0, v1, v2, v3⟩, by rw [b6o g3]; rfl, ⟨k0, k1, k2, k3⟩⟩
theorem j8f {a : AV} (h : Mt (.sl [.i .i64, .i .i64, .i .i64, .b]) a) : ∃ l : List Literal, a = .fs 4 (l.map b3k) /\ OkL b5x l := by
 obtain ⟨l, rfl, h1, h2⟩ := b8q b3k b5x h fun r hr => l4n hr;exact ⟨l, rfl, h1, h2⟩
theorem l4m {r : List AV} (h : MtL [.sl [.i .i64, .i .i64, .i .i64, .b]] r) : ∃ x : List Literal, r = b0t x /\ OkL b5x x := by
 obtain ⟨a0, r0, rfl, h0, g0⟩ := b3e h;obtain ⟨v0, rfl, k0⟩ := j8f h0;exact ⟨v0, by rw [b6o g0]; rfl, k0⟩
theorem d4b {a : AV} (h : Mt (.sl [.sl [.i .i64, .i .i64, .i .i64, .b]]) a) : ∃ l : List (List Literal), a = .fs 1 (l.map b0t) /\ OkL (OkL b5x) l := by
 obtain ⟨l, rfl, h1, h2⟩ := b8q b0t (OkL b5x) h fun r hr => l4m hr;exact ⟨l, rfl, h1, h2⟩
def c52 (x : Set) : Prop := b5k x.Kind /\ b5k x.Counter
theorem l4r {r : List AV} (h : MtL [.i .i64, .i .i64] r) : ∃ x : Set, r = b2o x /\ c52 x := by
 obtain ⟨a0, r0, rfl, h0, g0⟩ := b3e h;obtain ⟨a1, r1, rfl, h1, g1⟩ := b3e g0;obtain ⟨v0, rfl, k0⟩ := b6n h0;obtain ⟨v1, rfl, k1⟩ := b6n h1;exact ⟨⟨v0, v1⟩, by rw [b6o g1]; rfl, ⟨k0, k1⟩⟩
theorem j8h {a : AV} (h : Mt (.sl [.i .i64, .i .i64]) a) : ∃ l : List Set, a = .fs 2 (l.map b2o) /\ OkL c52 l := by
 obtain ⟨l, rfl, h1, h2⟩ := b8q b2o c52 h fun r hr => l4r hr;exact ⟨l, rfl, h1, h2⟩
def c51 (x : Rule) : Prop := b5k x.From /\ b5k x.To /\ OkL (OkL b5x) x.When /\ OkL c52 x.Sets
theorem l4p {r : List AV} (h : MtL [.i .i64, .i .i64, .sl [.sl [.i .i64, .i .i64, .i .i64, .b]], .sl [.i .i64, .i .i64]] r) : ∃ x : Rule, r = b0m x /\ c51 x := by
 obtain ⟨a0, r0, rfl, h0, g0⟩ := b3e h;obtain ⟨a1, r1, rfl, h1, g1⟩ := b3e g0;obtain ⟨a2, r2, rfl, h2, g2⟩ := b3e g1;obtain ⟨a3, r3, rfl, h3, g3⟩ := b3e g2;obtain ⟨v0, rfl, k0⟩ := b6n h0;obtain ⟨v1, rfl, k1⟩ := b6n h1;obtain ⟨v2, rfl, k2⟩ := d4b h2;obtain ⟨v3, rfl, k3⟩ := j8h h3;exact ⟨⟨v0, v1, v2, v3⟩, by rw [b6o g3]; rfl, ⟨k0, k1, k2, k3⟩⟩
theorem j8g {a : AV} (h : Mt (.sl [.i .i64, .i .i64, .sl [.sl [.i .i64, .i .i64, .i .i64, .b]], .sl [.i .i64, .i .i64]]) a) : ∃ l : List Rule, a = .fs 4 (l.map b0m) /\ OkL c51 l := by
 obtain ⟨l, rfl, h1, h2⟩ := b8q b0m c51 h fun r hr => l4p hr;exact ⟨l, rfl, h1, h2⟩
def b9d (x : Machine) : Prop := OkL c68 x.Inputs /\ OkL c68 x.Outputs /\ OkL r8n x.Counters /\ OkL c53 x.States /\ OkL c51 x.Rules
def u1r (x : Record) : Prop := b5k x.From /\ b5k x.To /\ True /\ OkL (OkL b5x) x.Cond
theorem u9e {r : List AV} (h : MtL [.i .i64, .i .i64, .b, .sl [.sl [.i .i64, .i .i64, .i .i64, .b]]] r) : ∃ x : Record, r = b26 x /\ u1r x := by
 obtain ⟨a0, r0, rfl, h0, g0⟩ := b3e h;obtain ⟨a1, r1, rfl, h1, g1⟩ := b3e g0;obtain ⟨a2, r2, rfl, h2, g2⟩ := b3e g1;obtain ⟨a3, r3, rfl, h3, g3⟩ := b3e g2;obtain ⟨v0, rfl, k0⟩ := b6n h0;obtain ⟨v1, rfl, k1⟩ := b6n h1;obtain ⟨v2, rfl, k2⟩ := j8k h2;obtain ⟨v3, rfl, k3⟩ := d4b h3;exact ⟨⟨v0, v1, v2, v3⟩, by rw [b6o g3]; rfl, ⟨k0, k1, k2, k3⟩⟩
theorem u84 {a : AV} (h : Mt (.sl [.i .i64, .i .i64, .b, .sl [.sl [.i .i64, .i .i64, .i .i64, .b]]]) a) : ∃ l : List Record, a = .fs 4 (l.map b26) /\ OkL u1r l := by
 obtain ⟨l, rfl, h1, h2⟩ := b8q b26 u1r h fun r hr => u9e hr;exact ⟨l, rfl, h1, h2⟩
def s9d (x : Accident) : Prop := b9d x.Machine /\ OkL (OkL b5x) x.Assume /\ b5k x.Ticks /\ OkL u1r x.Records
def u7i (x : Accident) : List AV := [.fs 1 (List.map eS x.Machine.Inputs), .fs 1 (List.map eS x.Machine.Outputs), .fs 2 (List.map b0o x.Machine.Counters), .fs 2 (List.map b0p x.Machine.States), .fs 4 (List.map b0m x.Machine.Rules), .fs 1 (List.map b0t x.Assume), I x.Ticks, .fs 4 (List.map b26 x.Records)]
theorem u9d {r : List AV} (h : MtL [.sl [.s], .sl [.s], .sl [.s, .i .i64], .sl [.s, .i .i64], .sl [.i .i64, .i .i64, .sl [.sl [.i .i64, .i .i64, .i .i64, .b]], .sl [.i .i64, .i .i64]], .sl [.sl [.i .i64, .i .i64, .i .i64, .b]], .i .i64, .sl [.i .i64, .i .i64, .b, .sl [.sl [.i .i64, .i .i64, .i .i64, .b]]]] r) : ∃ x : Accident, r = u7i x /\ s9d x := by
 obtain ⟨a0, r0, rfl, h0, g0⟩ := b3e h;obtain ⟨a1, r1, rfl, h1, g1⟩ := b3e g0;obtain ⟨a2, r2, rfl, h2, g2⟩ := b3e g1;obtain ⟨a3, r3, rfl, h3, g3⟩ := b3e g2;obtain ⟨a4, r4, rfl, h4, g4⟩ := b3e g3;obtain ⟨a5, r5, rfl, h5, g5⟩ := b3e g4;obtain ⟨a6, r6, rfl, h6, g6⟩ := b3e g5;obtain ⟨a7, r7, rfl, h7, g7⟩ := b3e g6;obtain ⟨v0, rfl, k0⟩ := g1x h0;obtain ⟨v1, rfl, k1⟩ := g1x h1;obtain ⟨v2, rfl, k2⟩ := j8e h2;obtain ⟨v3, rfl, k3⟩ := j8i h3;obtain ⟨v4, rfl, k4⟩ := j8g h4;obtain ⟨v5, rfl, k5⟩ := d4b h5;obtain ⟨v6, rfl, k6⟩ := b6n h6;obtain ⟨v7, rfl, k7⟩ := u84 h7;exact ⟨⟨⟨v0, v1, v2, v3, v4⟩, v5, v6, v7⟩, by rw [b6o g7]; rfl, ⟨⟨k0, k1, k2, k3, k4⟩, k5, k6, k7⟩⟩
abbrev u4b : List Sh := [.sl [.s], .sl [.s], .sl [.s, .i .i64], .sl [.s, .i .i64], .sl [.i .i64, .i .i64, .sl [.sl [.i .i64, .i .i64, .i .i64, .b]], .sl [.i .i64, .i .i64]], .sl [.sl [.i .i64, .i .i64, .i .i64, .b]], .i .i64, .sl [.i .i64, .i .i64, .b, .sl [.sl [.i .i64, .i .i64, .i .i64, .b]]]]
theorem u9s {a : AV} (h : MtA (.agg u4b) a) : ∃ x : Accident, a = .agg [.fs 1 (List.map eS x.Machine.Inputs), .fs 1 (List.map eS x.Machine.Outputs), .fs 2 (List.map b0o x.Machine.Counters), .fs 2 (List.map b0p x.Machine.States), .fs 4 (List.map b0m x.Machine.Rules), .fs 1 (List.map b0t x.Assume), I x.Ticks, .fs 4 (List.map b26 x.Records)] /\ s9d x := by
 obtain ⟨r, rfl, hr⟩ := g1y h;obtain ⟨x, rfl, hx⟩ := u9d hr;exact ⟨x, rfl, hx⟩
def u1s (x : Theory) : Prop := b5k x.Input /\ b5k x.Value /\ b5k x.From
theorem u9f {r : List AV} (h : MtL [.i .i64, .i .i64, .i .i64] r) : ∃ x : Theory, r = u26 x /\ u1s x := by
 obtain ⟨a0, r0, rfl, h0, g0⟩ := b3e h;obtain ⟨a1, r1, rfl, h1, g1⟩ := b3e g0;obtain ⟨a2, r2, rfl, h2, g2⟩ := b3e g1;obtain ⟨v0, rfl, k0⟩ := b6n h0;obtain ⟨v1, rfl, k1⟩ := b6n h1;obtain ⟨v2, rfl, k2⟩ := b6n h2;exact ⟨⟨v0, v1, v2⟩, by rw [b6o g2]; rfl, ⟨k0, k1, k2⟩⟩
abbrev u4c : List Sh := [.i .i64, .i .i64, .i .i64]
theorem u9t {a : AV} (h : MtA (.agg u4c) a) : ∃ x : Theory, a = .agg [I x.Input, I x.Value, I x.From] /\ u1s x := by
 obtain ⟨r, rfl, hr⟩ := g1y h;obtain ⟨x, rfl, hx⟩ := u9f hr;exact ⟨x, rfl, hx⟩
end Go.Nw.AM
namespace Go.Nw.AM
noncomputable section
theorem u4a {a : Accident} {th : Theory} (ha : OkA a) (hth : OkT a th) : (∃ w, Lst (l18 a th (fun _ => true) ftT) w /\ u0k a th = some (toI w, true)) \/ ((∀ w, ¬ l18 a th (fun _ => true) ftT w) /\ u0k a th = some ([], false)) :=
 u9k (keep := fun _ => true) (ft := ftT) ha hth (fun _ _ => rfl) (fun _ _ _ _ _ _ => rfl)
theorem u88 {a : Accident} {th : Theory} (hs : Small a) (hth : OkT a th) : ∃ b, (s8s a).bind (fun y => s88 a th y) = some b /\ (b = true ↔ ∃ w, l18 a th (fun _ => true) ftT w) := by
 have hn8 := hs.ok.n;rw [u35 (by omega), bS9];obtain ⟨b, h1, h2⟩ := u89 (l := List.range a.Records.length) hs hth (fun i hi => List.mem_range.1 hi) (by rw [List.length_range]; exact hn8);refine ⟨b, h1, h2.trans ?_⟩;exact ⟨fun ⟨w, hw⟩ => ⟨w, (u3c fun i hi => u3w hi).1 hw⟩, fun ⟨w, hw⟩ => ⟨w, (u3c fun i hi => u3w hi).2 hw⟩⟩
section
variable {a : Accident} {th : Theory} (hf : ∀ n ∈ b3g a.Machine, n.size <= maxLen) (hn : a.Records.length <= 10) (hs : b10 a ≠ 0 \/ Small a)
include hf hn hs
theorem u6i : ∃ r, u0g a th = some r /\ u05 a th = some r /\ ((l17 a th ≠ 0 /\ r = (false, l17 a th)) \/ (Small a /\ OkT a th /\ r.2 = 0 /\ (r.1 = true ↔ ∃ w, l18 a th (fun _ => true) ftT w))) := by
 unfold u0g u05;rw [u23 hf hn, u24 hf hn, bS9, bS9];by_cases he : l17 a th = 0
 case neg => rw [if_pos (by simpa using he), if_pos (by simpa using he)]; exact ⟨_, rfl, rfl, .inl ⟨he, rfl⟩⟩
 rw [if_neg (by simp [he]), if_neg (by simp [he])];obtain ⟨ha, hth⟩ := u27.1 he
 have hs' : Small a := by
  rcases hs with h | h
  ·exact absurd (u1v.2 ha) h
  ·exact h
 obtain ⟨b, h1, h2⟩ := u88 hs' hth
 have h1' : ((s8s a).bind fun y7 => (s88 a th y7).bind fun y8 => some (y8, (0 : Int))) = some (b, 0) := by
  obtain ⟨y, hy, hb⟩ := bE9.1 h1;rw [hy, bS9, hb, bS9]
 rw [h1'];rcases u4a ha hth with ⟨w, hw, h3⟩ | ⟨hw, h3⟩
 ·have : b = true := h2.2 ⟨w, hw.1⟩
  subst this;rw [h3, bS9];exact ⟨_, rfl, rfl, .inr ⟨hs', hth, rfl, h2⟩⟩
 ·have : b = false := by
   cases b with
   | false => rfl
   | true => obtain ⟨w, h⟩ := h2.1 rfl; exact absurd h (hw w)
  subst this;rw [h3, bS9];exact ⟨_, rfl, rfl, .inr ⟨hs', hth, rfl, h2⟩⟩
theorem u6f : ∃ r, s9i a th = some r /\ s8x a th = some r /\ r.1.length <= 40 /\ ((l17 a th ≠ 0 /\ r = ([], l17 a th)) \/ (Small a /\ OkT a th /\ ((∃ w, Lst (l18 a th (fun _ => true) ftT) w /\ r = (toI w, 0)) \/ ((∀ w, ¬ l18 a th (fun _ => true) ftT w) /\ r = ([], 3))))) := by
 by_cases he : l17 a th = 0
 case neg =>
  unfold s9i s8x;rw [u23 hf hn, u24 hf hn, bS9, bS9, if_pos (by simpa using he), if_pos (by simpa using he)]; exact ⟨_, rfl, rfl, by simp, .inl ⟨he, rfl⟩⟩
 obtain ⟨ha, hth⟩ := u27.1 he
 have hs' : Small a := by
  rcases hs with h | h
  ·exact absurd (u1v.2 ha) h
  ·exact h
 have h6 := tA6 hs';unfold s9i;rw [u23 hf hn, bS9, if_neg (by simp [he])];rcases u6g hs' hth hf with ⟨w, hw, hl, h1⟩ | ⟨hw, h1⟩
 ·rcases u4a ha hth with ⟨w', hw', h3⟩ | ⟨hw', h3⟩
  ·have := u8w hw hw'
   subst this;rw [h3, h1];exact ⟨_, rfl, rfl, by show (toI w).length <= 40; omega, .inr ⟨hs', hth, .inl ⟨w, hw, rfl⟩⟩⟩
  ·exact absurd hw.1 (hw' w)
 ·rcases u4a ha hth with ⟨w', hw', h3⟩ | ⟨hw', h3⟩
  ·exact absurd hw'.1 (hw w')
  ·rw [h3, h1];exact ⟨_, rfl, rfl, by simp, .inr ⟨hs', hth, .inr ⟨hw, rfl⟩⟩⟩
end
section
variable [Bd]
theorem d5j {c : List (List Literal)} (hB : Bd.B <= 1048576) (h : OkL (OkL b5x) c) : d02 c := ⟨Nat.le_trans h.1 hB, fun t ht => Nat.le_trans (h.2 t ht).1 hB⟩
theorem l5y {m : Machine} (h : b9d m) : ∀ n ∈ b3g m, n.size <= maxLen := by
 obtain ⟨h1, h2, h3, h4, h5⟩ := h;intro n hn;have hB := Bd.le;simp only [b3g, List.mem_append, List.mem_map] at hn;rcases hn with ((hn | hn) | ⟨c, hc, rfl⟩) | ⟨c, hc, rfl⟩
 ·exact Nat.le_trans (h1.2 n hn) hB
 ·exact Nat.le_trans (h2.2 n hn) hB
 ·exact Nat.le_trans (h3.2 c hc).1 hB
 ·exact Nat.le_trans (h4.2 c hc).1 hB
theorem tdm {m : Machine} (hB : Bd.B <= 1048576) (h : b9d m) : FewM m := by
 have hn := l5y h;obtain ⟨h1, h2, h3, h4, h5⟩ := h;exact ⟨Nat.le_trans h1.1 hB, Nat.le_trans h2.1 hB, Nat.le_trans h3.1 hB, Nat.le_trans h4.1 hB, Nat.le_trans h5.1 hB, fun r hr => ⟨d5j hB (h5.2 r hr).2.2.1, Nat.le_trans (h5.2 r hr).2.2.2.1 hB⟩, hn⟩
theorem tda {a : Accident} (hB : Bd.B <= 1048576) (h : s9d a) : FewA a := by
 obtain ⟨h1, h2, h3, h4⟩ := h;exact ⟨tdm hB h1, d5j hB h2, fun r hr => d5j hB (h4.2 r hr).2.2.2⟩
theorem u9q {a : Accident} (h : s9d a) : ∀ n ∈ b3g a.Machine, n.size <= maxLen := l5y h.1
theorem u7f (hB : Bd.B <= 1048576) (a : Accident) (t : Theory) (hm : s9d a) (hc : u1s t) : u0w a t = some true := by
 have hf := u9q hm;unfold u0w;rcases u6h hf with h | ⟨hn, h, hs⟩
 ·rw [h]; rfl
 rw [h, bS9, if_neg (by simp), u6e (tda hB hm) hn, bS9];obtain ⟨r, h1, h2, _⟩ := u6i (th := t) hf hn hs;obtain ⟨q, h3, h4, h5, _⟩ := u6f (th := t) hf hn hs;rw [h1, h2, bS9, bS9];have e : ((!(b5c r.1 r.1)) || (decide (¬r.2 = r.2))) = false := by cases r.1 <;> simp [b5c]
 rw [if_neg (by rw [e]; simp), h3, h4, bS9, bS9, g25 (c50 h5), bS9];simp [u10]
end
end
end Go.Nw.AM
