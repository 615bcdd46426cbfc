/- Plain laws on the models. -/
import Derived.Test.YtgkhgpphjhefaaaDoorUM
import Derived.Test.YtgkhgpphjhefaaaDoorNwTypes
import Derived.Test.YtgkhgpphjhefaaaDoorP3
import Derived.Test.YtgkhgpphjhefaaaDoorP4
set_option linter.all false
namespace Go.Nw.UM
variable [Bd]
def c68 (x : ByteArray) : Prop := x.size <= Bd.B
theorem l4q {r : List AV} (h : MtL [.s] r) : ∃ x : ByteArray, r = eS x /\ c68 x := by
 obtain ⟨a0, r0, rfl, h0, g0⟩ := b3e h
 obtain ⟨v0, rfl, k0⟩ := d4c h0
 exact ⟨v0, by rw [b6o g0]; rfl, k0⟩
theorem g1x {a : AV} (h : Mt (.sl [.s]) a) : ∃ l : List ByteArray, a = .fs 1 (l.map eS) /\ OkL c68 l := by
 obtain ⟨l, rfl, h1, h2⟩ := b8q eS c68 h fun r hr => l4q hr
 exact ⟨l, rfl, h1, h2⟩
def r8n (x : Counter) : Prop := c68 x.Name /\ b5k x.Max
theorem l4l {r : List AV} (h : MtL [.s, .i .i64] r) : ∃ x : Counter, r = b0o x /\ r8n x := by
 obtain ⟨a0, r0, rfl, h0, g0⟩ := b3e h
 obtain ⟨a1, r1, rfl, h1, g1⟩ := b3e g0
 obtain ⟨v0, rfl, k0⟩ := d4c h0
 obtain ⟨v1, rfl, k1⟩ := b6n h1
 exact ⟨⟨v0, v1⟩, by rw [b6o g1]; rfl, ⟨k0, k1⟩⟩
theorem j8e {a : AV} (h : Mt (.sl [.s, .i .i64]) a) : ∃ l : List Counter, a = .fs 2 (l.map b0o) /\ OkL r8n l := by
 obtain ⟨l, rfl, h1, h2⟩ := b8q b0o r8n h fun r hr => l4l hr
 exact ⟨l, rfl, h1, h2⟩
def c53 (x : State) : Prop := c68 x.Name /\ b5k x.Shows
theorem l4s {r : List AV} (h : MtL [.s, .i .i64] r) : ∃ x : State, r = b0p x /\ c53 x := by
 obtain ⟨a0, r0, rfl, h0, g0⟩ := b3e h
 obtain ⟨a1, r1, rfl, h1, g1⟩ := b3e g0
 obtain ⟨v0, rfl, k0⟩ := d4c h0
 obtain ⟨v1, rfl, k1⟩ := b6n h1
 exact ⟨⟨v0, v1⟩, by rw [b6o g1]; rfl, ⟨k0, k1⟩⟩
theorem j8i {a : AV} (h : Mt (.sl [.s, .i .i64]) a) : ∃ l : List State, a = .fs 2 (l.map b0p) /\ OkL c53 l := by
 obtain ⟨l, rfl, h1, h2⟩ := b8q b0p c53 h fun r hr => l4s hr
 exact ⟨l, rfl, h1, h2⟩
def b5x (x : Literal) : Prop := b5k x.Kind /\ b5k x.Number /\ b5k x.Value /\ True
theorem l4n {r : List AV} (h : MtL [.i .i64, .i .i64, .i .i64, .b] r) : ∃ x : Literal, r = b3k x /\ b5x x := by
 obtain ⟨a0, r0, rfl, h0, g0⟩ := b3e h
 obtain ⟨a1, r1, rfl, h1, g1⟩ := b3e g0
 obtain ⟨a2, r2, rfl, h2, g2⟩ := b3e g1
 obtain ⟨a3, r3, rfl, h3, g3⟩ := b3e g2
 obtain ⟨v0, rfl, k0⟩ := b6n h0
 obtain ⟨v1, rfl, k1⟩ := b6n h1
 obtain ⟨v2, rfl, k2⟩ := b6n h2
 obtain ⟨v3, rfl, k3⟩ := j8k h3
 exact ⟨⟨v0, v1, v2, v3⟩, by rw [b6o g3]; rfl, ⟨k0, k1, k2, k3⟩⟩
theorem j8f {a : AV} (h : Mt (.sl [.i .i64, .i .i64, .i .i64, .b]) a) : ∃ l : List Literal, a = .fs 4 (l.map b3k) /\ OkL b5x l := by
 obtain ⟨l, rfl, h1, h2⟩ := b8q b3k b5x h fun r hr => l4n hr
 exact ⟨l, rfl, h1, h2⟩
theorem l4m {r : List AV} (h : MtL [.sl [.i .i64, .i .i64, .i .i64, .b]] r) : ∃ x : List Literal, r = b0t x /\ OkL b5x x := by
 obtain ⟨a0, r0, rfl, h0, g0⟩ := b3e h
 obtain ⟨v0, rfl, k0⟩ := j8f h0
 exact ⟨v0, by rw [b6o g0]; rfl, k0⟩
theorem d4b {a : AV} (h : Mt (.sl [.sl [.i .i64, .i .i64, .i .i64, .b]]) a) : ∃ l : List (List Literal), a = .fs 1 (l.map b0t) /\ OkL (OkL b5x) l := by
 obtain ⟨l, rfl, h1, h2⟩ := b8q b0t (OkL b5x) h fun r hr => l4m hr
 exact ⟨l, rfl, h1, h2⟩
def c52 (x : Set) : Prop := b5k x.Kind /\ b5k x.Counter
theorem l4r {r : List AV} (h : MtL [.i .i64, .i .i64] r) : ∃ x : Set, r = b2o x /\ c52 x := by
 obtain ⟨a0, r0, rfl, h0, g0⟩ := b3e h
 obtain ⟨a1, r1, rfl, h1, g1⟩ := b3e g0
 obtain ⟨v0, rfl, k0⟩ := b6n h0
 obtain ⟨v1, rfl, k1⟩ := b6n h1
 exact ⟨⟨v0, v1⟩, by rw [b6o g1]; rfl, ⟨k0, k1⟩⟩
theorem j8h {a : AV} (h : Mt (.sl [.i .i64, .i .i64]) a) : ∃ l : List Set, a = .fs 2 (l.map b2o) /\ OkL c52 l := by
 obtain ⟨l, rfl, h1, h2⟩ := b8q b2o c52 h fun r hr => l4r hr
 exact ⟨l, rfl, h1, h2⟩
def c51 (x : Rule) : Prop := b5k x.From /\ b5k x.To /\ OkL (OkL b5x) x.When /\ OkL c52 x.Sets
theorem l4p {r : List AV} (h : MtL [.i .i64, .i .i64, .sl [.sl [.i .i64, .i .i64, .i .i64, .b]], .sl [.i .i64, .i .i64]] r) : ∃ x : Rule, r = b0m x /\ c51 x := by
 obtain ⟨a0, r0, rfl, h0, g0⟩ := b3e h
 obtain ⟨a1, r1, rfl, h1, g1⟩ := b3e g0
 obtain ⟨a2, r2, rfl, h2, g2⟩ := b3e g1
 obtain ⟨a3, r3, rfl, h3, g3⟩ := b3e g2
 obtain ⟨v0, rfl, k0⟩ := b6n h0
 obtain ⟨v1, rfl, k1⟩ := b6n h1
 obtain ⟨v2, rfl, k2⟩ := d4b h2
 obtain ⟨v3, rfl, k3⟩ := j8h h3
 exact ⟨⟨v0, v1, v2, v3⟩, by rw [b6o g3]; rfl, ⟨k0, k1, k2, k3⟩⟩
theorem j8g {a : AV} (h : Mt (.sl [.i .i64, .i .i64, .sl [.sl [.i .i64, .i .i64, .i .i64, .b]], .sl [.i .i64, .i .i64]]) a) : ∃ l : List Rule, a = .fs 4 (l.map b0m) /\ OkL c51 l := by
 obtain ⟨l, rfl, h1, h2⟩ := b8q b0m c51 h fun r hr => l4p hr
 exact ⟨l, rfl, h1, h2⟩
def b9d (x : Machine) : Prop := OkL c68 x.Inputs /\ OkL c68 x.Outputs /\ OkL r8n x.Counters /\ OkL c53 x.States /\ OkL c51 x.Rules
def u1r (x : Record) : Prop := b5k x.From /\ b5k x.To /\ True /\ OkL (OkL b5x) x.Cond
theorem u9e {r : List AV} (h : MtL [.i .i64, .i .i64, .b, .sl [.sl [.i .i64, .i .i64, .i .i64, .b]]] r) : ∃ x : Record, r = b26 x /\ u1r x := by
 obtain ⟨a0, r0, rfl, h0, g0⟩ := b3e h
 obtain ⟨a1, r1, rfl, h1, g1⟩ := b3e g0
 obtain ⟨a2, r2, rfl, h2, g2⟩ := b3e g1
 obtain ⟨a3, r3, rfl, h3, g3⟩ := b3e g2
 obtain ⟨v0, rfl, k0⟩ := b6n h0
 obtain ⟨v1, rfl, k1⟩ := b6n h1
 obtain ⟨v2, rfl, k2⟩ := j8k h2
 obtain ⟨v3, rfl, k3⟩ := d4b h3
 exact ⟨⟨v0, v1, v2, v3⟩, by rw [b6o g3]; rfl, ⟨k0, k1, k2, k3⟩⟩
theorem u84 {a : AV} (h : Mt (.sl [.i .i64, .i .i64, .b, .sl [.sl [.i .i64, .i .i64, .i .i64, .b]]]) a) : ∃ l : List Record, a = .fs 4 (l.map b26) /\ OkL u1r l := by
 obtain ⟨l, rfl, h1, h2⟩ := b8q b26 u1r h fun r hr => u9e hr
 exact ⟨l, rfl, h1, h2⟩
def s9d (x : Accident) : Prop := b9d x.Machine /\ OkL (OkL b5x) x.Assume /\ b5k x.Ticks /\ OkL u1r x.Records
def u7i (x : Accident) : List AV := [.fs 1 (List.map eS x.Machine.Inputs), .fs 1 (List.map eS x.Machine.Outputs), .fs 2 (List.map b0o x.Machine.Counters), .fs 2 (List.map b0p x.Machine.States), .fs 4 (List.map b0m x.Machine.Rules), .fs 1 (List.map b0t x.Assume), I x.Ticks, .fs 4 (List.map b26 x.Records)]
theorem u9d {r : List AV} (h : MtL [.sl [.s], .sl [.s], .sl [.s, .i .i64], .sl [.s, .i .i64], .sl [.i .i64, .i .i64, .sl [.sl [.i .i64, .i .i64, .i .i64, .b]], .sl [.i .i64, .i .i64]], .sl [.sl [.i .i64, .i .i64, .i .i64, .b]], .i .i64, .sl [.i .i64, .i .i64, .b, .sl [.sl [.i .i64, .i .i64, .i .i64, .b]]]] r) : ∃ x : Accident, r = u7i x /\ s9d x := by
 obtain ⟨a0, r0, rfl, h0, g0⟩ := b3e h
 obtain ⟨a1, r1, rfl, h1, g1⟩ := b3e g0
 obtain ⟨a2, r2, rfl, h2, g2⟩ := b3e g1
 obtain ⟨a3, r3, rfl, h3, g3⟩ := b3e g2
 obtain ⟨a4, r4, rfl, h4, g4⟩ := b3e g3
 obtain ⟨a5, r5, rfl, h5, g5⟩ := b3e g4
 obtain ⟨a6, r6, rfl, h6, g6⟩ := b3e g5
 obtain ⟨a7, r7, rfl, h7, g7⟩ := b3e g6
 obtain ⟨v0, rfl, k0⟩ := g1x h0
 obtain ⟨v1, rfl, k1⟩ := g1x h1
 obtain ⟨v2, rfl, k2⟩ := j8e h2
 obtain ⟨v3, rfl, k3⟩ := j8i h3
 obtain ⟨v4, rfl, k4⟩ := j8g h4
 obtain ⟨v5, rfl, k5⟩ := d4b h5
 obtain ⟨v6, rfl, k6⟩ := b6n h6
 obtain ⟨v7, rfl, k7⟩ := u84 h7
 exact ⟨⟨⟨v0, v1, v2, v3, v4⟩, v5, v6, v7⟩, by rw [b6o g7]; rfl, ⟨⟨k0, k1, k2, k3, k4⟩, k5, k6, k7⟩⟩
abbrev u4b : List Sh := [.sl [.s], .sl [.s], .sl [.s, .i .i64], .sl [.s, .i .i64], .sl [.i .i64, .i .i64, .sl [.sl [.i .i64, .i .i64, .i .i64, .b]], .sl [.i .i64, .i .i64]], .sl [.sl [.i .i64, .i .i64, .i .i64, .b]], .i .i64, .sl [.i .i64, .i .i64, .b, .sl [.sl [.i .i64, .i .i64, .i .i64, .b]]]]
theorem u9s {a : AV} (h : MtA (.agg u4b) a) : ∃ x : Accident, a = .agg [.fs 1 (List.map eS x.Machine.Inputs), .fs 1 (List.map eS x.Machine.Outputs), .fs 2 (List.map b0o x.Machine.Counters), .fs 2 (List.map b0p x.Machine.States), .fs 4 (List.map b0m x.Machine.Rules), .fs 1 (List.map b0t x.Assume), I x.Ticks, .fs 4 (List.map b26 x.Records)] /\ s9d x := by
 obtain ⟨r, rfl, hr⟩ := g1y h
 obtain ⟨x, rfl, hx⟩ := u9d hr
 exact ⟨x, rfl, hx⟩
def u1s (x : Theory) : Prop := b5k x.Input /\ b5k x.Value /\ b5k x.From
theorem u9f {r : List AV} (h : MtL [.i .i64, .i .i64, .i .i64] r) : ∃ x : Theory, r = u26 x /\ u1s x := by
 obtain ⟨a0, r0, rfl, h0, g0⟩ := b3e h
 obtain ⟨a1, r1, rfl, h1, g1⟩ := b3e g0
 obtain ⟨a2, r2, rfl, h2, g2⟩ := b3e g1
 obtain ⟨v0, rfl, k0⟩ := b6n h0
 obtain ⟨v1, rfl, k1⟩ := b6n h1
 obtain ⟨v2, rfl, k2⟩ := b6n h2
 exact ⟨⟨v0, v1, v2⟩, by rw [b6o g2]; rfl, ⟨k0, k1, k2⟩⟩
abbrev u4c : List Sh := [.i .i64, .i .i64, .i .i64]
theorem u9t {a : AV} (h : MtA (.agg u4c) a) : ∃ x : Theory, a = .agg [I x.Input, I x.Value, I x.From] /\ u1s x := by
 obtain ⟨r, rfl, hr⟩ := g1y h
 obtain ⟨x, rfl, hx⟩ := u9f hr
 exact ⟨x, rfl, hx⟩
end Go.Nw.UM
namespace Go.Nw.UM
section
variable [Bd]
theorem l5y {m : Machine} (h : b9d m) : ∀ n ∈ b3g m, n.size <= maxLen := by
 obtain ⟨h1, h2, h3, h4, h5⟩ := h
 intro n hn
 have hB := Bd.le
 simp only [b3g, List.mem_append, List.mem_map] at hn
 rcases hn with ((hn | hn) | ⟨c, hc, rfl⟩) | ⟨c, hc, rfl⟩
 ·exact Nat.le_trans (h1.2 n hn) hB
 ·exact Nat.le_trans (h2.2 n hn) hB
 ·exact Nat.le_trans (h3.2 c hc).1 hB
 ·exact Nat.le_trans (h4.2 c hc).1 hB
end
end Go.Nw.UM
namespace Go.Nw.UM
noncomputable section
theorem u4a {a : Accident} {th : Theory} (ha : OkA a) (hth : OkT a th) : (∃ w, Lst (l18 a th (fun _ => true) ftT) w /\ u0k a th = some (toI w, true)) \/ ((∀ w, ¬ l18 a th (fun _ => true) ftT w) /\ u0k a th = some ([], false)) :=
 u9k (keep := fun _ => true) (ft := ftT) ha hth (fun _ _ => rfl) (fun _ _ _ _ _ _ => rfl)
theorem u88 {a : Accident} {th : Theory} (hs : Small a) (hth : OkT a th) : ∃ b, (s8s a).bind (fun y => s88 a th y) = some b /\ (b = true ↔ ∃ w, l18 a th (fun _ => true) ftT w) := by
 have hn8 := hs.ok.n
 rw [u35 (by omega), bS9]
 obtain ⟨b, h1, h2⟩ := u89 (l := List.range a.Records.length) hs hth (fun i hi => List.mem_range.1 hi) (by rw [List.length_range]; exact hn8)
 refine ⟨b, h1, h2.trans ?_⟩
 exact ⟨fun ⟨w, hw⟩ => ⟨w, (u3c fun i hi => u3w hi).1 hw⟩, fun ⟨w, hw⟩ => ⟨w, (u3c fun i hi => u3w hi).2 hw⟩⟩
section
variable {a : Accident} {th : Theory} (hf : ∀ n ∈ b3g a.Machine, n.size <= maxLen) (hn : a.Records.length <= 10) (hs : c25 a ≠ 0 \/ Small a)
include hf hn hs
theorem u6i : ∃ r, u0g a th = some r /\ u05 a th = some r /\ ((l17 a th ≠ 0 /\ r = (false, l17 a th)) \/ (Small a /\ OkT a th /\ r.2 = 0 /\ (r.1 = true ↔ ∃ w, l18 a th (fun _ => true) ftT w))) := by
 unfold u0g u05
 rw [u23 hf hn, u24 hf hn, bS9, bS9]
 by_cases he : l17 a th = 0
 case neg => rw [if_pos (by simpa using he), if_pos (by simpa using he)]; exact ⟨_, rfl, rfl, .inl ⟨he, rfl⟩⟩
 rw [if_neg (by simp [he]), if_neg (by simp [he])]
 obtain ⟨ha, hth⟩ := u27.1 he
 have hs' : Small a := by
  rcases hs with h | h
  ·exact absurd (u1v.2 ha) h
  ·exact h
 obtain ⟨b, h1, h2⟩ := u88 hs' hth
 have h1' : ((s8s a).bind fun y7 => (s88 a th y7).bind fun y8 => some (y8, (0 : Int))) = some (b, 0) := by
  obtain ⟨y, hy, hb⟩ := bE9.1 h1
  rw [hy, bS9, hb, bS9]
 rw [h1']
 rcases u4a ha hth with ⟨w, hw, h3⟩ | ⟨hw, h3⟩
 ·have : b = true := h2.2 ⟨w, hw.1⟩
  subst this
  rw [h3, bS9]
  exact ⟨_, rfl, rfl, .inr ⟨hs', hth, rfl, h2⟩⟩
 ·have : b = false := by
   cases b with
   | false => rfl
   | true => obtain ⟨w, h⟩ := h2.1 rfl; exact absurd h (hw w)
  subst this
  rw [h3, bS9]
  exact ⟨_, rfl, rfl, .inr ⟨hs', hth, rfl, h2⟩⟩
theorem u6f : ∃ r, s9i a th = some r /\ s8x a th = some r /\ r.1.length <= 40 /\ ((l17 a th ≠ 0 /\ r = ([], l17 a th)) \/ (Small a /\ OkT a th /\ ((∃ w, Lst (l18 a th (fun _ => true) ftT) w /\ r = (toI w, 0)) \/ ((∀ w, ¬ l18 a th (fun _ => true) ftT w) /\ r = ([], 3))))) := by
 by_cases he : l17 a th = 0
 case neg =>
  unfold s9i s8x
  rw [u23 hf hn, u24 hf hn, bS9, bS9, if_pos (by simpa using he), if_pos (by simpa using he)]; exact ⟨_, rfl, rfl, by simp, .inl ⟨he, rfl⟩⟩
 obtain ⟨ha, hth⟩ := u27.1 he
 have hs' : Small a := by
  rcases hs with h | h
  ·exact absurd (u1v.2 ha) h
  ·exact h
 have h6 := tA6 hs'
 unfold s9i
 rw [u23 hf hn, bS9, if_neg (by simp [he])]
 rcases u6g hs' hth hf with ⟨w, hw, hl, h1⟩ | ⟨hw, h1⟩
 ·rcases u4a ha hth with ⟨w', hw', h3⟩ | ⟨hw', h3⟩
  ·have := u8w hw hw'
   subst this
   rw [h3, h1]
   exact ⟨_, rfl, rfl, by show (toI w).length <= 40; omega, .inr ⟨hs', hth, .inl ⟨w, hw, rfl⟩⟩⟩
  ·exact absurd hw.1 (hw' w)
 ·rcases u4a ha hth with ⟨w', hw', h3⟩ | ⟨hw', h3⟩
  ·exact absurd hw'.1 (hw w')
  ·rw [h3, h1]
   exact ⟨_, rfl, rfl, by simp, .inr ⟨hs', hth, .inr ⟨hw, rfl⟩⟩⟩
end
section
variable [Bd]
end
end
end Go.Nw.UM
namespace Go.Nw
end Go.Nw
namespace Go.Nw.UM
noncomputable section
section
variable {a : Accident} {th : Theory} {l : List Nat} {want : Nat}
theorem x56 : ∀ (w : List Nat) (t0 : Nat) (s0 : Place × Nat) (k x : Nat), Rch a th l t0 s0 -> AcD a th l want w (t0, s0) -> t0 + w.length = tA a -> w[k]? = some x ->
  ∃ s, Rch a th l (t0 + k) s /\ s.1 = pat (stA a th) t0 s0.1 w k /\ x < nA a /\ ∃ m', TD a th l (t0 + k, s) x = some m' /\ b64 a th l want m'
 | [], t0, s0, k, x, hR, hA, hlen, h => by simp at h
 | y :: ys, t0, s0, k, x, hR, hA, hlen, h => by
  rw [List.length_cons] at hlen
  obtain ⟨h1, m', h2, h3⟩ := (u1t (by show t0 < tA a; omega)).1 hA
  cases k with
  | zero =>
   simp only [List.getElem?_cons_zero, iE9] at h
   subst h
   exact ⟨s0, hR, by cases ys <;> rfl, h1, m', h2, ys, h3⟩
  | succ k =>
   simp only [List.getElem?_cons_succ] at h
   obtain ⟨D', _, _, e⟩ := u1f h2
   subst e
   obtain ⟨s, g1, g2, g3, g4⟩ := x56 ys (t0 + 1) _ k x ⟨s0, hR, y, h1, h2⟩ h3 (by omega) h
   rw [show t0 + 1 + k = t0 + (k + 1) by omega] at g1 g4
   exact ⟨s, g1, g2, g3, g4⟩
def x40 (a : Accident) (c : List (List Literal)) (tick : Nat) (t : Nat) (p : Place) (x : Nat) : Bool := decide (t ≠ tick) || !b46 a.Machine p (x : Int) c
theorem x53 {keep : Nat -> Bool} {c : List (List Literal)} {tick : Nat} {w : List Nat} : l18 a th keep (x40 a c tick) w ↔ l18 a th keep ftT w /\ ∀ x, w[tick]? = some x -> b46 a.Machine (pat (stA a th) 0 zero w tick) (x : Int) c = false := by
 unfold l18 l27
 rw [x5o, x5o]
 constructor
 ·rintro ⟨h1, h2, h3⟩
  refine ⟨⟨h1, fun k x hk => ?_, h3⟩, fun x hx => ?_⟩
  ·obtain ⟨g1, g2⟩ := h2 k x hk
   unfold okA at g2 ⊢
   rw [Bool.and_eq_true] at g2
   exact ⟨g1, by simp [g2.1, ftT]⟩
  ·obtain ⟨g1, g2⟩ := h2 tick x hx
   unfold okA x40 at g2
   rw [Nat.zero_add] at g2
   simpa using (Bool.and_eq_true_iff.1 g2).2
 ·rintro ⟨⟨h1, h2, h3⟩, h4⟩
  refine ⟨h1, fun k x hk => ?_, h3⟩
  obtain ⟨g1, g2⟩ := h2 k x hk
  unfold okA at g2 ⊢
  rw [Bool.and_eq_true] at g2
  refine ⟨g1, ?_⟩
  rw [g2.1, Bool.true_and, Nat.zero_add]
  unfold x40
  by_cases e : k = tick
  ·subst e; rw [h4 x hk]; simp
  ·simp [e]
def Bad (a : Accident) (th : Theory) (c : List (List Literal)) (tick : Nat) : Prop := ∃ w, l18 a th (fun _ => true) (x40 a c tick) w
theorem x60 (ha : OkA a) (hth : OkT a th) {c : List (List Literal)} (hc : b2s a.Machine true c) (tick : Nat) :
  ∃ r, x5q a th (fun z25 z26 z27 => v11 z25 z26 z27 (tick : Int) (situation_Plant.mk a.Machine) c) = some r /\ (r.2 = true ↔ Bad a th c tick) := by
 rcases u9k (keep := fun _ => true) (ft := x40 a c tick) (kp := fun _ => some true) (fp := fun z25 z26 z27 => v11 z25 z26 z27 (tick : Int) (situation_Plant.mk a.Machine) c) ha hth (fun _ _ => rfl) (fun t p x ht hp hx => by
   unfold v11 x40
   by_cases e : t = tick
   ·subst e
    rw [if_neg (by simp), c5w ha.m.z hp.s hc]
    simp
   ·rw [if_pos (by simp; omega)]
    simp [e]) with ⟨w, h1, h2⟩ | ⟨h1, h2⟩
 ·exact ⟨_, h2, fun _ => ⟨w, h1.1⟩, fun _ => rfl⟩
 ·exact ⟨_, h2, (fun h => by cases h), fun ⟨w, h⟩ => absurd h (h1 w)⟩
variable (hs : Small a) (hth : OkT a th)
include hs hth
end
section
variable {a : Accident} (hf : ∀ n ∈ b3g a.Machine, n.size <= maxLen) (hn : a.Records.length <= 10) (hs : c25 a ≠ 0 \/ Small a)
include hf hn hs
end
section
variable [Bd]
end
end
end Go.Nw.UM
namespace Go.Nw
section
variable {π : Type} {From To : Nat -> Nat} {Al keep : Nat -> Bool} {hold : Nat -> π -> Nat -> Bool} {st st' : Nat -> π -> Nat -> π} {ok : Nat -> π -> Nat -> Bool} {N T n : Nat}
def x44 (st st' : Nat -> π -> Nat -> π) : Nat -> π -> List Nat -> Prop
 | _, _, [] => True
 | t, p, x :: xs => st t p x = st' t p x /\ x44 st st' (t + 1) (st t p x) xs
theorem x88 : ∀ (xs : List Nat) (t : Nat) (p : π), x44 st st' t p xs -> (s9c st ok N t p xs ↔ s9c st' ok N t p xs)
 | [], _, _, _ => Iff.rfl
 | x :: xs, t, p, h => by
  unfold s9c
  rw [x88 xs _ _ h.2, h.1]
theorem x8x {i : Nat} : ∀ (xs : List Nat) (t : Nat) (b : Bool) (p : π), x44 st st' t p xs -> (b69 From To Al hold st i t b p xs ↔ b69 From To Al hold st' i t b p xs)
 | [], _, _, _, _ => Iff.rfl
 | x :: xs, t, b, p, h => by
  unfold b69
  rw [x8x xs _ _ _ h.2, x8x xs _ _ _ h.2, h.1]
theorem x89 : ∀ (xs : List Nat) (t : Nat) (p : π), (∀ k x, xs[k]? = some x -> st (t + k) (pat st t p xs k) x = st' (t + k) (pat st t p xs k) x) -> x44 st st' t p xs
 | [], _, _, _ => trivial
 | x :: xs, t, p, h => ⟨h 0 x (by simp), x89 xs _ _ fun k y hk => by
   have := h (k + 1) y (by simpa using hk)
   rw [show t + (k + 1) = t + 1 + k by omega] at this; exact this⟩
theorem x9i {p0 : π} {xs : List Nat} (h : x44 st st' 0 p0 xs) : l27 From To Al keep hold st ok N T n p0 xs ↔ l27 From To Al keep hold st' ok N T n p0 xs := by
 unfold l27
 rw [x88 xs 0 p0 h]
 refine and_congr_right fun _ => and_congr_right fun _ => ⟨fun g i hi hk => (x8x xs 0 false p0 h).1 (g i hi hk), fun g i hi hk => (x8x xs 0 false p0 h).2 (g i hi hk)⟩
end
end Go.Nw
namespace Go.Nw.UM
noncomputable section
theorem x9a : ∀ {b a : List Nat}, lle b a -> ∀ k x y, b[k]? = some x -> a[k]? = some y -> (∀ j : Nat, j < k -> b[j]? = a[j]?) -> x <= y
 | [], _, _, k, x, y, h, _, _ => by simp at h
 | _ :: _, [], h, _, _, _, _, _, _ => h.elim
 | x0 :: xs, y0 :: ys, h, 0, x, y, h1, h2, _ => by
  simp at h1 h2; subst h1 h2
  rcases h with h | ⟨h, _⟩ <;> omega
 | x0 :: xs, y0 :: ys, h, k + 1, x, y, h1, h2, h3 => by
  have h0 := h3 0 (by omega)
  simp at h0; subst h0
  rcases h with h | ⟨_, h⟩
  ·omega
  ·exact x9a h k x y (by simpa using h1) (by simpa using h2) fun j hj => by
    have := h3 (j + 1) (by omega); simpa using this
theorem x9h {a b : List Nat} (ha : a.length <= 1000) (hb : b.length = a.length) (h : lle b a) : x70 (toI a) (toI b) = some false := by
 unfold x70
 obtain ⟨r, h1, h2⟩ := j7u (f := u32 (toI a) (toI b)) a.length (fun (_ : Unit) k => k) (fun k _ => ∀ j : Nat, j < k -> b[j]? = a[j]?) (fun r => r = .inl () \/ r = .inr false) (fun _ k hk i1 => by
   obtain ⟨y, hy⟩ := b3b hk
   obtain ⟨x, hx⟩ := b3b (l := b) (k := k) (by omega)
   have hkb : k < b.length := by omega
   unfold u32
   simp only [s95, Int.ofNat_lt, hk, hkb, decide_true, Bool.and_self, if_true, u5m hy, u5m hx, bS9]
   have hle := x9a h k x y hx hy i1
   by_cases e : x = y
   ·subst e
    rw [if_neg (by simp), b2r hk (c50 ha)]
    exact .inl ⟨(), rfl, fun j hj => by
     by_cases e : j = k
     ·subst e; rw [hx, hy]
     ·exact i1 j (by omega)⟩
   ·rw [if_pos (by simp; omega)]
    refine .inr ⟨_, rfl, .inr ?_⟩
    rw [decide_eq_false (by omega)]) (fun _ i1 => by
   refine ⟨.inl (), ?_, .inl rfl⟩
   unfold u32
   simp only [s95, Int.lt_irrefl, decide_false, Bool.false_and, fT9, if_false]) 0 (Nat.zero_le _) (s := ()) (fun j hj => by omega)
 have h1' : b0w (u32 (toI a) (toI b)) 0 = some r := h1
 rw [h1', bS9]
 rcases h2 with rfl | rfl
 ·unfold x8z
  simp [s95, hb]
 ·rfl
section
variable {a : Accident} {th : Theory} (hf : ∀ n ∈ b3g a.Machine, n.size <= maxLen) (ha : OkA a) (hth : OkT a th)
include hf ha hth
theorem x9g {c : List (List Literal)} (hc : b2s a.Machine true c) {tick : Nat} (ht : tick < tA a) : ∃ b, x43 a [th] c (tick : Int) = some (b, 0) /\ (b = true ↔ ¬ Bad a th c tick) := by
 have hn8 := ha.n
 have hT := s9b ha
 have h40 := ha.t
 unfold x43
 rw [u6k hf (by omega), bS9, u1v.2 ha, if_neg (by simp)]
 obtain ⟨b, h1, h2⟩ := d5p ha.m.z c
 have hb : b = true := h2.2 hc
 subst hb
 rw [h1, bS9, if_neg (by simp)]
 have A : b0w (x45 a [th]) 0 = some (.inl ()) := by
  rcases b4j (f := x45 a [th]) (l := [th]) (p := fun _ x => ¬ OkT a x) (e := .inr (false, 1)) (u := .inl ()) (by simp [maxLen]) (fun k x hx => by
    refine ⟨!l59 a x, ?_, by unfold OkT; simp⟩
    unfold x45
    simp only [b1h hx, bS9, Int.ofNat_lt, b1k hx, decide_true, if_true, u9r]
    by_cases h : l59 a x = true <;> simp [h]) (by unfold x45; simp) with ⟨q1, q2⟩ | ⟨⟨k, x, q1, q2⟩, q3⟩
  ·exact q2
  ·have := mG9 q1
   rw [List.mem_singleton.1 this] at q2
   exact absurd hth q2
 rw [A, bS9]
 simp only
 unfold x5g
 have hw : c19 (tick : Int) 0 (wr (a.Ticks - 1)) = true := by
  rw [b3t (by omega) (by omega)]; unfold c19; simp; omega
 rw [hw, if_neg (by simp)]
 rcases b4j (f := x48 a [th] c (tick : Int)) (l := [th]) (p := fun _ x => Bad a x c tick) (e := .inr (false, 0)) (u := .inl ()) (by simp [maxLen]) (fun k x hx => by
   have hx' : x = th := List.mem_singleton.1 (mG9 hx)
   obtain ⟨r, g1, g2⟩ := x60 ha (by rw [hx']; exact hth : OkT a x) hc tick
   refine ⟨r.2, ?_, g2⟩
   unfold x48
   simp only [b1h hx, bS9, Int.ofNat_lt, b1k hx, decide_true, if_true, g1]) (by unfold x48; simp) with ⟨q1, q2⟩ | ⟨⟨k, x, q1, q2⟩, q3⟩
 ·rw [q2]
  exact ⟨true, rfl, fun _ => q1 0 th rfl, fun _ => rfl⟩
 ·rw [q3]
  have hx' : x = th := List.mem_singleton.1 (mG9 q1)
  subst hx'
  exact ⟨false, rfl, (fun h => by cases h), fun h => absurd q2 h⟩
end
theorem x9b (a : Accident) : OkT a ⟨-1, 0, 0⟩ := by
 unfold OkT l59
 rfl
theorem x9p (a : Accident) (t : Nat) (p : Place) (x : Nat) : stA a ⟨-1, 0, 0⟩ t p x = nxt a.Machine p (x : Int) := rfl
end
end Go.Nw.UM
namespace Go.Nw.UM
noncomputable section
theorem x9v : ((List.range 16).all fun x => (List.range 4).all fun i => (List.range 2).all fun v => decide ((b77 ⟨⟨[], [], [], [], []⟩⟩ ⟨1, (i : Int), 0, decide ((v : Int) = 0)⟩ ⟨0, (0, 0)⟩ (x : Int)) = some true -> ((shl .i64 1 (i : Int)).bind fun q6 => (shl .i64 (v : Int) (i : Int)).bind fun q7 => some (bor (g6a (x : Int) q6) q7)) = some (x : Int))) = true := by decide +kernel
theorem x9w {x i v : Nat} (hx : x < 16) (hi : i < 4) (hv : v < 2) (h : (b77 ⟨⟨[], [], [], [], []⟩⟩ ⟨1, (i : Int), 0, decide ((v : Int) = 0)⟩ ⟨0, (0, 0)⟩ (x : Int)) = some true) : ((shl .i64 1 (i : Int)).bind fun q6 => (shl .i64 (v : Int) (i : Int)).bind fun q7 => some (bor (g6a (x : Int) q6) q7)) = some (x : Int) := by
 have g := List.all_eq_true.1 x9v x (List.mem_range.2 hx)
 have g := List.all_eq_true.1 g i (List.mem_range.2 hi)
 have g := List.all_eq_true.1 g v (List.mem_range.2 hv)
 exact of_decide_eq_true g h
def b94 (t : Theory) : List (List Literal) := [[⟨1, t.Input, 0, decide (t.Value = 0)⟩]]
section
variable {a : Accident} {t : Theory} (ha : OkA a) (hth : OkT a t) (hi : ¬ t.Input < 0)
include ha hth hi
theorem x9z : b2s a.Machine true (b94 t) := by
 rcases u5f hth ha with ⟨h, _⟩ | ⟨h, _⟩
 ·omega
 ·refine ⟨by simp [b94], fun c hc => ?_⟩
  rw [List.mem_singleton.1 hc]
  refine ⟨by simp, fun l hl => ?_⟩
  rw [List.mem_singleton.1 hl]
  exact .inl ⟨rfl, h, by simp⟩
theorem x9y {p : Place} {x k : Nat} (hx : x < nA a) (h : b46 a.Machine p (x : Int) (b94 t) = true) : hdT t k x = (x : Int) := by
 have hz := ha.m.z.i
 have h16 := u3y ha
 rcases u5f hth ha with ⟨h, _⟩ | ⟨h1, h2, h3⟩
 ·omega
 unfold hdT hdO
 by_cases hc : (decide (t.Input < 0) || decide ((k : Int) < t.From)) = true
 ·rw [if_pos hc]; rfl
 ·rw [if_neg hc]
  obtain ⟨i, hi2⟩ : ∃ i : Nat, t.Input = i := ⟨t.Input.toNat, by omega⟩
  obtain ⟨v, hv⟩ : ∃ v : Nat, t.Value = v := ⟨t.Value.toNat, by omega⟩
  unfold In at h1
  have hl : (b77 ⟨⟨[], [], [], [], []⟩⟩ ⟨1, (i : Int), 0, decide ((v : Int) = 0)⟩ ⟨0, (0, 0)⟩ (x : Int)) = some true := by
   unfold b94 b46 at h
   simp only [List.any_cons, List.any_nil, List.all_cons, List.all_nil, Bool.or_false, Bool.and_true] at h
   unfold lit at h
   rw [hi2, hv] at h
   unfold b77 at h ⊢
   simp only [decide_true, if_true] at h ⊢
   cases hq : (shr .i64 (x : Int) (i : Int)) with
   | none => rw [hq] at h; cases h
   | some q =>
    rw [hq] at h
    rw [bS9] at h ⊢
    unfold b6w at h ⊢
    simpa using h
  rw [hi2, hv, x9w (by omega) (by omega) (by omega) hl]; rfl
theorem x9x (hno : ∀ k, k < tA a -> ¬ Bad a ⟨-1, 0, 0⟩ (b94 t) k) {w : List Nat} (hw : l18 a ⟨-1, 0, 0⟩ (fun _ => true) ftT w) : l18 a t (fun _ => true) ftT w := by
 refine (x9i (x89 w 0 zero fun k x hk => ?_)).1 hw
 have hlen := hw.1
 have hk' := b1k hk
 have hb := hno k (by omega)
 have hh : b46 a.Machine (pat (stA a ⟨-1, 0, 0⟩) 0 zero w k) (x : Int) (b94 t) = true := by
  cases hq : b46 a.Machine (pat (stA a ⟨-1, 0, 0⟩) 0 zero w k) (x : Int) (b94 t) with
  | true => rfl
  | false =>
   refine absurd ⟨w, x53.2 ⟨hw, fun y hy => ?_⟩⟩ hb
   rw [hk] at hy; cases hy; exact hq
 have hx := ((x5o w 0 zero).1 hw.2.1 k x hk).1
 rw [x9p]
 unfold stA
 rw [x9y ha hth hi hx hh]
end
section
variable [Bd]
theorem x9u (a : Accident) (t : Theory) (hm : s9d a) (ht : u1s t) : x54 a t = some true := by
 have hf := l5y hm.1
 unfold x54
 rcases u6h hf with h | ⟨hn, h, hs⟩
 ·rw [h]; rfl
 rw [h, bS9, u4j hf hn]
 by_cases he : c25 a = 0
 case neg => simp [he, l13]
 have ha := u1v.1 he
 have hs' : Small a := by
  rcases hs with h | h
  ·exact absurd he h
  ·exact h
 have hT := s9b ha
 have h6 := tA6 hs'
 simp only [he, fT9, if_false, bS9, not_true, decide_false, Bool.false_or]
 by_cases hc : ((!l59 a t) || decide (t.Input < 0)) = true
 ·rw [if_pos hc]; rfl
 rw [if_neg hc]
 simp only [Bool.or_eq_true, Bool.not_eq_true', decide_eq_true_eq, not_or, Bool.not_eq_false] at hc
 obtain ⟨hth, hi⟩ := hc
 have hth : OkT a t := hth
 have hv := x9z ha hth hi
 obtain ⟨b, h1, h2⟩ := j7u (f := s42 a t) (tA a) (fun (_ : Unit) k => k) (fun k _ => ∀ j, j < k -> ¬ Bad a ⟨-1, 0, 0⟩ (b94 t) j) (fun b => b = .inr true \/ (b = .inl () /\ ∀ j, j < tA a -> ¬ Bad a ⟨-1, 0, 0⟩ (b94 t) j)) (fun _ k hk i1 => by
   obtain ⟨b, g1, g2⟩ := x9g hf ha (x9b a) hv hk
   have hkt : (k : Int) < a.Ticks := by omega
   unfold s42
   unfold b94 at g1
   simp only [hkt, decide_true, if_true, g1, bS9, not_true, decide_false, fT9, if_false]
   cases b with
   | false => exact .inr ⟨_, rfl, .inl rfl⟩
   | true =>
    rw [if_neg (by simp), b2r hk (c50 (l := List.replicate (tA a) 0) (by simp; omega) |> (by simpa using ·))]
    exact .inl ⟨(), rfl, fun j hj => by
     by_cases e : j = k
     ·subst e; exact g2.1 rfl
     ·exact i1 j (by omega)⟩) (fun _ i1 => by
   refine ⟨.inl (), ?_, .inr ⟨rfl, i1⟩⟩
   unfold s42
   rw [hT]
   simp) 0 (Nat.zero_le _) (s := ()) (fun j hj => by omega)
 have h1' : b0w (s42 a t) 0 = some b := h1
 rw [h1', bS9]
 rcases h2 with rfl | ⟨rfl, hno⟩
 ·rfl
 simp only
 unfold x8y
 have hE0 : l17 a ⟨-1, 0, 0⟩ = 0 := u27.2 ⟨ha, x9b a⟩
 have hE : l17 a t = 0 := u27.2 ⟨ha, hth⟩
 obtain ⟨r, c1, _, _, c2⟩ := u6f (th := ⟨-1, 0, 0⟩) hf hn hs
 rw [c1, bS9]
 rcases c2 with ⟨q, _⟩ | ⟨_, _, ⟨w, hw, rfl⟩ | ⟨hw, rfl⟩⟩
 ·exact absurd hE0 q
 case inr => simp [l13]
 have hfit := x9x ha hth hi hno hw.1
 obtain ⟨r, p1, _, p2⟩ := u6i (th := t) hf hn hs
 rcases p2 with ⟨q, _⟩ | ⟨_, _, p3, p4⟩
 ·exact absurd hE q
 have hr : r = (true, 0) := Prod.ext (p4.2 ⟨w, hfit⟩) p3
 subst hr
 obtain ⟨r, d1, _, _, d2⟩ := u6f (th := t) hf hn hs
 rcases d2 with ⟨q, _⟩ | ⟨_, _, ⟨w', hw', rfl⟩ | ⟨hw', rfl⟩⟩
 ·exact absurd hE q
 case inr => exact absurd hfit (hw' w)
 have l1 : w.length = tA a := hw.1.1
 have l2 : w'.length = tA a := hw'.1.1
 simp only [p1, d1, bS9, not_true, decide_false, fT9, if_false, decide_true, Bool.and_true, Bool.and_self, if_true, s95, l1, l2]
 rw [x9h (by omega) (by omega) (hw'.2 w hfit)]
 simp [l13]
end
end
end Go.Nw.UM
