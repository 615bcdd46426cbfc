/- Plain laws on the models. -/
import Derived.Test.YtgkhgpphjhefaaaDoorUM
import Derived.Test.YtgkhgpphjhefaaaDoorNwTypes
import Derived.Test.YtgkhgpphjhefaaaDoorP3
import Derived.Test.YtgkhgpphjhefaaaDoorP4
set_option linter.all false
namespace Go.Nw.UM
variable [Bd]
def c68 (x : ByteArray) : Prop := x.size <= Bd.B
theorem l4q {r : List AV} (h : MtL [.s] r) : ∃ x : ByteArray, r = eS x /\ c68 x := by
 obtain ⟨a0, r0, rfl, h0, g0⟩ := b3e h
 obtain ⟨v0, rfl, k0⟩ := d4c h0
 exact ⟨v0, by rw [b6o g0]; rfl, k0⟩
theorem g1x {a : AV} (h : Mt (.sl [.s]) a) : ∃ l : List ByteArray, a = .fs 1 (l.map eS) /\ OkL c68 l := by
 obtain ⟨l, rfl, h1, h2⟩ := b8q eS c68 h fun r hr => l4q hr
 exact ⟨l, rfl, h1, h2⟩
def r8n (x : Counter) : Prop := c68 x.Name /\ b5k x.Max
theorem l4l {r : List AV} (h : MtL [.s, .i .i64] r) : ∃ x : Counter, r = b0o x /\ r8n x := by
 obtain ⟨a0, r0, rfl, h0, g0⟩ := b3e h
 obtain ⟨a1, r1, rfl, h1, g1⟩ := b3e g0
 obtain ⟨v0, rfl, k0⟩ := d4c h0
 obtain ⟨v1, rfl, k1⟩ := b6n h1
 exact ⟨⟨v0, v1⟩, by rw [b6o g1]; rfl, ⟨k0, k1⟩⟩
theorem j8e {a : AV} (h : Mt (.sl [.s, .i .i64]) a) : ∃ l : List Counter, a = .fs 2 (l.map b0o) /\ OkL r8n l := by
 obtain ⟨l, rfl, h1, h2⟩ := b8q b0o r8n h fun r hr => l4l hr
 exact ⟨l, rfl, h1, h2⟩
def y9d (x : State) : Prop := c68 x.Name /\ b5k x.Shows
theorem l4s {r : List AV} (h : MtL [.s, .i .i64] r) : ∃ x : State, r = b0p x /\ y9d x := by
 obtain ⟨a0, r0, rfl, h0, g0⟩ := b3e h
 obtain ⟨a1, r1, rfl, h1, g1⟩ := b3e g0
 obtain ⟨v0, rfl, k0⟩ := d4c h0
 obtain ⟨v1, rfl, k1⟩ := b6n h1
 exact ⟨⟨v0, v1⟩, by rw [b6o g1]; rfl, ⟨k0, k1⟩⟩
theorem j8i {a : AV} (h : Mt (.sl [.s, .i .i64]) a) : ∃ l : List State, a = .fs 2 (l.map b0p) /\ OkL y9d l := by
 obtain ⟨l, rfl, h1, h2⟩ := b8q b0p y9d h fun r hr => l4s hr
 exact ⟨l, rfl, h1, h2⟩
def b5x (x : Literal) : Prop := b5k x.Kind /\ b5k x.Number /\ b5k x.Value /\ True
theorem l4n {r : List AV} (h : MtL [.i .i64, .i .i64, .i .i64, .b] r) : ∃ x : Literal, r = b3k x /\ b5x x := by
 obtain ⟨a0, r0, rfl, h0, g0⟩ := b3e h
 obtain ⟨a1, r1, rfl, h1, g1⟩ := b3e g0
 obtain ⟨a2, r2, rfl, h2, g2⟩ := b3e g1
 obtain ⟨a3, r3, rfl, h3, g3⟩ := b3e g2
 obtain ⟨v0, rfl, k0⟩ := b6n h0
 obtain ⟨v1, rfl, k1⟩ := b6n h1
 obtain ⟨v2, rfl, k2⟩ := b6n h2
 obtain ⟨v3, rfl, k3⟩ := j8k h3
 exact ⟨⟨v0, v1, v2, v3⟩, by rw [b6o g3]; rfl, ⟨k0, k1, k2, k3⟩⟩
theorem j8f {a : AV} (h : Mt (.sl [.i .i64, .i .i64, .i .i64, .b]) a) : ∃ l : List Literal, a = .fs 4 (l.map b3k) /\ OkL b5x l := by
 obtain ⟨l, rfl, h1, h2⟩ := b8q b3k b5x h fun r hr => l4n hr
 exact ⟨l, rfl, h1, h2⟩
theorem l4m {r : List AV} (h : MtL [.sl [.i .i64, .i .i64, .i .i64, .b]] r) : ∃ x : List Literal, r = b0t x /\ OkL b5x x := by
 obtain ⟨a0, r0, rfl, h0, g0⟩ := b3e h
 obtain ⟨v0, rfl, k0⟩ := j8f h0
 exact ⟨v0, by rw [b6o g0]; rfl, k0⟩
theorem d4b {a : AV} (h : Mt (.sl [.sl [.i .i64, .i .i64, .i .i64, .b]]) a) : ∃ l : List (List Literal), a = .fs 1 (l.map b0t) /\ OkL (OkL b5x) l := by
 obtain ⟨l, rfl, h1, h2⟩ := b8q b0t (OkL b5x) h fun r hr => l4m hr
 exact ⟨l, rfl, h1, h2⟩
def z15 (x : Set) : Prop := b5k x.Kind /\ b5k x.Counter
theorem l4r {r : List AV} (h : MtL [.i .i64, .i .i64] r) : ∃ x : Set, r = b2o x /\ z15 x := by
 obtain ⟨a0, r0, rfl, h0, g0⟩ := b3e h
 obtain ⟨a1, r1, rfl, h1, g1⟩ := b3e g0
 obtain ⟨v0, rfl, k0⟩ := b6n h0
 obtain ⟨v1, rfl, k1⟩ := b6n h1
 exact ⟨⟨v0, v1⟩, by rw [b6o g1]; rfl, ⟨k0, k1⟩⟩
theorem j8h {a : AV} (h : Mt (.sl [.i .i64, .i .i64]) a) : ∃ l : List Set, a = .fs 2 (l.map b2o) /\ OkL z15 l := by
 obtain ⟨l, rfl, h1, h2⟩ := b8q b2o z15 h fun r hr => l4r hr
 exact ⟨l, rfl, h1, h2⟩
def y9c (x : Rule) : Prop := b5k x.From /\ b5k x.To /\ OkL (OkL b5x) x.When /\ OkL z15 x.Sets
theorem l4p {r : List AV} (h : MtL [.i .i64, .i .i64, .sl [.sl [.i .i64, .i .i64, .i .i64, .b]], .sl [.i .i64, .i .i64]] r) : ∃ x : Rule, r = b0m x /\ y9c x := by
 obtain ⟨a0, r0, rfl, h0, g0⟩ := b3e h
 obtain ⟨a1, r1, rfl, h1, g1⟩ := b3e g0
 obtain ⟨a2, r2, rfl, h2, g2⟩ := b3e g1
 obtain ⟨a3, r3, rfl, h3, g3⟩ := b3e g2
 obtain ⟨v0, rfl, k0⟩ := b6n h0
 obtain ⟨v1, rfl, k1⟩ := b6n h1
 obtain ⟨v2, rfl, k2⟩ := d4b h2
 obtain ⟨v3, rfl, k3⟩ := j8h h3
 exact ⟨⟨v0, v1, v2, v3⟩, by rw [b6o g3]; rfl, ⟨k0, k1, k2, k3⟩⟩
theorem j8g {a : AV} (h : Mt (.sl [.i .i64, .i .i64, .sl [.sl [.i .i64, .i .i64, .i .i64, .b]], .sl [.i .i64, .i .i64]]) a) : ∃ l : List Rule, a = .fs 4 (l.map b0m) /\ OkL y9c l := by
 obtain ⟨l, rfl, h1, h2⟩ := b8q b0m y9c h fun r hr => l4p hr
 exact ⟨l, rfl, h1, h2⟩
def b9d (x : Machine) : Prop := OkL c68 x.Inputs /\ OkL c68 x.Outputs /\ OkL r8n x.Counters /\ OkL y9d x.States /\ OkL y9c x.Rules
def g9z (x : Machine) : List AV := [.fs 1 (List.map eS x.Inputs), .fs 1 (List.map eS x.Outputs), .fs 2 (List.map b0o x.Counters), .fs 2 (List.map b0p x.States), .fs 4 (List.map b0m x.Rules)]
theorem l4o {r : List AV} (h : MtL [.sl [.s], .sl [.s], .sl [.s, .i .i64], .sl [.s, .i .i64], .sl [.i .i64, .i .i64, .sl [.sl [.i .i64, .i .i64, .i .i64, .b]], .sl [.i .i64, .i .i64]]] r) : ∃ x : Machine, r = g9z x /\ b9d x := by
 obtain ⟨a0, r0, rfl, h0, g0⟩ := b3e h
 obtain ⟨a1, r1, rfl, h1, g1⟩ := b3e g0
 obtain ⟨a2, r2, rfl, h2, g2⟩ := b3e g1
 obtain ⟨a3, r3, rfl, h3, g3⟩ := b3e g2
 obtain ⟨a4, r4, rfl, h4, g4⟩ := b3e g3
 obtain ⟨v0, rfl, k0⟩ := g1x h0
 obtain ⟨v1, rfl, k1⟩ := g1x h1
 obtain ⟨v2, rfl, k2⟩ := j8e h2
 obtain ⟨v3, rfl, k3⟩ := j8i h3
 obtain ⟨v4, rfl, k4⟩ := j8g h4
 exact ⟨⟨v0, v1, v2, v3, v4⟩, by rw [b6o g4]; rfl, ⟨k0, k1, k2, k3, k4⟩⟩
def u1s (x : Theory) : Prop := b5k x.Input /\ b5k x.Value /\ b5k x.From
abbrev d43 : List Sh := [.sl [.s], .sl [.s], .sl [.s, .i .i64], .sl [.s, .i .i64], .sl [.i .i64, .i .i64, .sl [.sl [.i .i64, .i .i64, .i .i64, .b]], .sl [.i .i64, .i .i64]]]
theorem l52 {a : AV} (h : MtA (.agg d43) a) : ∃ x : Machine, a = .agg [.fs 1 (List.map eS x.Inputs), .fs 1 (List.map eS x.Outputs), .fs 2 (List.map b0o x.Counters), .fs 2 (List.map b0p x.States), .fs 4 (List.map b0m x.Rules)] /\ b9d x := by
 obtain ⟨r, rfl, hr⟩ := g1y h
 obtain ⟨x, rfl, hx⟩ := l4o hr
 exact ⟨x, rfl, hx⟩
def y9e (x : neweltop_Charge) : Prop := OkL (OkL b5x) x.Assume /\ OkL (OkL b5x) x.Never /\ b5k x.Ticks /\ u1s x.Theory
def y9v (x : neweltop_Charge) : List AV := [.fs 1 (List.map b0t x.Assume), .fs 1 (List.map b0t x.Never), I x.Ticks, I x.Theory.Input, I x.Theory.Value, I x.Theory.From]
theorem y92 {r : List AV} (h : MtL [.sl [.sl [.i .i64, .i .i64, .i .i64, .b]], .sl [.sl [.i .i64, .i .i64, .i .i64, .b]], .i .i64, .i .i64, .i .i64, .i .i64] r) : ∃ x : neweltop_Charge, r = y9v x /\ y9e x := by
 obtain ⟨a0, r0, rfl, h0, g0⟩ := b3e h
 obtain ⟨a1, r1, rfl, h1, g1⟩ := b3e g0
 obtain ⟨a2, r2, rfl, h2, g2⟩ := b3e g1
 obtain ⟨a3, r3, rfl, h3, g3⟩ := b3e g2
 obtain ⟨a4, r4, rfl, h4, g4⟩ := b3e g3
 obtain ⟨a5, r5, rfl, h5, g5⟩ := b3e g4
 obtain ⟨v0, rfl, k0⟩ := d4b h0
 obtain ⟨v1, rfl, k1⟩ := d4b h1
 obtain ⟨v2, rfl, k2⟩ := b6n h2
 obtain ⟨v3, rfl, k3⟩ := b6n h3
 obtain ⟨v4, rfl, k4⟩ := b6n h4
 obtain ⟨v5, rfl, k5⟩ := b6n h5
 exact ⟨⟨v0, v1, v2, ⟨v3, v4, v5⟩⟩, by rw [b6o g5]; rfl, ⟨k0, k1, k2, ⟨k3, k4, k5⟩⟩⟩
abbrev y9l : List Sh := [.sl [.sl [.i .i64, .i .i64, .i .i64, .b]], .sl [.sl [.i .i64, .i .i64, .i .i64, .b]], .i .i64, .i .i64, .i .i64, .i .i64]
theorem y93 {a : AV} (h : MtA (.agg y9l) a) : ∃ x : neweltop_Charge, a = .agg [.fs 1 (List.map b0t x.Assume), .fs 1 (List.map b0t x.Never), I x.Ticks, I x.Theory.Input, I x.Theory.Value, I x.Theory.From] /\ y9e x := by
 obtain ⟨r, rfl, hr⟩ := g1y h
 obtain ⟨x, rfl, hx⟩ := y92 hr
 exact ⟨x, rfl, hx⟩
end Go.Nw.UM
namespace Go.Nw.UM
section
variable [Bd]
theorem l5y {m : Machine} (h : b9d m) : ∀ n ∈ b3g m, n.size <= maxLen := by
 obtain ⟨h1, h2, h3, h4, h5⟩ := h
 intro n hn
 have hB := Bd.le
 simp only [b3g, List.mem_append, List.mem_map] at hn
 rcases hn with ((hn | hn) | ⟨c, hc, rfl⟩) | ⟨c, hc, rfl⟩
 ·exact Nat.le_trans (h1.2 n hn) hB
 ·exact Nat.le_trans (h2.2 n hn) hB
 ·exact Nat.le_trans (h3.2 c hc).1 hB
 ·exact Nat.le_trans (h4.2 c hc).1 hB
end
end Go.Nw.UM
namespace Go.Nw.UM
noncomputable section
theorem u4a {a : Accident} {th : Theory} (ha : OkA a) (hth : OkT a th) : (∃ w, Lst (l18 a th (fun _ => true) ftT) w /\ u0k a th = some (toI w, true)) \/ ((∀ w, ¬ l18 a th (fun _ => true) ftT w) /\ u0k a th = some ([], false)) :=
 u9k (keep := fun _ => true) (ft := ftT) ha hth (fun _ _ => rfl) (fun _ _ _ _ _ _ => rfl)
theorem u88 {a : Accident} {th : Theory} (hs : Small a) (hth : OkT a th) : ∃ b, (s8s a).bind (fun y => z12 a th y) = some b /\ (b = true ↔ ∃ w, l18 a th (fun _ => true) ftT w) := by
 have hn8 := hs.ok.n
 rw [u35 (by omega), bS9]
 obtain ⟨b, h1, h2⟩ := u89 (l := List.range a.Records.length) hs hth (fun i hi => List.mem_range.1 hi) (by rw [List.length_range]; exact hn8)
 refine ⟨b, h1, h2.trans ?_⟩
 exact ⟨fun ⟨w, hw⟩ => ⟨w, (u3c fun i hi => u3w hi).1 hw⟩, fun ⟨w, hw⟩ => ⟨w, (u3c fun i hi => u3w hi).2 hw⟩⟩
section
variable {a : Accident} {th : Theory} (hf : ∀ n ∈ b3g a.Machine, n.size <= maxLen) (hn : a.Records.length <= 10) (hs : b40 a ≠ 0 \/ Small a)
include hf hn hs
theorem u6i : ∃ r, u0g a th = some r /\ u05 a th = some r /\ ((c14 a th ≠ 0 /\ r = (false, c14 a th)) \/ (Small a /\ OkT a th /\ r.2 = 0 /\ (r.1 = true ↔ ∃ w, l18 a th (fun _ => true) ftT w))) := by
 unfold u0g u05
 rw [u23 hf hn, u24 hf hn, bS9, bS9]
 by_cases he : c14 a th = 0
 case neg => rw [if_pos (by simpa using he), if_pos (by simpa using he)]; exact ⟨_, rfl, rfl, .inl ⟨he, rfl⟩⟩
 rw [if_neg (by simp [he]), if_neg (by simp [he])]
 obtain ⟨ha, hth⟩ := u27.1 he
 have hs' : Small a := by
  rcases hs with h | h
  ·exact absurd (u1v.2 ha) h
  ·exact h
 obtain ⟨b, h1, h2⟩ := u88 hs' hth
 have h1' : ((s8s a).bind fun y7 => (z12 a th y7).bind fun y8 => some (y8, (0 : Int))) = some (b, 0) := by
  obtain ⟨y, hy, hb⟩ := bE9.1 h1
  rw [hy, bS9, hb, bS9]
 rw [h1']
 rcases u4a ha hth with ⟨w, hw, h3⟩ | ⟨hw, h3⟩
 ·have : b = true := h2.2 ⟨w, hw.1⟩
  subst this
  rw [h3, bS9]
  exact ⟨_, rfl, rfl, .inr ⟨hs', hth, rfl, h2⟩⟩
 ·have : b = false := by
   cases b with
   | false => rfl
   | true => obtain ⟨w, h⟩ := h2.1 rfl; exact absurd h (hw w)
  subst this
  rw [h3, bS9]
  exact ⟨_, rfl, rfl, .inr ⟨hs', hth, rfl, h2⟩⟩
end
section
variable [Bd]
end
end
end Go.Nw.UM
namespace Go.Nw
end Go.Nw
namespace Go.Nw.UM
noncomputable section
section
variable {a : Accident} {th : Theory} {l : List Nat} {want : Nat}
theorem x56 : ∀ (w : List Nat) (t0 : Nat) (s0 : Place × Nat) (k x : Nat), Rch a th l t0 s0 -> AcD a th l want w (t0, s0) -> t0 + w.length = tA a -> w[k]? = some x ->
  ∃ s, Rch a th l (t0 + k) s /\ s.1 = pat (stA a th) t0 s0.1 w k /\ x < nA a /\ ∃ m', TD a th l (t0 + k, s) x = some m' /\ b64 a th l want m'
 | [], t0, s0, k, x, hR, hA, hlen, h => by simp at h
 | y :: ys, t0, s0, k, x, hR, hA, hlen, h => by
  rw [List.length_cons] at hlen
  obtain ⟨h1, m', h2, h3⟩ := (u1t (by show t0 < tA a; omega)).1 hA
  cases k with
  | zero =>
   simp only [List.getElem?_cons_zero, iE9] at h
   subst h
   exact ⟨s0, hR, by cases ys <;> rfl, h1, m', h2, ys, h3⟩
  | succ k =>
   simp only [List.getElem?_cons_succ] at h
   obtain ⟨D', _, _, e⟩ := u1f h2
   subst e
   obtain ⟨s, g1, g2, g3, g4⟩ := x56 ys (t0 + 1) _ k x ⟨s0, hR, y, h1, h2⟩ h3 (by omega) h
   rw [show t0 + 1 + k = t0 + (k + 1) by omega] at g1 g4
   exact ⟨s, g1, g2, g3, g4⟩
variable (hs : Small a) (hth : OkT a th)
include hs hth
end
section
variable {a : Accident} (hf : ∀ n ∈ b3g a.Machine, n.size <= maxLen) (hn : a.Records.length <= 10) (hs : b40 a ≠ 0 \/ Small a)
include hf hn hs
end
section
variable [Bd]
end
end
end Go.Nw.UM
namespace Go.Nw
section
variable {π : Type} {From To : Nat -> Nat} {Al keep : Nat -> Bool} {hold : Nat -> π -> Nat -> Bool} {st st' : Nat -> π -> Nat -> π} {ok : Nat -> π -> Nat -> Bool} {N T n : Nat}
end
end Go.Nw
namespace Go.Nw.UM
noncomputable section
section
variable {a : Accident} {th : Theory} (hf : ∀ n ∈ b3g a.Machine, n.size <= maxLen) (ha : OkA a) (hth : OkT a th)
include hf ha hth
end
end
end Go.Nw.UM
namespace Go.Nw.UM
noncomputable section
section
variable [Bd]
end
end
end Go.Nw.UM
namespace Go.Nw.UM
noncomputable section
theorem o6k : ((List.range 16).all fun x => (List.range 4).all fun i => (List.range 2).all fun v => decide (s99 (x : Int) (i : Int) (v : Int) = b6a (x : Int) (i : Int) (v : Int)) && (b6a (x : Int) (i : Int) (v : Int)).isSome) = true := by decide +kernel
theorem o6l {x i v : Nat} (hx : x < 16) (hi : i < 4) (hv : v < 2) : s99 x i v = b6a x i v /\ ∃ y, b6a x i v = some y := by
 have h := List.all_eq_true.1 o6k x (List.mem_range.2 hx)
 have h := List.all_eq_true.1 h i (List.mem_range.2 hi)
 have h := List.all_eq_true.1 h v (List.mem_range.2 hv)
 simp only [Bool.and_eq_true, decide_eq_true_eq] at h
 exact ⟨h.1, Option.isSome_iff_exists.1 h.2⟩
def hs (i v : Nat) (x : Nat) : Int := (b6a x i v).getD 0
theorem o54 {x i v : Nat} (hx : x < 16) (hi : i < 4) (hv : v < 2) : b6a x i v = some (hs i v x) /\ s99 x i v = some (hs i v x) := by
 obtain ⟨h1, y, h2⟩ := o6l hx hi hv
 unfold hs
 rw [h1, h2]; exact ⟨rfl, rfl⟩
theorem o6j {n : Nat} (h : n <= 4) : 2 ^ n <= 16 := by
 have : n = 0 \/ n = 1 \/ n = 2 \/ n = 3 \/ n = 4 := by omega
 rcases this with rfl | rfl | rfl | rfl | rfl <;> decide
theorem d6y {m : Machine} {c n : List (List Literal)} (h : b7w m [c, n] 0) : OkM m /\ b2s m true c /\ b2s m true n := by
 rcases h with ⟨_, a, b⟩ | ⟨e, _⟩ | ⟨e, _⟩
 ·exact ⟨a, b c (by simp), b n (by simp)⟩
 ·cases e
 ·cases e
theorem o59 {m : Machine} (hf : ∀ n ∈ b3g m, n.size <= maxLen) (c never : List (List Literal)) : ∃ r, b35 m c never = some r /\ c38 m c never = some r /\ r.2.2.1.length <= 768 /\
  b7w m [c, never] r.2.2.2.2 /\ (r.2.2.2.2 = 0 ->
   (r = (0, 0, [], false, 0) /\ ∀ i v, i < m.Inputs.length -> v < 2 -> ∃ b, d5x m c never (hs i v) b /\ b.2 = false) \/
   ∃ (i v : Nat) (b : List Int × Bool), i < m.Inputs.length /\ v < 2 /\ d5x m c never (hs i v) b /\ b.2 = true /\ r = ((i : Int), (v : Int), b.1, true, 0)) := by
 obtain ⟨e, h1, h2⟩ := d6t hf (l := [c, never]) (by simp)
 obtain ⟨e', h3, h4⟩ := d5s hf (l := [c, never]) (by simp)
 obtain rfl := d6z h2 h4
 unfold b35 c38 c58 o5v
 rw [h1, h3, bS9, bS9]
 by_cases he : e = 0
 case neg =>
  refine ⟨(0, 0, [], false, e), ?_, ?_, by simp, h2, fun h => absurd h he⟩ <;> rw [if_pos (by simpa using he)]
 subst he
 obtain ⟨hm, hc, hn⟩ := d6y h2
 have hi4 : m.Inputs.length <= 4 := hm.z.i
 have hp16 := o6j hi4
 rw [if_neg (by simp), if_neg (by simp)]
 have ex : ∀ i v : Nat, i < m.Inputs.length /\ v < 2 -> ∃ b : (List Int × Bool) × r04_graph, c1t ⟨⟨m⟩⟩ c never (fun z18 => s99 z18 i v) = some b.1 /\ b8z m c i v = some b.2 /\ c1x b.2 m never = some b.1 /\ b.1.1.length <= 768 /\ d5x m c never (hs i v) b.1 := fun i v ⟨hi, hv⟩ => by
  obtain ⟨r, g, a1, a2, a3, a4, a5⟩ := g6v (hd := hs i v) hm hc hn (heard := fun z18 => s99 z18 i v) (fun x hx => (o54 (by omega) (by omega) hv).2) (inp := i) (val := v) (fun x hx => (o54 (by omega) (by omega) hv).1)
  exact ⟨(r, g), a1, a2, a3, a4, a5⟩
 obtain ⟨Bf, hB⟩ : ∃ Bf : Nat -> Nat -> (List Int × Bool) × r04_graph, ∀ i v : Nat, i < m.Inputs.length -> v < 2 -> c1t ⟨⟨m⟩⟩ c never (fun z18 => s99 z18 i v) = some (Bf i v).1 /\ b8z m c i v = some (Bf i v).2 /\ c1x (Bf i v).2 m never = some (Bf i v).1 /\ (Bf i v).1.1.length <= 768 /\ d5x m c never (hs i v) (Bf i v).1 :=
  ⟨fun i v => if h : i < m.Inputs.length /\ v < 2 then (ex i v h).choose else default, fun i v hi hv => by dsimp only; rw [dif_pos ⟨hi, hv⟩]; exact (ex i v ⟨hi, hv⟩).choose_spec⟩
 have inner1 : ∀ i : Nat, i < m.Inputs.length -> b0w (b19 m c never i) 0 = some (match b5q 2 (fun v => (Bf i v).1.2) with | some v => .inr ((i : Int), (v : Int), (Bf i v).1.1, true, 0) | none => .inl ()) := fun i hi =>
  c7s (f := b19 m c never i) (n := 2) (p := fun v => (Bf i v).1.2) (e := fun v => .inr ((i : Int), (v : Int), (Bf i v).1.1, true, 0)) (fun v hv hp => by
   unfold b19
   have : (v : Int) < 2 := by omega
   simp only [this, decide_true, if_true, show b3h m = ⟨⟨m⟩⟩ from rfl, (hB i v hi hv).1, bS9]
   rw [if_pos hp]) (fun v hv hp => by
   unfold b19
   have : (v : Int) < 2 := by omega
   simp only [this, decide_true, if_true, show b3h m = ⟨⟨m⟩⟩ from rfl, (hB i v hi hv).1, bS9]
   rw [if_neg (by rw [hp]; simp), b2r hv (by decide)]) (by
   unfold b19; rfl)
 have inner2 : ∀ i : Nat, i < m.Inputs.length -> b0w (b24 m c never i) 0 = some (match b5q 2 (fun v => (Bf i v).1.2) with | some v => .inr ((i : Int), (v : Int), (Bf i v).1.1, true, 0) | none => .inl ()) := fun i hi =>
  c7s (f := b24 m c never i) (n := 2) (p := fun v => (Bf i v).1.2) (e := fun v => .inr ((i : Int), (v : Int), (Bf i v).1.1, true, 0)) (fun v hv hp => by
   unfold b24
   have : (v : Int) < 2 := by omega
   simp only [this, decide_true, if_true, (hB i v hi hv).2.1, (hB i v hi hv).2.2.1, bS9]
   rw [if_pos hp]) (fun v hv hp => by
   unfold b24
   have : (v : Int) < 2 := by omega
   simp only [this, decide_true, if_true, (hB i v hi hv).2.1, (hB i v hi hv).2.2.1, bS9]
   rw [if_neg (by rw [hp]; simp), b2r hv (by decide)]) (by
   unfold b24; rfl)
 have hp2 : ∀ i, (b5q 2 (fun v => (Bf i v).1.2)).isSome = false ↔ ∀ v, v < 2 -> (Bf i v).1.2 = false := fun i => by
  rw [Option.isSome_eq_false_iff, Option.isNone_iff_eq_none, d72]
 have outer1 := c7s (f := b25 m c never) (n := m.Inputs.length) (p := fun i => (b5q 2 (fun v => (Bf i v).1.2)).isSome) (e := fun i => .inr ((i : Int), (((b5q 2 (fun v => (Bf i v).1.2)).getD 0 : Nat) : Int), (Bf i ((b5q 2 (fun v => (Bf i v).1.2)).getD 0)).1.1, true, 0)) (u := .inl ()) (fun i hi hp => by
   obtain ⟨v, hv⟩ := Option.isSome_iff_exists.1 hp
   unfold b25
   simp only [Int.ofNat_lt, hi, decide_true, if_true, inner1 i hi, bS9]
   rw [hv]; rfl) (fun i hi hp => by
   have := Option.isNone_iff_eq_none.1 (Option.isSome_eq_false_iff.1 hp)
   unfold b25 c41
   simp only [Int.ofNat_lt, hi, decide_true, if_true, inner1 i hi, bS9]
   rw [this]; simp only; rw [b2r hi (b1o (by omega))]) (by
   unfold b25
   simp only [Int.lt_irrefl, decide_false, fT9, if_false])
 have outer2 := c7s (f := b30 m c never) (n := m.Inputs.length) (p := fun i => (b5q 2 (fun v => (Bf i v).1.2)).isSome) (e := fun i => .inr ((i : Int), (((b5q 2 (fun v => (Bf i v).1.2)).getD 0 : Nat) : Int), (Bf i ((b5q 2 (fun v => (Bf i v).1.2)).getD 0)).1.1, true, 0)) (u := .inl ()) (fun i hi hp => by
   obtain ⟨v, hv⟩ := Option.isSome_iff_exists.1 hp
   unfold b30
   simp only [Int.ofNat_lt, hi, decide_true, if_true, inner2 i hi, bS9]
   rw [hv]; rfl) (fun i hi hp => by
   have := Option.isNone_iff_eq_none.1 (Option.isSome_eq_false_iff.1 hp)
   unfold b30 o5u
   simp only [Int.ofNat_lt, hi, decide_true, if_true, inner2 i hi, bS9]
   rw [this]; simp only; rw [b2r hi (b1o (by omega))]) (by
   unfold b30
   simp only [Int.lt_irrefl, decide_false, fT9, if_false])
 rw [outer1, outer2, bS9]
 cases hfi : b5q m.Inputs.length (fun i => (b5q 2 (fun v => (Bf i v).1.2)).isSome) with
 | none =>
  refine ⟨(0, 0, [], false, 0), rfl, rfl, by simp, h2, fun _ => .inl ⟨rfl, fun i v hi hv => ?_⟩⟩
  exact ⟨_, (hB i v hi hv).2.2.2.2, (hp2 i).1 (d72.1 hfi i hi) v hv⟩
 | some i =>
  obtain ⟨hi, hp, _⟩ := j00 hfi
  obtain ⟨v, hv⟩ := Option.isSome_iff_exists.1 hp
  obtain ⟨hv2, hvp, _⟩ := j00 hv
  refine ⟨((i : Int), (v : Int), (Bf i v).1.1, true, 0), by simp only [hv]; rfl, by simp only [hv]; rfl, (hB i v hi hv2).2.2.2.1, h2, fun _ => .inr ⟨i, v, (Bf i v).1, hi, hv2, (hB i v hi hv2).2.2.2.2, hvp, rfl⟩⟩
section
variable [Bd]
end
end
end Go.Nw.UM
namespace Go.Nw.UM
noncomputable section
theorem d9s (x : Nat) : b6a x (-1) 0 = some (idn x) := g5p x
theorem g5j {m : Machine} (hf : ∀ n ∈ b3g m, n.size <= maxLen) (c never : List (List Literal)) : ∃ r, c2e m c never = some r /\ c34 m c never = some r /\ r.1.length <= 768 /\ b7w m [c, never] r.2.2 /\ (r.2.2 = 0 -> d5x m c never idn (r.1, r.2.1)) := by
 obtain ⟨e, h1, h2⟩ := d6t hf (l := [c, never]) (by simp)
 obtain ⟨e', h3, h4⟩ := d5s hf (l := [c, never]) (by simp)
 obtain rfl := d6z h2 h4
 unfold c2e c34
 rw [h1, h3, bS9, bS9]
 by_cases he : e = 0
 case neg =>
  refine ⟨([], false, e), ?_, ?_, by simp, h2, fun h => absurd h he⟩ <;> rw [if_pos (by simpa using he)]
 subst he
 obtain ⟨hm, hc, hn⟩ := d6y h2
 obtain ⟨r, g, a1, a2, a3, a4, a5⟩ := g6v (hd := idn) hm hc hn (heard := fun z7 => some (b6f z7)) (fun x _ => rfl) (inp := -1) (val := 0) (fun x _ => d9s x)
 rw [if_neg (by simp), if_neg (by simp), show b3h m = ⟨⟨m⟩⟩ from rfl, a1, a2, bS9, bS9, a3]
 exact ⟨(r.1, r.2, 0), rfl, rfl, a4, h2, fun _ => a5⟩
section
variable {m : Machine} {c rest : List (List Literal)} {K : Nat}
end
section
variable [Bd]
end
end
end Go.Nw.UM
namespace Go.Nw.UM
noncomputable section
section
variable [Bd]
end
end
end Go.Nw.UM
namespace Go.Nw
section
variable {π : Type} {st : Nat -> π -> Nat -> π} {ok : Nat -> π -> Nat -> Bool} {N : Nat}
theorem y7y {I : π -> Prop} (hI : ∀ t p x, I p -> x < N -> ok t p x = true -> I (st t p x)) : ∀ (xs : List Nat) (t : Nat) (p : π), s9c st ok N t p xs -> I p -> ∀ k, I (pat st t p xs k)
 | [], _, _, _, h, 0 => h
 | [], _, _, _, h, _ + 1 => h
 | _ :: _, _, _, _, h, 0 => h
 | x :: xs, t, p, hf, h, k + 1 => y7y hI xs (t + 1) (st t p x) hf.2.2 (hI t p x h hf.1 hf.2.1) k
end
end Go.Nw
namespace Go.Nw.UM
noncomputable section
section
variable {m : Machine} {c : List (List Literal)} {hd : Nat -> Int}
theorem p24 (k : Nat) : zero ∈ (b0h m c hd k).1 := (d4g (m := m) (c := c) (hd := hd) (Nat.zero_le k)).subset (by simp [b0h])
theorem y9u {K : Nat} (hK : End m c hd K) {p : Place} (hp : p ∈ (b0h m c hd K).1) {x : Nat} (hx : x < 2 ^ m.Inputs.length) (ha : c25 m p x c = true) : nxt m p (hd x) ∈ (b0h m c hd K).1 := by
 obtain ⟨k, hk⟩ := b1d.1 hp
 exact closed hk (by have := b1k hk; have := hK.2.2; omega) ha hx
end
theorem y8b {m : Machine} {p : Place} {x y : Int} {l : Literal} (h : ¬ l.Kind = 1) : lit m p x l = lit m p y l := by
 unfold lit b77
 simp only [h, decide_false, fT9, if_false]
theorem y9z {m : Machine} {p : Place} {x y : Int} {c : List (List Literal)} (h : ∀ t ∈ c, ∀ l ∈ t, ¬ l.Kind = 1) : b46 m p x c = b46 m p y c := by
 unfold b46
 rw [Bool.eq_iff_iff, List.any_eq_true, List.any_eq_true]
 refine exists_congr fun t => and_congr_right fun ht => ?_
 rw [List.all_eq_true, List.all_eq_true]
 exact forall_congr' fun l => forall_congr' fun hl => by rw [y8b (h t ht l hl)]
theorem y9w {a : Accident} {th : Theory} {keep : Nat -> Bool} {ft : Nat -> Place -> Nat -> Bool} {w : List Nat} (hw : l18 a th keep ft w) {I : Place -> Prop} (h0 : I zero) (hI : ∀ t p x, I p -> x < nA a -> c25 a.Machine p (x : Int) a.Assume = true -> I (stA a th t p x)) (k : Nat) : I (pat (stA a th) 0 zero w k) :=
 y7y (fun t p x hp hx ho => hI t p x hp hx (by unfold okA at ho; exact (Bool.and_eq_true_iff.1 ho).1)) w 0 zero hw.2.1 h0 k
end
end Go.Nw.UM
namespace Go.Nw.UM
noncomputable section
def Psb (a : Accident) (th : Theory) (l : List Nat) : Prop := ∃ w, l18 a th (c49 l) ftT w
open Classical in
def gr (a : Accident) (th : Theory) : Nat -> List Nat
 | 0 => []
 | k + 1 => if Psb a th (gr a th k ++ List.range' (k + 1) (a.Records.length - (k + 1))) then gr a th k ++ [k] else gr a th k
section
variable {a : Accident} {th : Theory}
theorem w99 : ∀ {k i : Nat}, i ∈ gr a th k -> i < k
 | k + 1, i, h => by
  unfold gr at h
  split at h
  ·rcases List.mem_append.1 h with h | h
   ·have := w99 h; omega
   ·rw [List.mem_singleton.1 h]; omega
  ·have := w99 h; omega
theorem w98 : ∀ k, (gr a th k).length <= k
 | 0 => Nat.le_refl _
 | k + 1 => by
  have := w98 k
  unfold gr
  split
  ·simp; omega
  ·omega
theorem x0q : Psb a th (List.range a.Records.length) ↔ ∃ w, l18 a th (fun _ => true) ftT w := exists_congr fun w => u3c fun i hi => u3w hi
theorem x0a {k n i : Nat} (hk : k < n) : i ∈ List.range' (k + 1) (n - (k + 1)) ↔ k < i /\ i < n := by
 rw [List.mem_range'_1]; omega
theorem x1i {k n : Nat} (hk : k < n) : List.range' k (n - k) = k :: List.range' (k + 1) (n - (k + 1)) := by
 rw [show n - k = (n - (k + 1)) + 1 by omega, List.range'_succ]
def l39 (a : Accident) (th : Theory) (k : Nat) : List Bool := tab a.Records.length fun j => if j < k then decide (j ∈ gr a th k) else true
theorem x1j (ha : OkA a) (hth : OkT a th) {kp : Kp} {l : List Nat} (hk : ∀ i : Nat, i < a.Records.length -> kp (i : Int) = some (c49 l i)) : ∃ r, x0h a th kp = some r /\ (r.2 = true ↔ Psb a th l) := by
 rcases u9k (keep := c49 l) (ft := ftT) (fp := fun _ _ _ => some true) ha hth hk (fun _ _ _ _ _ _ => rfl) with ⟨w, h1, h2⟩ | ⟨h1, h2⟩
 ·exact ⟨_, h2, fun _ => ⟨w, h1.1⟩, fun _ => rfl⟩
 ·exact ⟨_, h2, (fun h => by cases h), fun ⟨w, h⟩ => absurd h (h1 w)⟩
theorem x1f (ha : OkA a) (hth : OkT a th) : (b0w (w90 a th (tab a.Records.length fun _ => true)) ((tab a.Records.length fun _ => true), [], 0)) = some (toI (gr a th a.Records.length)) := by
 have hn8 := ha.n
 refine b4h (f := w90 a th (tab a.Records.length fun _ => true)) a.Records.length (fun (s : List Bool × List Int) k => (s.1, s.2, k)) (fun k => (l39 a th k, toI (gr a th k))) _ (s0 := ((tab a.Records.length fun _ => true), [])) (by
   show _ = (l39 a th 0, _)
   unfold l39
   congr 1) (fun k hk => ?_) ?_
 ·have hlen : (l39 a th k).length = a.Records.length := b3y
  have hg : get (l39 a th k) (k : Int) = some true := by unfold l39; rw [c2y hk, if_neg (by omega)]
  have hset : List.set (l39 a th k) (Int.toNat (k : Int)) false = tab a.Records.length (c49 (gr a th k ++ List.range' (k + 1) (a.Records.length - (k + 1)))) := by
   unfold l39
   rw [Int.toNat_natCast, d5i]
   refine c1m fun i hi => ?_
   unfold c49
   rw [Bool.eq_iff_iff]
   simp only [decide_eq_true_eq, List.mem_append, x0a hk]
   by_cases e : i = k
   ·subst e
    simp only [if_true, fT9, false_iff, not_or]
    exact ⟨fun h => by have := w99 h; omega, fun h => by omega⟩
   ·rw [if_neg e]
    by_cases h : i < k
    ·rw [if_pos h, decide_eq_true_eq]
     exact ⟨.inl, fun q => by
      rcases q with q | q
      ·exact q
      ·omega⟩
    ·rw [if_neg h]
     exact ⟨fun _ => .inr ⟨by omega, hi⟩, fun _ => rfl⟩
  obtain ⟨r, h1, h2⟩ := x1j (kp := fun z24 => w9y z24 (tab a.Records.length (c49 (gr a th k ++ List.range' (k + 1) (a.Records.length - (k + 1)))))) ha hth (l := gr a th k ++ List.range' (k + 1) (a.Records.length - (k + 1))) (fun i hi => by
   unfold w9y; rw [c2y hi]; rfl)
  unfold w90
  simp only [b3y, Int.ofNat_lt, hk, decide_true, if_true, hg, bS9, hset, h1]
  unfold w95
  have hgk := w98 (a := a) (th := th) k
  rw [b2r hk (b26 hn8)]
  by_cases c : Psb a th (gr a th k ++ List.range' (k + 1) (a.Records.length - (k + 1)))
  ·have e : gr a th (k + 1) = gr a th k ++ [k] := by conv => lhs; unfold gr; rw [if_pos c]
   rw [if_pos (h2.2 c), c2y hk, bS9, b6d (by rw [s95]; omega) (by simp) (by omega), bS9, e]
   congr 3
   ·unfold l39
    rw [Int.toNat_natCast, d5i]
    refine c1m fun i hi => ?_
    unfold c49
    rw [e, Bool.eq_iff_iff]
    by_cases e1 : i = k
    ·subst e1; simp
    ·rw [if_neg e1]
     simp only [decide_eq_true_eq, List.mem_append, x0a hk, List.mem_singleton, e1, or_false]
     by_cases h : i < k + 1
     ·rw [if_pos h, decide_eq_true_eq]
      exact ⟨fun q => by
       rcases q with q | q
       ·exact q
       ·omega, .inl⟩
     ·rw [if_neg h]
      exact ⟨fun _ => rfl, fun _ => .inr ⟨by omega, hi⟩⟩
   ·simp [toI]
  ·have e : gr a th (k + 1) = gr a th k := by conv => lhs; unfold gr; rw [if_neg c]
   rw [if_neg (fun q => c (h2.1 q)), e]
   congr 3
   unfold l39
   refine c1m fun i hi => ?_
   unfold c49
   rw [e, Bool.eq_iff_iff]
   simp only [decide_eq_true_eq, List.mem_append, x0a hk]
   by_cases h : i < k + 1
   ·rw [if_pos h, decide_eq_true_eq]
    exact ⟨fun q => by
     rcases q with q | q
     ·exact q
     ·omega, .inl⟩
   ·rw [if_neg h]
    exact ⟨fun _ => rfl, fun _ => .inr ⟨by omega, hi⟩⟩
 ·unfold w90
  simp only [b3y, Int.lt_irrefl, decide_false, fT9, if_false]
theorem x1k {l r : List Nat} : sub (toI (l ++ r)) 0 (l.length : Int) = some (toI l) := by
 rw [u9o (by omega) (by omega) (by rw [s95]; simp; omega)]
 simp [toI]
theorem x01 {l r : List Nat} {x : Nat} (h : l.length <= 1000) : sub (toI (l ++ x :: r)) (wr ((l.length : Int) + 1)) (List.length (toI (l ++ x :: r)) : Int) = some (toI r) := by
 rw [b3t (by omega) (by omega), u9o (by omega) (by rw [s95]; simp; omega) (Int.le_refl _)]
 rw [Int.toNat_natCast, List.take_length, show ((l.length : Int) + 1).toNat = l.length + 1 by omega]
 unfold toI
 rw [<- List.map_drop, show l ++ x :: r = (l ++ [x]) ++ r by simp, List.drop_left' (by simp)]
theorem x1g (hs : Small a) (hth : OkT a th) : b0w (w93 a th) (toI (List.range a.Records.length), 0) = some (toI (gr a th a.Records.length)) := by
 have hn8 := hs.ok.n
 have h0 : ((toI (List.range a.Records.length), (0 : Int)) : List Int × Int) = (fun (_ : Unit) (k : Int) => (toI (gr a th k.toNat ++ List.range' k.toNat (a.Records.length - k.toNat)), ((gr a th k.toNat).length : Int))) () 0 := by
  show _ = (toI (gr a th 0 ++ List.range' 0 (a.Records.length - 0)), ((gr a th 0).length : Int))
  simp [gr, List.range_eq_range']
 rw [h0]
 refine j7z (f := w93 a th) a.Records.length (fun (_ : Unit) (k : Int) => (toI (gr a th k.toNat ++ List.range' k.toNat (a.Records.length - k.toNat)), ((gr a th k.toNat).length : Int))) (fun _ => ()) _ (fun k hk => ?_) ?_
 ·rw [Int.toNat_natCast, show ((k : Int) + 1).toNat = k + 1 by omega, x1i hk]
  have hgk := w98 (a := a) (th := th) k
  have hll : (gr a th k ++ List.range' (k + 1) (a.Records.length - (k + 1))).length <= 8 := by
   rw [List.length_append, List.length_range']; omega
  obtain ⟨b, h1, h2⟩ := u89 (l := gr a th k ++ List.range' (k + 1) (a.Records.length - (k + 1))) hs hth (fun i hi => by
   rcases List.mem_append.1 hi with h | h
   ·have := w99 h; omega
   ·rw [x0a hk] at h; exact h.2) hll
  have hlt : ((gr a th k).length : Int) < (List.length (toI (gr a th k ++ k :: List.range' (k + 1) (a.Records.length - (k + 1)))) : Int) := by
   rw [s95, List.length_append, List.length_cons]; omega
  have hap : toI (gr a th k) ++ toI (List.range' (k + 1) (a.Records.length - (k + 1))) = toI (gr a th k ++ List.range' (k + 1) (a.Records.length - (k + 1))) := by simp [toI]
  unfold w93
  simp only [hlt, decide_true, if_true]
  rw [x1k, bS9, b6d (by simp) (by rw [s95]; omega) (by omega), bS9, x01 (by omega), bS9, List.nil_append,
   b6d (by rw [s95]; omega) (by rw [s95, List.length_range']; omega) (by omega), bS9, hap, h1, bS9]
  by_cases c : Psb a th (gr a th k ++ List.range' (k + 1) (a.Records.length - (k + 1)))
  ·have e : gr a th (k + 1) = gr a th k ++ [k] := by conv => lhs; unfold gr; rw [if_pos c]
   rw [if_pos (h2.2 c), e, b3t (by omega) (by omega)]
   simp
  ·have e : gr a th (k + 1) = gr a th k := by conv => lhs; unfold gr; rw [if_neg c]
   rw [if_neg (fun q => c (h2.1 q)), e]
 ·rw [Int.toNat_natCast, Nat.sub_self, List.range'_zero, List.append_nil]
  unfold w93
  simp only [s95, Int.lt_irrefl, decide_false, fT9, if_false]
end
section
variable {a : Accident} {th : Theory} (hf : ∀ n ∈ b3g a.Machine, n.size <= maxLen) (hn : a.Records.length <= 10) (hs : b40 a ≠ 0 \/ Small a)
include hf hn hs
theorem x0u : ∃ r, w9x a th = some r /\ w92 a th = some r /\ r.1.length <= 40 /\ ((c14 a th ≠ 0 /\ r = ([], c14 a th)) \/ (Small a /\ OkT a th /\ ((Psb a th (List.range a.Records.length) /\ r = ([], 3)) \/ (¬ Psb a th (List.range a.Records.length) /\ r = (toI (gr a th a.Records.length), 0))))) := by
 by_cases he : c14 a th = 0
 case neg =>
  unfold w9x w92
  rw [u23 hf hn, u24 hf hn, bS9, bS9, if_pos (by simpa using he), if_pos (by simpa using he)]; exact ⟨_, rfl, rfl, by simp, .inl ⟨he, rfl⟩⟩
 obtain ⟨ha, hth⟩ := u27.1 he
 have hs' : Small a := by
  rcases hs with h | h
  ·exact absurd (u1v.2 ha) h
  ·exact h
 have hn8 := ha.n
 obtain ⟨b, h1, h2⟩ := u89 (l := List.range a.Records.length) hs' hth (fun i hi => List.mem_range.1 hi) (by rw [List.length_range]; exact hn8)
 unfold w9x w92
 rw [u23 hf hn, u24 hf hn, bS9, bS9, if_neg (by simp [he]), if_neg (by simp [he]), u35 hn, bS9, h1, bS9]
 have hmk : (mks 1 (List.length a.Records : Int) false).bind (fun l10 => (b0w (w9z l10) (l10, 0)).bind fun left_9_0 => w94 a th left_9_0) = some (toI (gr a th a.Records.length), 0) := by
  rw [g1q (by omega) (by omega), bS9]
  rw [b4h (f := w9z (tab a.Records.length fun _ => false)) a.Records.length (fun s k => (s, k)) (fun k => fill a.Records.length (fun _ => true) false k) (tab a.Records.length fun _ => true) (by
    unfold fill; exact c1m fun i hi => by rw [if_neg (by omega)]) (fun k hk => by
    unfold w9z
    simp only [b3y, Int.ofNat_lt, hk, decide_true, if_true, d15 hk, bS9, Int.toNat_natCast]
    rw [c2r rfl, b2r hk (b26 hn8)]) (by
    unfold w9z
    simp only [b3y, Int.lt_irrefl, decide_false, fT9, if_false, d1u (Nat.le_refl _)]), bS9]
  unfold w94
  rw [x1f ha hth]; rfl
 rcases u4a ha hth with ⟨w, hw, h3⟩ | ⟨hw, h3⟩
 ·have hp : Psb a th (List.range a.Records.length) := x0q.2 ⟨w, hw.1⟩
  rw [h3, bS9, if_pos rfl, if_pos (h2.2 hp)]
  exact ⟨_, rfl, rfl, by simp, .inr ⟨hs', hth, .inl ⟨hp, rfl⟩⟩⟩
 ·have hp : ¬ Psb a th (List.range a.Records.length) := fun h => by
   obtain ⟨w, h⟩ := x0q.1 h
   exact hw w h
  rw [h3, bS9, if_neg (by simp), if_neg (fun q => hp (h2.1 q)), hmk, x1g hs' hth]
  have := w98 (a := a) (th := th) a.Records.length
  exact ⟨_, rfl, rfl, by show (toI _).length <= 40; rw [s95]; omega, .inr ⟨hs', hth, .inr ⟨hp, rfl⟩⟩⟩
end
section
variable [Bd]
end
end
end Go.Nw.UM
namespace Go.Nw.UM
noncomputable section
theorem y91 {c : List (List Literal)} (h6 : c.length <= 6) (h6' : ∀ t ∈ c, t.length <= 6) : ∃ b, y49 c = some b /\ (b = true -> ∀ t ∈ c, ∀ l ∈ t, ¬ l.Kind = 1) := by
 unfold y49
 have inner : ∀ (i : Nat) t, c[i]? = some t -> ((∀ l ∈ t, ¬ l.Kind = 1) /\ b0w (y36 c i) 0 = some (.inl ())) \/ b0w (y36 c i) 0 = some (.inr false) := fun i t ht => by
  rcases b4j (f := y36 c i) (l := t) (p := fun _ l => l.Kind = 1) (e := .inr false) (u := .inl ()) (b26 (h6' t (b1d.2 ⟨i, ht⟩))) (fun k l hl => by
    refine ⟨decide (l.Kind = 1), ?_, by simp⟩
    unfold y36
    simp only [b1h ht, b1h hl, bS9, Int.ofNat_lt, b1k hl, decide_true, if_true]) (by unfold y36; simp [b1h ht]) with ⟨q1, q2⟩ | ⟨_, q3⟩
  ·exact .inl ⟨fun l hl => by
    obtain ⟨k, hk⟩ := b1d.1 hl
    exact q1 k l hk, q2⟩
  ·exact .inr q3
 obtain ⟨b, h1, h2⟩ := j7u (f := y40 c) c.length (fun (_ : Unit) k => k) (fun k _ => ∀ j t, j < k -> c[j]? = some t -> ∀ l ∈ t, ¬ l.Kind = 1) (fun b => b = .inr false \/ (b = .inl () /\ ∀ t ∈ c, ∀ l ∈ t, ¬ l.Kind = 1)) (fun _ k hk i1 => by
   obtain ⟨t, ht⟩ := b3b hk
   unfold y40
   simp only [Int.ofNat_lt, hk, decide_true, if_true]
   rcases inner k t ht with ⟨g1, g2⟩ | g2
   ·rw [g2, bS9]
    unfold y9f
    rw [b2r hk (b26 h6)]
    refine .inl ⟨(), rfl, fun j t' hj hj' => ?_⟩
    by_cases e : j = k
    ·subst e; rw [ht] at hj'; cases hj'; exact g1
    ·exact i1 j t' (by omega) hj'
   ·rw [g2, bS9]
    exact .inr ⟨_, rfl, .inl rfl⟩) (fun _ i1 => by
   refine ⟨.inl (), ?_, .inr ⟨rfl, fun t ht => ?_⟩⟩
   ·unfold y40
    simp only [Int.lt_irrefl, decide_false, fT9, if_false]
   ·obtain ⟨k, hk⟩ := b1d.1 ht
    exact i1 k t (b1k hk) hk) 0 (Nat.zero_le _) (s := ()) (fun j t hj => by omega)
 have h1' : b0w (y40 c) 0 = some b := h1
 rw [h1', bS9]
 rcases h2 with rfl | ⟨rfl, h⟩
 ·exact ⟨false, rfl, fun h => by cases h⟩
 ·exact ⟨true, rfl, fun _ => h⟩
def chA (m : Machine) (x : neweltop_Charge) : Accident := ⟨m, x.Assume, x.Ticks, [⟨0, wr (x.Ticks - 1), false, x.Never⟩]⟩
section
variable {m : Machine} {x : neweltop_Charge} (ha : OkA (chA m x)) (hth : OkT (chA m x) x.Theory)
include ha hth
theorem y9n (hF : x.Theory.From = 0) {t y : Nat} (hy : y < nA (chA m x)) : hdT x.Theory t y = (if x.Theory.Input < 0 then (y : Int) else hs x.Theory.Input.toNat x.Theory.Value.toNat y) := by
 have h16 := u3y ha
 have hz : m.Inputs.length <= 4 := ha.m.z.i
 unfold hdT hdO
 rcases u5f hth ha with ⟨h, _⟩ | ⟨h1, h2, h3⟩
 ·rw [if_pos (by simp; omega), if_pos (by omega)]; rfl
 ·unfold In at h1
  have h1' : x.Theory.Input < m.Inputs.length := h1.2
  rw [if_neg (by simp; omega), if_neg (by omega)]
  have e1 : x.Theory.Input = ((x.Theory.Input.toNat : Nat) : Int) := by omega
  have e2 : x.Theory.Value = ((x.Theory.Value.toNat : Nat) : Int) := by omega
  have := u46 (x := y) (i := x.Theory.Input.toNat) (v := x.Theory.Value.toNat) (by omega) (by omega) (by omega)
  rw [<- e1, <- e2] at this
  rw [this]
  unfold hs
  rw [<- e1, <- e2]
theorem d1c {hd : Nat -> Int} (hh : ∀ t y : Nat, y < nA (chA m x) -> hdT x.Theory t y = hd y) (hp : ∀ t ∈ x.Never, ∀ l ∈ t, ¬ l.Kind = 1) {K : Nat} (hK : End m x.Assume hd K) (hno : ∀ q ∈ (b0h m x.Assume hd K).1, b46 m q 0 x.Never = false) {w : List Nat} : ¬ l18 (chA m x) x.Theory (fun _ => true) ftT w := by
 intro hw
 have h := hw.2.2 0 (by show 0 < 1; omega) rfl
 rw [y9k, if_neg (by show ¬ (false = true); simp)] at h
 rcases h with h | ⟨k, y, h1, h2, h3, h4⟩
 ·cases h
 have hin := y9w hw (I := fun p => p ∈ (b0h m x.Assume hd K).1) (p24 K) (fun t p y hp hy ha2 => by
  have : stA (chA m x) x.Theory t p y = nxt m p (hd y) := by unfold stA; rw [hh t y hy]; rfl
  rw [this]
  exact y9u hK hp hy ha2) k
 have h5 := hno _ hin
 have h6 : b46 m (pat (stA (chA m x) x.Theory) 0 zero w k) (y : Int) x.Never = true := h4
 rw [y9z (y := 0) hp, h5] at h6
 cases h6
end
section
variable [Bd]
theorem y9s (m : Machine) (x : neweltop_Charge) (hm0 : b9d m) (hx0 : y9e x) : y47 m x = some true := by
 have hf := l5y hm0
 unfold y47
 show (s9o (chA m x)).bind _ = _
 rcases u6h (a := chA m x) hf with h | ⟨hn, h, hs⟩
 ·rw [h]; rfl
 rw [h, bS9]
 show ((if false = true then some true else (s9r (chA m x)).bind _).bind _) = _
 rw [u4j (a := chA m x) hf hn]
 by_cases he : b40 (chA m x) = 0
 case neg => simp [he, c46]
 have ha := u1v.1 he
 have hs' : Small (chA m x) := by
  rcases hs with h | h
  ·exact absurd he h
  ·exact h
 have hm : OkM m := ha.m
 have hN : b2s m true x.Never := ha.rc _ (List.mem_singleton.2 rfl)
 obtain ⟨pb, p1, p2⟩ := y91 hN.1 (fun t ht => (hN.2 t ht).1)
 simp only [he, fT9, if_false, bS9, not_true, decide_false, p1]
 cases pb with
 | false => simp [c46]
 | true =>
 simp only [Bool.not_true, Bool.false_or]
 show (if ((!l59 (chA m x) x.Theory) || decide (¬x.Theory.From = 0)) = true then _ else _) = _
 by_cases hc : ((!l59 (chA m x) x.Theory) || decide (¬x.Theory.From = 0)) = true
 ·rw [if_pos hc]; rfl
 rw [if_neg hc]
 simp only [Bool.or_eq_true, Bool.not_eq_true', decide_eq_true_eq, not_or, Bool.not_eq_false, Classical.not_not] at hc
 obtain ⟨hth, hF⟩ := hc
 have hth : OkT (chA m x) x.Theory := hth
 have h2 : b7w m [x.Assume, x.Never] 0 := .inl ⟨rfl, hm, fun c hc => by
  rcases List.mem_cons.1 hc with rfl | hc
  ·exact ha.asu
  ·rw [List.mem_singleton.1 hc]; exact hN⟩
 obtain ⟨br, b1, _, _, b4, b5⟩ := g5j hf x.Assume x.Never
 obtain ⟨sr, s1, _, _, s4, s5⟩ := o59 hf x.Assume x.Never
 have hb0 : br.2.2 = 0 := d6z b4 h2
 have hs0 : sr.2.2.2.2 = 0 := d6z s4 h2
 rw [b1, s1, bS9, bS9, hb0, hs0]
 simp only [not_true, decide_false, Bool.or_self, fT9, if_false]
 by_cases hq : ((br.2.1 && decide (x.Theory.Input < 0)) || (sr.2.2.2.1 && decide (0 <= x.Theory.Input))) = true
 ·rw [if_pos hq]; rfl
 rw [if_neg hq]
 simp only [Bool.or_eq_true, Bool.and_eq_true, decide_eq_true_eq, not_or, not_and] at hq
 have hno : ∀ w, ¬ l18 (chA m x) x.Theory (fun _ => true) ftT w := by
  intro w
  by_cases hi : x.Theory.Input < 0
  ·obtain ⟨K, hK, s⟩ := b5 hb0
   have hf1 : br.2.1 = false := x0f fun h => hq.1 h hi
   rcases s with ⟨_, s⟩ | ⟨k, q, P, s, _⟩
   ·exact d1c ha hth (hd := idn) (fun t y hy => by rw [y9n ha hth hF hy, if_pos hi]) (p2 rfl) hK s
   ·have : br.2.1 = true := congrArg Prod.snd s
    rw [hf1] at this; cases this
  ·rcases u5f hth ha with ⟨h, _⟩ | ⟨h1, h2, h3⟩
   ·omega
   unfold In at h1
   have h1' : x.Theory.Input < m.Inputs.length := h1.2
   have hf1 : sr.2.2.2.1 = false := x0f fun h => hq.2 h (by omega)
   rcases s5 hs0 with ⟨_, s⟩ | ⟨i, v, b, _, _, _, _, s⟩
   ·obtain ⟨b, ⟨K, hK, s⟩, sb⟩ := s x.Theory.Input.toNat x.Theory.Value.toNat (by omega) (by omega)
    rcases s with ⟨_, s⟩ | ⟨k, q, P, s, _⟩
    ·exact d1c ha hth (fun t y hy => by rw [y9n ha hth hF hy, if_neg hi]) (p2 rfl) hK s
    ·rw [s] at sb; cases sb
   ·have : sr.2.2.2.1 = true := by rw [s]
    rw [hf1] at this; cases this
 have hE : c14 (chA m x) x.Theory = 0 := u27.2 ⟨ha, hth⟩
 obtain ⟨r, c1, _, c2⟩ := u6i (a := chA m x) (th := x.Theory) hf hn hs
 rcases c2 with ⟨q, _⟩ | ⟨_, _, c3, c4⟩
 ·exact absurd hE q
 have hr : r = (false, 0) := Prod.ext (x0f fun h => by obtain ⟨w, hw⟩ := c4.1 h; exact hno w hw) c3
 subst hr
 obtain ⟨r, d1, _, _, d2⟩ := x0u (a := chA m x) (th := x.Theory) hf hn hs
 have hnp : ¬ Psb (chA m x) x.Theory (List.range (chA m x).Records.length) := fun h => by
  obtain ⟨w, hw⟩ := x0q.1 h; exact hno w hw
 rcases d2 with ⟨q, _⟩ | ⟨_, _, ⟨q, _⟩ | ⟨_, rfl⟩⟩
 ·exact absurd hE q
 ·exact absurd q hnp
 show ((u0g (chA m x) x.Theory).bind fun y35 => (w9x (chA m x) x.Theory).bind _) = _
 rw [c1, d1, bS9, bS9]
 simp only [not_true, decide_false, Bool.or_self, fT9, if_false]
 have ha0 : OkA ⟨m, x.Assume, x.Ticks, []⟩ := ⟨ha.m, ha.asu, (fun r hr => by cases hr), ha.t, by simp, (fun r hr => by cases hr)⟩
 have hs0' : Small ⟨m, x.Assume, x.Ticks, []⟩ := ⟨ha0, hs'.i, hs'.t, by simp⟩
 have hth0 : OkT ⟨m, x.Assume, x.Ticks, []⟩ x.Theory := hth
 obtain ⟨r, f1, _, f2⟩ := u6i (a := ⟨m, x.Assume, x.Ticks, []⟩) (th := x.Theory) hf (by simp) (.inr hs0')
 rcases f2 with ⟨q, _⟩ | ⟨_, _, f3, f4⟩
 ·exact absurd (u27.2 ⟨ha0, hth0⟩) q
 rw [f1, bS9, f3]
 have hfree : r.1 = true ↔ Psb (chA m x) x.Theory [] := by
  rw [f4]
  refine exists_congr fun w => ?_
  unfold l18 l27
  refine and_congr_right fun _ => and_congr_right fun _ => ⟨fun _ i _ hk => by simp [c49] at hk, fun _ i hi => by simp at hi⟩
 have hgr : gr (chA m x) x.Theory (chA m x).Records.length = if r.1 = true then [0] else [] := by
  show gr (chA m x) x.Theory 1 = _
  unfold gr
  have e : gr (chA m x) x.Theory 0 ++ List.range' (0 + 1) ((chA m x).Records.length - (0 + 1)) = [] := by show [] ++ List.range' 1 0 = []; rfl
  rw [e]
  by_cases c : Psb (chA m x) x.Theory []
  ·rw [if_pos c, if_pos (hfree.2 c)]; rfl
  ·rw [if_neg c, if_neg (fun q => c (hfree.1 q))]; rfl
 rw [hgr]
 cases r.1 <;> simp [toI, get, b5c, c46]
end
end
end Go.Nw.UM
