/- Plain laws on the models. -/
import Derived.Test.YtccjacnppmciaaaGreatDoorAM
import Derived.Test.YtccjacnppmciaaaGreatDoorNwTypes
import Derived.Test.YtccjacnppmciaaaGreatDoorP4
set_option linter.all false
namespace Go.Nw.AM
variable [Bd]
def c68 (x : ByteArray) : Prop := x.size <= Bd.B
theorem l4q {r : List AV} (h : MtL [.s] r) : ∃ x : ByteArray, r = eS x /\ c68 x := by
 obtain ⟨a0, r0, rfl, h0, g0⟩ := b3e h
 obtain ⟨v0, rfl, k0⟩ := d4c h0
 exact ⟨v0, by rw [b6o g0]; rfl, k0⟩
theorem g1x {a : AV} (h : Mt (.sl [.s]) a) : ∃ l : List ByteArray, a = .fs 1 (l.map eS) /\ OkL c68 l := by
 obtain ⟨l, rfl, h1, h2⟩ := b8q eS c68 h fun r hr => l4q hr
 exact ⟨l, rfl, h1, h2⟩
def r8n (x : Counter) : Prop := c68 x.Name /\ b5k x.Max
theorem l4l {r : List AV} (h : MtL [.s, .i .i64] r) : ∃ x : Counter, r = b0o x /\ r8n x := by
 obtain ⟨a0, r0, rfl, h0, g0⟩ := b3e h
 obtain ⟨a1, r1, rfl, h1, g1⟩ := b3e g0
 obtain ⟨v0, rfl, k0⟩ := d4c h0
 obtain ⟨v1, rfl, k1⟩ := b6n h1
 exact ⟨⟨v0, v1⟩, by rw [b6o g1]; rfl, ⟨k0, k1⟩⟩
theorem j8e {a : AV} (h : Mt (.sl [.s, .i .i64]) a) : ∃ l : List Counter, a = .fs 2 (l.map b0o) /\ OkL r8n l := by
 obtain ⟨l, rfl, h1, h2⟩ := b8q b0o r8n h fun r hr => l4l hr
 exact ⟨l, rfl, h1, h2⟩
def y9d (x : State) : Prop := c68 x.Name /\ b5k x.Shows
theorem l4s {r : List AV} (h : MtL [.s, .i .i64] r) : ∃ x : State, r = b0p x /\ y9d x := by
 obtain ⟨a0, r0, rfl, h0, g0⟩ := b3e h
 obtain ⟨a1, r1, rfl, h1, g1⟩ := b3e g0
 obtain ⟨v0, rfl, k0⟩ := d4c h0
 obtain ⟨v1, rfl, k1⟩ := b6n h1
 exact ⟨⟨v0, v1⟩, by rw [b6o g1]; rfl, ⟨k0, k1⟩⟩
theorem j8i {a : AV} (h : Mt (.sl [.s, .i .i64]) a) : ∃ l : List State, a = .fs 2 (l.map b0p) /\ OkL y9d l := by
 obtain ⟨l, rfl, h1, h2⟩ := b8q b0p y9d h fun r hr => l4s hr
 exact ⟨l, rfl, h1, h2⟩
def b5x (x : Literal) : Prop := b5k x.Kind /\ b5k x.Number /\ b5k x.Value /\ True
theorem l4n {r : List AV} (h : MtL [.i .i64, .i .i64, .i .i64, .b] r) : ∃ x : Literal, r = b3k x /\ b5x x := by
 obtain ⟨a0, r0, rfl, h0, g0⟩ := b3e h
 obtain ⟨a1, r1, rfl, h1, g1⟩ := b3e g0
 obtain ⟨a2, r2, rfl, h2, g2⟩ := b3e g1
 obtain ⟨a3, r3, rfl, h3, g3⟩ := b3e g2
 obtain ⟨v0, rfl, k0⟩ := b6n h0
 obtain ⟨v1, rfl, k1⟩ := b6n h1
 obtain ⟨v2, rfl, k2⟩ := b6n h2
 obtain ⟨v3, rfl, k3⟩ := j8k h3
 exact ⟨⟨v0, v1, v2, v3⟩, by rw [b6o g3]; rfl, ⟨k0, k1, k2, k3⟩⟩
theorem j8f {a : AV} (h : Mt (.sl [.i .i64, .i .i64, .i .i64, .b]) a) : ∃ l : List Literal, a = .fs 4 (l.map b3k) /\ OkL b5x l := by
 obtain ⟨l, rfl, h1, h2⟩ := b8q b3k b5x h fun r hr => l4n hr
 exact ⟨l, rfl, h1, h2⟩
theorem l4m {r : List AV} (h : MtL [.sl [.i .i64, .i .i64, .i .i64, .b]] r) : ∃ x : List Literal, r = b0t x /\ OkL b5x x := by
 obtain ⟨a0, r0, rfl, h0, g0⟩ := b3e h
 obtain ⟨v0, rfl, k0⟩ := j8f h0
 exact ⟨v0, by rw [b6o g0]; rfl, k0⟩
theorem d4b {a : AV} (h : Mt (.sl [.sl [.i .i64, .i .i64, .i .i64, .b]]) a) : ∃ l : List (List Literal), a = .fs 1 (l.map b0t) /\ OkL (OkL b5x) l := by
 obtain ⟨l, rfl, h1, h2⟩ := b8q b0t (OkL b5x) h fun r hr => l4m hr
 exact ⟨l, rfl, h1, h2⟩
def c52 (x : Set) : Prop := b5k x.Kind /\ b5k x.Counter
theorem l4r {r : List AV} (h : MtL [.i .i64, .i .i64] r) : ∃ x : Set, r = b2o x /\ c52 x := by
 obtain ⟨a0, r0, rfl, h0, g0⟩ := b3e h
 obtain ⟨a1, r1, rfl, h1, g1⟩ := b3e g0
 obtain ⟨v0, rfl, k0⟩ := b6n h0
 obtain ⟨v1, rfl, k1⟩ := b6n h1
 exact ⟨⟨v0, v1⟩, by rw [b6o g1]; rfl, ⟨k0, k1⟩⟩
theorem j8h {a : AV} (h : Mt (.sl [.i .i64, .i .i64]) a) : ∃ l : List Set, a = .fs 2 (l.map b2o) /\ OkL c52 l := by
 obtain ⟨l, rfl, h1, h2⟩ := b8q b2o c52 h fun r hr => l4r hr
 exact ⟨l, rfl, h1, h2⟩
def y9c (x : Rule) : Prop := b5k x.From /\ b5k x.To /\ OkL (OkL b5x) x.When /\ OkL c52 x.Sets
theorem l4p {r : List AV} (h : MtL [.i .i64, .i .i64, .sl [.sl [.i .i64, .i .i64, .i .i64, .b]], .sl [.i .i64, .i .i64]] r) : ∃ x : Rule, r = b0m x /\ y9c x := by
 obtain ⟨a0, r0, rfl, h0, g0⟩ := b3e h
 obtain ⟨a1, r1, rfl, h1, g1⟩ := b3e g0
 obtain ⟨a2, r2, rfl, h2, g2⟩ := b3e g1
 obtain ⟨a3, r3, rfl, h3, g3⟩ := b3e g2
 obtain ⟨v0, rfl, k0⟩ := b6n h0
 obtain ⟨v1, rfl, k1⟩ := b6n h1
 obtain ⟨v2, rfl, k2⟩ := d4b h2
 obtain ⟨v3, rfl, k3⟩ := j8h h3
 exact ⟨⟨v0, v1, v2, v3⟩, by rw [b6o g3]; rfl, ⟨k0, k1, k2, k3⟩⟩
theorem j8g {a : AV} (h : Mt (.sl [.i .i64, .i .i64, .sl [.sl [.i .i64, .i .i64, .i .i64, .b]], .sl [.i .i64, .i .i64]]) a) : ∃ l : List Rule, a = .fs 4 (l.map b0m) /\ OkL y9c l := by
 obtain ⟨l, rfl, h1, h2⟩ := b8q b0m y9c h fun r hr => l4p hr
 exact ⟨l, rfl, h1, h2⟩
def b9d (x : Machine) : Prop := OkL c68 x.Inputs /\ OkL c68 x.Outputs /\ OkL r8n x.Counters /\ OkL y9d x.States /\ OkL y9c x.Rules
def u1r (x : Record) : Prop := b5k x.From /\ b5k x.To /\ True /\ OkL (OkL b5x) x.Cond
theorem u9e {r : List AV} (h : MtL [.i .i64, .i .i64, .b, .sl [.sl [.i .i64, .i .i64, .i .i64, .b]]] r) : ∃ x : Record, r = c26 x /\ u1r x := by
 obtain ⟨a0, r0, rfl, h0, g0⟩ := b3e h
 obtain ⟨a1, r1, rfl, h1, g1⟩ := b3e g0
 obtain ⟨a2, r2, rfl, h2, g2⟩ := b3e g1
 obtain ⟨a3, r3, rfl, h3, g3⟩ := b3e g2
 obtain ⟨v0, rfl, k0⟩ := b6n h0
 obtain ⟨v1, rfl, k1⟩ := b6n h1
 obtain ⟨v2, rfl, k2⟩ := j8k h2
 obtain ⟨v3, rfl, k3⟩ := d4b h3
 exact ⟨⟨v0, v1, v2, v3⟩, by rw [b6o g3]; rfl, ⟨k0, k1, k2, k3⟩⟩
theorem u84 {a : AV} (h : Mt (.sl [.i .i64, .i .i64, .b, .sl [.sl [.i .i64, .i .i64, .i .i64, .b]]]) a) : ∃ l : List Record, a = .fs 4 (l.map c26) /\ OkL u1r l := by
 obtain ⟨l, rfl, h1, h2⟩ := b8q c26 u1r h fun r hr => u9e hr
 exact ⟨l, rfl, h1, h2⟩
def s9d (x : Accident) : Prop := b9d x.Machine /\ OkL (OkL b5x) x.Assume /\ b5k x.Ticks /\ OkL u1r x.Records
def u7i (x : Accident) : List AV := [.fs 1 (List.map eS x.Machine.Inputs), .fs 1 (List.map eS x.Machine.Outputs), .fs 2 (List.map b0o x.Machine.Counters), .fs 2 (List.map b0p x.Machine.States), .fs 4 (List.map b0m x.Machine.Rules), .fs 1 (List.map b0t x.Assume), I x.Ticks, .fs 4 (List.map c26 x.Records)]
theorem u9d {r : List AV} (h : MtL [.sl [.s], .sl [.s], .sl [.s, .i .i64], .sl [.s, .i .i64], .sl [.i .i64, .i .i64, .sl [.sl [.i .i64, .i .i64, .i .i64, .b]], .sl [.i .i64, .i .i64]], .sl [.sl [.i .i64, .i .i64, .i .i64, .b]], .i .i64, .sl [.i .i64, .i .i64, .b, .sl [.sl [.i .i64, .i .i64, .i .i64, .b]]]] r) : ∃ x : Accident, r = u7i x /\ s9d x := by
 obtain ⟨a0, r0, rfl, h0, g0⟩ := b3e h
 obtain ⟨a1, r1, rfl, h1, g1⟩ := b3e g0
 obtain ⟨a2, r2, rfl, h2, g2⟩ := b3e g1
 obtain ⟨a3, r3, rfl, h3, g3⟩ := b3e g2
 obtain ⟨a4, r4, rfl, h4, g4⟩ := b3e g3
 obtain ⟨a5, r5, rfl, h5, g5⟩ := b3e g4
 obtain ⟨a6, r6, rfl, h6, g6⟩ := b3e g5
 obtain ⟨a7, r7, rfl, h7, g7⟩ := b3e g6
 obtain ⟨v0, rfl, k0⟩ := g1x h0
 obtain ⟨v1, rfl, k1⟩ := g1x h1
 obtain ⟨v2, rfl, k2⟩ := j8e h2
 obtain ⟨v3, rfl, k3⟩ := j8i h3
 obtain ⟨v4, rfl, k4⟩ := j8g h4
 obtain ⟨v5, rfl, k5⟩ := d4b h5
 obtain ⟨v6, rfl, k6⟩ := b6n h6
 obtain ⟨v7, rfl, k7⟩ := u84 h7
 exact ⟨⟨⟨v0, v1, v2, v3, v4⟩, v5, v6, v7⟩, by rw [b6o g7]; rfl, ⟨⟨k0, k1, k2, k3, k4⟩, k5, k6, k7⟩⟩
abbrev u4b : List Sh := [.sl [.s], .sl [.s], .sl [.s, .i .i64], .sl [.s, .i .i64], .sl [.i .i64, .i .i64, .sl [.sl [.i .i64, .i .i64, .i .i64, .b]], .sl [.i .i64, .i .i64]], .sl [.sl [.i .i64, .i .i64, .i .i64, .b]], .i .i64, .sl [.i .i64, .i .i64, .b, .sl [.sl [.i .i64, .i .i64, .i .i64, .b]]]]
theorem u9s {a : AV} (h : MtA (.agg u4b) a) : ∃ x : Accident, a = .agg [.fs 1 (List.map eS x.Machine.Inputs), .fs 1 (List.map eS x.Machine.Outputs), .fs 2 (List.map b0o x.Machine.Counters), .fs 2 (List.map b0p x.Machine.States), .fs 4 (List.map b0m x.Machine.Rules), .fs 1 (List.map b0t x.Assume), I x.Ticks, .fs 4 (List.map c26 x.Records)] /\ s9d x := by
 obtain ⟨r, rfl, hr⟩ := g1y h
 obtain ⟨x, rfl, hx⟩ := u9d hr
 exact ⟨x, rfl, hx⟩
def u1s (x : Theory) : Prop := b5k x.Input /\ b5k x.Value /\ b5k x.From
theorem u9f {r : List AV} (h : MtL [.i .i64, .i .i64, .i .i64] r) : ∃ x : Theory, r = u26 x /\ u1s x := by
 obtain ⟨a0, r0, rfl, h0, g0⟩ := b3e h
 obtain ⟨a1, r1, rfl, h1, g1⟩ := b3e g0
 obtain ⟨a2, r2, rfl, h2, g2⟩ := b3e g1
 obtain ⟨v0, rfl, k0⟩ := b6n h0
 obtain ⟨v1, rfl, k1⟩ := b6n h1
 obtain ⟨v2, rfl, k2⟩ := b6n h2
 exact ⟨⟨v0, v1, v2⟩, by rw [b6o g2]; rfl, ⟨k0, k1, k2⟩⟩
theorem x6x {a : AV} (h : Mt (.sl [.i .i64, .i .i64, .i .i64]) a) : ∃ l : List Theory, a = .fs 3 (l.map u26) /\ OkL u1s l := by
 obtain ⟨l, rfl, h1, h2⟩ := b8q u26 u1s h fun r hr => u9f hr
 exact ⟨l, rfl, h1, h2⟩
def x5f (x : l10_Query) : Prop := OkL u1s x.Theories /\ OkL (OkL b5x) x.Cond /\ b5k x.Tick
def x6m (x : l10_Query) : List AV := [.fs 3 (List.map u26 x.Theories), .fs 1 (List.map b0t x.Cond), I x.Tick]
theorem x6y {r : List AV} (h : MtL [.sl [.i .i64, .i .i64, .i .i64], .sl [.sl [.i .i64, .i .i64, .i .i64, .b]], .i .i64] r) : ∃ x : l10_Query, r = x6m x /\ x5f x := by
 obtain ⟨a0, r0, rfl, h0, g0⟩ := b3e h
 obtain ⟨a1, r1, rfl, h1, g1⟩ := b3e g0
 obtain ⟨a2, r2, rfl, h2, g2⟩ := b3e g1
 obtain ⟨v0, rfl, k0⟩ := x6x h0
 obtain ⟨v1, rfl, k1⟩ := d4b h1
 obtain ⟨v2, rfl, k2⟩ := b6n h2
 exact ⟨⟨v0, v1, v2⟩, by rw [b6o g2]; rfl, ⟨k0, k1, k2⟩⟩
abbrev x5y : List Sh := [.sl [.i .i64, .i .i64, .i .i64], .sl [.sl [.i .i64, .i .i64, .i .i64, .b]], .i .i64]
theorem x62 {a : AV} (h : MtA (.agg x5y) a) : ∃ x : l10_Query, a = .agg [.fs 3 (List.map u26 x.Theories), .fs 1 (List.map b0t x.Cond), I x.Tick] /\ x5f x := by
 obtain ⟨r, rfl, hr⟩ := g1y h
 obtain ⟨x, rfl, hx⟩ := x6y hr
 exact ⟨x, rfl, hx⟩
end Go.Nw.AM
namespace Go.Nw.AM
noncomputable section
section
variable {a : Accident} {th : Theory} (hf : ∀ n ∈ b3g a.Machine, n.size <= maxLen) (hn : a.Records.length <= 10) (hs : b40 a ≠ 0 \/ Small a)
include hf hn hs
end
section
variable [Bd]
theorem d5j {c : List (List Literal)} (hB : Bd.B <= 1048576) (h : OkL (OkL b5x) c) : d02 c := ⟨Nat.le_trans h.1 hB, fun t ht => Nat.le_trans (h.2 t ht).1 hB⟩
theorem l5y {m : Machine} (h : b9d m) : ∀ n ∈ b3g m, n.size <= maxLen := by
 obtain ⟨h1, h2, h3, h4, h5⟩ := h
 intro n hn
 have hB := Bd.le
 simp only [b3g, List.mem_append, List.mem_map] at hn
 rcases hn with ((hn | hn) | ⟨c, hc, rfl⟩) | ⟨c, hc, rfl⟩
 ·exact Nat.le_trans (h1.2 n hn) hB
 ·exact Nat.le_trans (h2.2 n hn) hB
 ·exact Nat.le_trans (h3.2 c hc).1 hB
 ·exact Nat.le_trans (h4.2 c hc).1 hB
theorem tdm {m : Machine} (hB : Bd.B <= 1048576) (h : b9d m) : FewM m := by
 have hn := l5y h
 obtain ⟨h1, h2, h3, h4, h5⟩ := h
 exact ⟨Nat.le_trans h1.1 hB, Nat.le_trans h2.1 hB, Nat.le_trans h3.1 hB, Nat.le_trans h4.1 hB, Nat.le_trans h5.1 hB, fun r hr => ⟨d5j hB (h5.2 r hr).2.2.1, Nat.le_trans (h5.2 r hr).2.2.2.1 hB⟩, hn⟩
theorem tda {a : Accident} (hB : Bd.B <= 1048576) (h : s9d a) : FewA a := by
 obtain ⟨h1, h2, h3, h4⟩ := h
 exact ⟨tdm hB h1, d5j hB h2, fun r hr => d5j hB (h4.2 r hr).2.2.2⟩
theorem u9q {a : Accident} (h : s9d a) : ∀ n ∈ b3g a.Machine, n.size <= maxLen := l5y h.1
end
end
end Go.Nw.AM
namespace Go.Nw
theorem x55 {π : Type} {st : Nat -> π -> Nat -> π} : ∀ {w : List Nat} {t0 k x : Nat} {p : π}, w[k]? = some x -> pat st t0 p w (k + 1) = st (t0 + k) (pat st t0 p w k) x
 | [], t0, k, x, p, h => by simp at h
 | y :: ys, t0, 0, x, p, h => by
  simp only [List.getElem?_cons_zero, iE9] at h
  subst h
  cases ys <;> rfl
 | y :: ys, t0, k + 1, x, p, h => by
  simp only [List.getElem?_cons_succ] at h
  show pat st (t0 + 1) (st t0 p y) ys (k + 1) = st (t0 + (k + 1)) (pat st (t0 + 1) (st t0 p y) ys k) x
  rw [x55 h, show t0 + 1 + k = t0 + (k + 1) by omega]
end Go.Nw
namespace Go.Nw.AM
noncomputable section
section
variable {a : Accident} {th : Theory} {l : List Nat} {want : Nat}
theorem x56 : ∀ (w : List Nat) (t0 : Nat) (s0 : Place × Nat) (k x : Nat), Rch a th l t0 s0 -> AcD a th l want w (t0, s0) -> t0 + w.length = tA a -> w[k]? = some x ->
  ∃ s, Rch a th l (t0 + k) s /\ s.1 = pat (stA a th) t0 s0.1 w k /\ x < nA a /\ ∃ m', TD a th l (t0 + k, s) x = some m' /\ b64 a th l want m'
 | [], t0, s0, k, x, hR, hA, hlen, h => by simp at h
 | y :: ys, t0, s0, k, x, hR, hA, hlen, h => by
  rw [List.length_cons] at hlen
  obtain ⟨h1, m', h2, h3⟩ := (u1t (by show t0 < tA a; omega)).1 hA
  cases k with
  | zero =>
   simp only [List.getElem?_cons_zero, iE9] at h
   subst h
   exact ⟨s0, hR, by cases ys <;> rfl, h1, m', h2, ys, h3⟩
  | succ k =>
   simp only [List.getElem?_cons_succ] at h
   obtain ⟨D', _, _, e⟩ := u1f h2
   subst e
   obtain ⟨s, g1, g2, g3, g4⟩ := x56 ys (t0 + 1) _ k x ⟨s0, hR, y, h1, h2⟩ h3 (by omega) h
   rw [show t0 + 1 + k = t0 + (k + 1) by omega] at g1 g4
   exact ⟨s, g1, g2, g3, g4⟩
theorem x51 : ∀ (t : Nat) (s : Place × Nat) (w : List Nat), Rch a th l t s -> AcD a th l want w (t, s) -> t <= tA a -> ∃ u : List Nat, u.length = t /\ AcD a th l want (u ++ w) (0, zero, 0) /\ pat (stA a th) 0 zero (u ++ w) t = s.1
 | 0, s, w, hR, hA, _ => by
  have : s = (zero, 0) := hR
  subst this
  exact ⟨[], rfl, hA, by cases w <;> rfl⟩
 | t + 1, s', w, hR, hA, ht => by
  obtain ⟨s, h1, x, h2, h3⟩ := hR
  have hc : AcD a th l want (x :: w) (t, s) := (u1t (by show t < tA a; omega)).2 ⟨h2, _, h3, hA⟩
  obtain ⟨u, g1, g2, g3⟩ := x51 t s (x :: w) h1 hc (by omega)
  refine ⟨u ++ [x], by simp [g1], by simpa using g2, ?_⟩
  have hx : (u ++ x :: w)[t]? = some x := by rw [List.getElem?_append_right (by omega), g1]; simp
  obtain ⟨D', _, _, e⟩ := u1f h3
  simp only [Prod.mk.injEq, true_and] at e
  rw [List.append_assoc, List.singleton_append, x55 hx, g3, Nat.zero_add, e]
def x40 (a : Accident) (c : List (List Literal)) (tick : Nat) (t : Nat) (p : Place) (x : Nat) : Bool := decide (t ≠ tick) || !b46 a.Machine p (x : Int) c
theorem x53 {keep : Nat -> Bool} {c : List (List Literal)} {tick : Nat} {w : List Nat} : l18 a th keep (x40 a c tick) w ↔ l18 a th keep ftT w /\ ∀ x, w[tick]? = some x -> b46 a.Machine (pat (stA a th) 0 zero w tick) (x : Int) c = false := by
 unfold l18 l27
 rw [x5o, x5o]
 constructor
 ·rintro ⟨h1, h2, h3⟩
  refine ⟨⟨h1, fun k x hk => ?_, h3⟩, fun x hx => ?_⟩
  ·obtain ⟨g1, g2⟩ := h2 k x hk
   unfold okA at g2 ⊢
   rw [Bool.and_eq_true] at g2
   exact ⟨g1, by simp [g2.1, ftT]⟩
  ·obtain ⟨g1, g2⟩ := h2 tick x hx
   unfold okA x40 at g2
   rw [Nat.zero_add] at g2
   simpa using (Bool.and_eq_true_iff.1 g2).2
 ·rintro ⟨⟨h1, h2, h3⟩, h4⟩
  refine ⟨h1, fun k x hk => ?_, h3⟩
  obtain ⟨g1, g2⟩ := h2 k x hk
  unfold okA at g2 ⊢
  rw [Bool.and_eq_true] at g2
  refine ⟨g1, ?_⟩
  rw [g2.1, Bool.true_and, Nat.zero_add]
  unfold x40
  by_cases e : k = tick
  ·subst e; rw [h4 x hk]; simp
  ·simp [e]
def Bad (a : Accident) (th : Theory) (c : List (List Literal)) (tick : Nat) : Prop := ∃ w, l18 a th (fun _ => true) (x40 a c tick) w
theorem x60 (ha : OkA a) (hth : OkT a th) {c : List (List Literal)} (hc : b2s a.Machine true c) (tick : Nat) :
  ∃ r, x5q a th (fun z25 z26 z27 => v11 z25 z26 z27 (tick : Int) (situation_Plant.mk a.Machine) c) = some r /\ (r.2 = true ↔ Bad a th c tick) := by
 rcases u9k (keep := fun _ => true) (ft := x40 a c tick) (kp := fun _ => some true) (fp := fun z25 z26 z27 => v11 z25 z26 z27 (tick : Int) (situation_Plant.mk a.Machine) c) ha hth (fun _ _ => rfl) (fun t p x ht hp hx => by
   unfold v11 x40
   by_cases e : t = tick
   ·subst e
    rw [if_neg (by simp), c5w ha.m.z hp.s hc]
    simp
   ·rw [if_pos (by simp; omega)]
    simp [e]) with ⟨w, h1, h2⟩ | ⟨h1, h2⟩
 ·exact ⟨_, h2, fun _ => ⟨w, h1.1⟩, fun _ => rfl⟩
 ·exact ⟨_, h2, (fun h => by cases h), fun ⟨w, h⟩ => absurd h (h1 w)⟩
variable (hs : Small a) (hth : OkT a th)
include hs hth
theorem x6z {c : List (List Literal)} (hc : b2s a.Machine true c) {tick : Nat} (ht : tick < tA a) {l : List Theory} {i : Nat} (hi : l[i]? = some th) {rows : List (List r10_knot)} (hw : u0c (al a) (c49 (List.range a.Records.length)) a.Records.length want)
  (hrows : ∀ t, t <= tA a -> ∃ row, rows[t]? = some row /\ r61 a th (List.range a.Records.length) want t row) :
  (Bad a th c tick /\ b0w (x4z a l c (tick : Int) (i : Int) rows) 0 = some (.inr (false, 0))) \/ (¬ Bad a th c tick /\ b0w (x4z a l c (tick : Int) (i : Int) rows) 0 = some (.inl ())) := by
 have h4 := nA4 hs
 have h6 := tA6 hs
 have hn8 := hs.ok.n
 have hp4 := u00 (show tick <= 6 by omega)
 have hp5 := u00 (show tick + 1 <= 6 by omega)
 obtain ⟨row, hr, hlen, hmem⟩ := hrows tick (by omega)
 obtain ⟨nrow, hn, hnlen, hnmem⟩ := hrows (tick + 1) (by omega)
 have hcong : ∀ w, l18 a th (c49 (List.range a.Records.length)) ftT w ↔ l18 a th (fun _ => true) ftT w := fun w => u3c fun i hi => u3w hi
 -- what a knot shows
 let Bk : Place × Nat -> Nat -> Prop := fun s x => ∃ m', TD a th (List.range a.Records.length) (tick, s) x = some m' /\ b64 a th (List.range a.Records.length) want m' /\ b46 a.Machine s.1 (x : Int) c = false
 have hbad : Bad a th c tick ↔ ∃ s, Rch a th (List.range a.Records.length) tick s /\ ∃ x, x < nA a /\ Bk s x := by
  constructor
  ·rintro ⟨w, hw1⟩
   obtain ⟨f1, f2⟩ := x53.1 hw1
   have hA := (u3b (T := tA a) (N := nA a) (p0 := zero) hw).2 ((hcong w).2 f1)
   have hl := f1.1
   obtain ⟨x, hx⟩ := b3b (l := w) (k := tick) (by omega)
   obtain ⟨s, g1, g2, g3, m', g4, g5⟩ := x56 (want := want) w 0 (zero, 0) tick x rfl hA (by omega) hx
   rw [Nat.zero_add] at g1 g4
   refine ⟨s, g1, x, g3, m', g4, g5, ?_⟩
   rw [g2]; exact f2 x hx
  ·rintro ⟨s, g1, x, g2, m', g3, ⟨w, g4⟩, g5⟩
   have hA : AcD a th (List.range a.Records.length) want (x :: w) (tick, s) := (u1t ht).2 ⟨g2, m', g3, g4⟩
   obtain ⟨u, q1, q2, q3⟩ := x51 tick s (x :: w) g1 hA (by omega)
   have hF := (hcong _).1 ((u3b (T := tA a) (N := nA a) (p0 := zero) hw).1 q2)
   refine ⟨u ++ x :: w, x53.2 ⟨hF, fun y hy => ?_⟩⟩
   have : (u ++ x :: w)[tick]? = some x := by rw [List.getElem?_append_right (by omega), q1]; simp
   rw [this] at hy; cases hy
   rw [q3]; exact g5
 have inner : ∀ (k : Nat) (s : Place × Nat), row[k]? = some (kn s) -> Rch a th (List.range a.Records.length) tick s ->
   ((∃ x, x < nA a /\ Bk s x) /\ b0w (x14 a l c (tick : Int) (i : Int) rows (k : Int)) 0 = some (.inr (false, 0))) \/ ((¬ ∃ x, x < nA a /\ Bk s x) /\ b0w (x14 a l c (tick : Int) (i : Int) rows (k : Int)) 0 = some (.inl ())) := fun k s hk hR => by
  obtain ⟨hp, hD⟩ := u2f hs.ok hR
  obtain ⟨b, h1, h2⟩ := j7u (f := x14 a l c (tick : Int) (i : Int) rows (k : Int)) (nA a) (fun (_ : Unit) k => k)
   (fun x _ => ¬ ∃ y, y < x /\ Bk s y)
   (fun b => ((∃ x, x < nA a /\ Bk s x) /\ b = .inr (false, 0)) \/ ((¬ ∃ x, x < nA a /\ Bk s x) /\ b = .inl ())) (fun _ x hx i1 => by
    have hxx : ((x : Int) < ((nA a : Nat) : Int)) := by omega
    obtain ⟨k2, b, g1, g2⟩ := u4d (l := List.range a.Records.length) (m := (tick, s)) hs.ok hth (fun i hi => List.mem_range.1 hi) (by rw [List.length_range]; exact hn8) hp hD hx
    have hwt : wr ((tick : Int) + 1) = ((tick + 1 : Nat) : Int) := by rw [b3t (by omega) (by omega)]; simp
    have hw1 : wr ((x : Int) + 1) = (x : Int) + 1 := b2r hx (by simp only [maxLen]; omega)
    have skip : ¬ Bk s x -> ¬ ∃ y, y < x + 1 /\ Bk s y := fun h ⟨y, q1, q2⟩ => by
     by_cases e : y = x
     ·subst e; exact h q2
     ·exact i1 ⟨y, by omega, q2⟩
    unfold x14
    rw [u5e hs.ok]
    simp only [bS9, hxx, decide_true, if_true, b1h hi, u35 (show a.Records.length <= 10 by omega), b1h hr, b1h hk, hwt, b1h hn]
    rw [show l97 a th (toI (List.range a.Records.length)) (tick : Int) (kn s) (x : Int) = _ from g1, bS9]
    cases htd : TD a th (List.range a.Records.length) (tick, s) x with
    | none =>
     rw [htd] at g2
     simp only at g2
     subst g2
     rw [if_neg (by simp), bS9, if_neg (by simp), bS9, if_neg (by simp), hw1]
     exact .inl ⟨(), rfl, skip fun ⟨m', q, _⟩ => by rw [htd] at q; cases q⟩
    | some m' =>
     rw [htd] at g2
     simp only at g2
     obtain ⟨rfl, rfl⟩ := g2
     simp only [if_true]
     obtain ⟨j, j1, j2⟩ := g0i (l := nrow) (by omega) (kn m'.2)
     obtain ⟨_, q2, q3⟩ := u5h hR hx htd
     rw [show s8y nrow (r10_knot.mk (Place.mk (kn m'.2).place.State ((kn m'.2).place.Values.1, (kn m'.2).place.Values.2)) (kn m'.2).done) = _ from j1, bS9, bS9]
     have hin : kn m'.2 ∈ nrow ↔ b64 a th (List.range a.Records.length) want m' := by
      rw [hnmem]
      constructor
      ·rintro ⟨s', r1, r2, r3⟩
       rw [q3, s9n r3]; exact r2
      ·intro h
       exact ⟨m'.2, q2, by rw [<- q3]; exact h, rfl⟩
     by_cases cL : b64 a th (List.range a.Records.length) want m'
     ·rw [if_pos (by rw [decide_eq_true_eq, j2, hin]; exact cL)]
      have hH : b7o a.Machine (Place.mk (kn s).place.State ((kn s).place.Values.1, (kn s).place.Values.2)) (x : Int) c = some (b46 a.Machine s.1 (x : Int) c) := c5x hs.ok.m.z hp.s hc
      rw [hH, bS9, bS9]
      cases hh : b46 a.Machine s.1 (x : Int) c with
      | false =>
       rw [if_pos (by rfl)]
       exact .inr ⟨_, rfl, .inl ⟨⟨x, hx, m', htd, cL, hh⟩, rfl⟩⟩
      | true =>
       rw [if_neg (by simp), hw1]
       exact .inl ⟨(), rfl, skip fun ⟨_, _, _, q⟩ => by rw [hh] at q; cases q⟩
     ·rw [if_neg (by rw [decide_eq_true_eq, j2, hin]; exact cL), bS9, if_neg (by simp), hw1]
      exact .inl ⟨(), rfl, skip fun ⟨m2, q, q1, _⟩ => by rw [htd] at q; cases q; exact cL q1⟩) (fun _ i1 => by
    refine ⟨.inl (), ?_, .inr ⟨i1, rfl⟩⟩
    unfold x14
    rw [u5e hs.ok]
    simp only [bS9, Int.lt_irrefl, decide_false, fT9, if_false]) 0 (Nat.zero_le _) (s := ()) (fun ⟨y, hy, _⟩ => by omega)
  rcases h2 with ⟨q1, rfl⟩ | ⟨q1, rfl⟩
  ·exact .inl ⟨q1, h1⟩
  ·exact .inr ⟨q1, h1⟩
 -- a knot that leads to an end anyway
 have hlive : ∀ s x, Rch a th (List.range a.Records.length) tick s -> x < nA a -> Bk s x -> b64 a th (List.range a.Records.length) want (tick, s) := fun s x _ hx ⟨m', q1, q2, _⟩ => (u5b (m := (tick, s)) ht).2 ⟨x, hx, m', q1, q2⟩
 obtain ⟨b, h1, h2⟩ := j7u (f := x4z a l c (tick : Int) (i : Int) rows) row.length (fun (_ : Unit) k => k)
  (fun k _ => ∀ j s, j < k -> row[j]? = some (kn s) -> ¬ ∃ x, x < nA a /\ Bk s x)
  (fun b => (Bad a th c tick /\ b = .inr (false, 0)) \/ (¬ Bad a th c tick /\ b = .inl ())) (fun _ k hk i1 => by
   obtain ⟨kk, hkk⟩ := b3b hk
   obtain ⟨s, q1, _, rfl⟩ := (hmem kk).1 (b1d.2 ⟨k, hkk⟩)
   unfold x4z
   simp only [b1h hr, bS9, Int.ofNat_lt, hk, decide_true, if_true]
   rcases inner k s hkk q1 with ⟨g1, g2⟩ | ⟨g1, g2⟩
   ·rw [g2, bS9]
    obtain ⟨x, x1, x2⟩ := g1
    exact .inr ⟨_, rfl, .inl ⟨hbad.2 ⟨s, q1, x, x1, x2⟩, rfl⟩⟩
   ·rw [g2, bS9]
    unfold x5j
    rw [b2r hk (by simp only [maxLen]; omega)]
    refine .inl ⟨(), rfl, fun j s2 hj hs2 => ?_⟩
    by_cases e : j = k
    ·subst e
     rw [hkk] at hs2
     rw [<- s9n (Option.some.inj hs2)]; exact g1
    ·exact i1 j s2 (by omega) hs2) (fun _ i1 => by
   refine ⟨.inl (), ?_, .inr ⟨fun h => ?_, rfl⟩⟩
   ·unfold x4z
    simp only [b1h hr, bS9, Int.lt_irrefl, decide_false, fT9, if_false]
   ·obtain ⟨s, q1, x, q2, q3⟩ := hbad.1 h
    obtain ⟨j, hj⟩ := b1d.1 ((hmem _).2 ⟨s, q1, hlive s x q1 q2 q3, rfl⟩)
    exact i1 j s (b1k hj) hj ⟨x, q2, q3⟩) 0 (Nat.zero_le _) (s := ()) (fun j s hj => by omega)
 rcases h2 with ⟨q1, rfl⟩ | ⟨q1, rfl⟩
 ·exact .inl ⟨q1, h1⟩
 ·exact .inr ⟨q1, h1⟩
end
section
variable {a : Accident} (hf : ∀ n ∈ b3g a.Machine, n.size <= maxLen) (hn : a.Records.length <= 10) (hs : b40 a ≠ 0 \/ Small a)
include hf hn hs
theorem x6e {l : List Theory} (hl : l.length <= 1000) (c : List (List Literal)) (tick : Int) (h64 : b5k tick) : ∃ r, x43 a l c tick = some r /\ x5b a l c tick = some r /\
  (r.2 = 0 -> OkA a /\ Small a /\ b2s a.Machine true c /\ (∀ t ∈ l, OkT a t) /\ ∃ tk : Nat, tick = tk /\ tk < tA a /\ (r.1 = true ↔ ∀ t ∈ l, ¬ Bad a t c tk)) := by
 unfold x43 x5b
 rw [u6k hf hn, u4j hf hn, bS9, bS9]
 by_cases he : b40 a = 0
 case neg => rw [if_pos (by simpa using he), if_pos (by simpa using he)]; exact ⟨_, rfl, rfl, fun h => absurd h he⟩
 rw [if_neg (by simp [he]), if_neg (by simp [he])]
 have ha := u1v.1 he
 have hs' : Small a := by
  rcases hs with h | h
  ·exact absurd (u1v.2 ha) h
  ·exact h
 have h6 := tA6 hs'
 have hT := s9b ha
 have hn8 := ha.n
 obtain ⟨b, h1, h2⟩ := d5p ha.m.z c
 obtain ⟨e, h3, h4⟩ := d5s hf (l := [c]) (by simp)
 rw [h1, h3, bS9, bS9]
 by_cases hc : b2s a.Machine true c
 case neg =>
  have hb : b = false := by
   cases b with
   | false => rfl
   | true => exact absurd (h2.1 rfl) hc
  have hee : e ≠ 0 := by
   rcases h4 with ⟨_, _, q⟩ | ⟨rfl, _⟩ | ⟨rfl, _⟩
   ·exact absurd (q c (by simp)) hc
   ·decide
   ·decide
  subst hb
  rw [if_pos (by rfl), if_pos (by simpa using hee)]
  exact ⟨_, rfl, rfl, fun h => by cases h⟩
 have hb : b = true := h2.2 hc
 have hee : e = 0 := by
  rcases h4 with ⟨q, _⟩ | ⟨_, q⟩ | ⟨_, _, x, hx, q⟩
  ·exact q
  ·exact absurd ha.m q
  ·rw [List.mem_singleton.1 hx] at q; exact absurd hc q
 subst hb hee
 rw [if_neg (by simp), if_neg (by simp)]
 have hscan : ∀ (f : Int -> Option (Out Int (Unit ⊕ (Bool × Int)))), (∀ (k : Nat) x, l[k]? = some x -> f k = if l59 a x = true then some (.nx (wr ((k : Int) + 1))) else some (.br (.inr (false, 1)))) -> f (l.length : Int) = some (.br (.inl ())) ->
   ((∀ t ∈ l, OkT a t) /\ b0w f 0 = some (.inl ())) \/ ((¬ ∀ t ∈ l, OkT a t) /\ b0w f 0 = some (.inr (false, 1))) := fun f g1 g2 => by
  rcases b4j (f := f) (l := l) (p := fun _ x => ¬ OkT a x) (e := .inr (false, 1)) (u := .inl ()) (c12 hl) (fun k x hx => by
    refine ⟨!l59 a x, ?_, by unfold OkT; simp⟩
    rw [g1 k x hx]
    by_cases h : l59 a x = true <;> simp [h]) g2 with ⟨q1, q2⟩ | ⟨⟨k, x, q1, q2⟩, q3⟩
  ·refine .inl ⟨fun t ht => ?_, q2⟩
   obtain ⟨k, hk⟩ := b1d.1 ht
   exact Classical.not_not.1 (q1 k t hk)
  ·exact .inr ⟨fun h => q2 (h x (b1d.2 ⟨k, q1⟩)), q3⟩
 have A := hscan (y62 a l) (fun k x hx => by
  unfold y62
  simp only [b1h hx, bS9, Int.ofNat_lt, b1k hx, decide_true, if_true, u9r]
  by_cases h : l59 a x = true <;> simp [h]) (by unfold y62; simp only [Int.lt_irrefl, decide_false, fT9, if_false])
 have B := hscan (x5c a l) (fun k x hx => by
  unfold x5c
  simp only [b1h hx, bS9, Int.ofNat_lt, b1k hx, decide_true, if_true]
  by_cases h : l59 a x = true <;> simp [h]) (by unfold x5c; simp only [Int.lt_irrefl, decide_false, fT9, if_false])
 by_cases hth : ∀ t ∈ l, OkT a t
 case neg =>
  rcases A with ⟨q, _⟩ | ⟨_, A⟩
  ·exact absurd q hth
  rcases B with ⟨q, _⟩ | ⟨_, B⟩
  ·exact absurd q hth
  rw [A, B, bS9, bS9]
  exact ⟨_, rfl, rfl, fun h => by cases h⟩
 rcases A with ⟨_, A⟩ | ⟨q, _⟩
 case inr => exact absurd hth q
 rcases B with ⟨_, B⟩ | ⟨q, _⟩
 case inr => exact absurd hth q
 rw [A, B, bS9, bS9]
 unfold x5g x5i
 simp only
 have hw : wr (a.Ticks - 1) = a.Ticks - 1 := b3t (by omega) (by omega)
 rw [hw]
 have e1 : c19 tick 0 (a.Ticks - 1) = b98 tick 0 (a.Ticks - 1) := rfl
 rw [e1]
 have hfr : b98 tick 0 (a.Ticks - 1) = true ↔ 0 <= tick /\ tick < a.Ticks := by unfold b98; simp; omega
 by_cases htk : 0 <= tick /\ tick < a.Ticks
 case neg =>
  have : b98 tick 0 (a.Ticks - 1) = false := by
   cases h : b98 tick 0 (a.Ticks - 1) with
   | false => rfl
   | true => exact absurd (hfr.1 h) htk
  rw [this]
  exact ⟨_, rfl, rfl, fun h => by cases h⟩
 rw [hfr.2 htk, if_neg (by simp), if_neg (by simp)]
 obtain ⟨tk, rfl⟩ : ∃ k : Nat, tick = k := ⟨tick.toNat, by omega⟩
 have ht : tk < tA a := by omega
 have P := b4j (f := x48 a l c (tk : Int)) (l := l) (p := fun _ x => Bad a x c tk) (e := .inr (false, 0)) (u := .inl ()) (c12 hl) (fun k x hx => by
  obtain ⟨r, g1, g2⟩ := x60 ha (hth x (b1d.2 ⟨k, hx⟩)) hc tk
  refine ⟨r.2, ?_, g2⟩
  unfold x48
  simp only [b1h hx, bS9, Int.ofNat_lt, b1k hx, decide_true, if_true, g1]) (by unfold x48; simp only [Int.lt_irrefl, decide_false, fT9, if_false])
 have Q := b4j (f := x5d a l c (tk : Int)) (l := l) (p := fun _ x => Bad a x c tk) (e := .inr (false, 0)) (u := .inl ()) (c12 hl) (fun k x hx => by
  have hx' := hth x (b1d.2 ⟨k, hx⟩)
  obtain ⟨W, rows, w1, w2, w3, w4⟩ := u5a (l := List.range a.Records.length) hs' hx' (fun i hi => List.mem_range.1 hi) (by rw [List.length_range]; exact hn8)
  unfold x5d
  simp only [b1h hx, bS9, Int.ofNat_lt, b1k hx, decide_true, if_true, u35 hn, w2]
  rcases x6z hs' hx' hc ht hx w1 w4 with ⟨g1, g2⟩ | ⟨g1, g2⟩
  ·rw [g2]; exact ⟨true, rfl, fun _ => g1, fun _ => rfl⟩
  ·rw [g2]; exact ⟨false, rfl, (fun h => by cases h), fun h => absurd h g1⟩) (by unfold x5d; simp only [Int.lt_irrefl, decide_false, fT9, if_false])
 by_cases hB : ∀ t ∈ l, ¬ Bad a t c tk
 ·rcases P with ⟨_, P⟩ | ⟨⟨k, x, q1, q2⟩, _⟩
  case inr => exact absurd q2 (hB x (b1d.2 ⟨k, q1⟩))
  rcases Q with ⟨_, Q⟩ | ⟨⟨k, x, q1, q2⟩, _⟩
  case inr => exact absurd q2 (hB x (b1d.2 ⟨k, q1⟩))
  rw [P, Q]
  exact ⟨(true, 0), rfl, rfl, fun _ => ⟨ha, hs', hc, hth, tk, rfl, ht, fun _ => hB, fun _ => rfl⟩⟩
 ·have hno : ∀ (hq : ∀ k x, l[k]? = some x -> ¬ Bad a x c tk), False := fun hq => hB fun t ht => by
   obtain ⟨k, hk⟩ := b1d.1 ht
   exact hq k t hk
  rcases P with ⟨q, _⟩ | ⟨_, P⟩
  ·exact (hno q).elim
  rcases Q with ⟨q, _⟩ | ⟨_, Q⟩
  ·exact (hno q).elim
  rw [P, Q]
  exact ⟨(false, 0), rfl, rfl, fun _ => ⟨ha, hs', hc, hth, tk, rfl, ht, (fun h => by cases h), fun h => absurd h hB⟩⟩
end
section
variable [Bd]
theorem x6f (hB : Bd.B <= 1048576) (a : Accident) (q : l10_Query) (hm : s9d a) (hq : x5f q) : x5a a q = some true := by
 have hf := u9q hm
 unfold x5a
 rcases u6h hf with h | ⟨hn, h, hs⟩
 ·rw [h]; rfl
 rw [h, bS9]
 by_cases h6 : 6 < q.Theories.length
 ·rw [if_pos (by simp; omega)]; rfl
 rw [if_neg (by simp; omega), u6e (tda hB hm) hn, bS9, b6d (by simp) (by omega) (by omega), bS9, d01 (d5j hB hq.2.1), bS9, List.nil_append]
 obtain ⟨r, h1, h2, _⟩ := x6e hf hn hs (l := q.Theories) (by omega) q.Cond q.Tick hq.2.2
 rw [h1, h2, bS9, bS9]
 cases r.1 <;> simp [u10, b5c]
end
end
end Go.Nw.AM
