/- Plain laws on the models. -/
import Derived.Test.YtgkhgpphjhefaaaDoorUM
import Derived.Test.YtgkhgpphjhefaaaDoorNwTypes
import Derived.Test.YtgkhgpphjhefaaaDoorP3
import Derived.Test.YtgkhgpphjhefaaaDoorP4
set_option linter.all false
namespace Go.Nw.UM
variable [Bd]
def c68 (x : ByteArray) : Prop := x.size <= Bd.B
theorem l4q {r : List AV} (h : MtL [.s] r) : ∃ x : ByteArray, r = eS x /\ c68 x := by
 obtain ⟨a0, r0, rfl, h0, g0⟩ := b3e h
 obtain ⟨v0, rfl, k0⟩ := d4c h0
 exact ⟨v0, by rw [b6o g0]; rfl, k0⟩
theorem g1x {a : AV} (h : Mt (.sl [.s]) a) : ∃ l : List ByteArray, a = .fs 1 (l.map eS) /\ OkL c68 l := by
 obtain ⟨l, rfl, h1, h2⟩ := b8q eS c68 h fun r hr => l4q hr
 exact ⟨l, rfl, h1, h2⟩
def r8n (x : Counter) : Prop := c68 x.Name /\ b5k x.Max
theorem l4l {r : List AV} (h : MtL [.s, .i .i64] r) : ∃ x : Counter, r = b0o x /\ r8n x := by
 obtain ⟨a0, r0, rfl, h0, g0⟩ := b3e h
 obtain ⟨a1, r1, rfl, h1, g1⟩ := b3e g0
 obtain ⟨v0, rfl, k0⟩ := d4c h0
 obtain ⟨v1, rfl, k1⟩ := b6n h1
 exact ⟨⟨v0, v1⟩, by rw [b6o g1]; rfl, ⟨k0, k1⟩⟩
theorem j8e {a : AV} (h : Mt (.sl [.s, .i .i64]) a) : ∃ l : List Counter, a = .fs 2 (l.map b0o) /\ OkL r8n l := by
 obtain ⟨l, rfl, h1, h2⟩ := b8q b0o r8n h fun r hr => l4l hr
 exact ⟨l, rfl, h1, h2⟩
def y9d (x : State) : Prop := c68 x.Name /\ b5k x.Shows
theorem l4s {r : List AV} (h : MtL [.s, .i .i64] r) : ∃ x : State, r = b0p x /\ y9d x := by
 obtain ⟨a0, r0, rfl, h0, g0⟩ := b3e h
 obtain ⟨a1, r1, rfl, h1, g1⟩ := b3e g0
 obtain ⟨v0, rfl, k0⟩ := d4c h0
 obtain ⟨v1, rfl, k1⟩ := b6n h1
 exact ⟨⟨v0, v1⟩, by rw [b6o g1]; rfl, ⟨k0, k1⟩⟩
theorem j8i {a : AV} (h : Mt (.sl [.s, .i .i64]) a) : ∃ l : List State, a = .fs 2 (l.map b0p) /\ OkL y9d l := by
 obtain ⟨l, rfl, h1, h2⟩ := b8q b0p y9d h fun r hr => l4s hr
 exact ⟨l, rfl, h1, h2⟩
def b5x (x : Literal) : Prop := b5k x.Kind /\ b5k x.Number /\ b5k x.Value /\ True
theorem l4n {r : List AV} (h : MtL [.i .i64, .i .i64, .i .i64, .b] r) : ∃ x : Literal, r = b3k x /\ b5x x := by
 obtain ⟨a0, r0, rfl, h0, g0⟩ := b3e h
 obtain ⟨a1, r1, rfl, h1, g1⟩ := b3e g0
 obtain ⟨a2, r2, rfl, h2, g2⟩ := b3e g1
 obtain ⟨a3, r3, rfl, h3, g3⟩ := b3e g2
 obtain ⟨v0, rfl, k0⟩ := b6n h0
 obtain ⟨v1, rfl, k1⟩ := b6n h1
 obtain ⟨v2, rfl, k2⟩ := b6n h2
 obtain ⟨v3, rfl, k3⟩ := j8k h3
 exact ⟨⟨v0, v1, v2, v3⟩, by rw [b6o g3]; rfl, ⟨k0, k1, k2, k3⟩⟩
theorem j8f {a : AV} (h : Mt (.sl [.i .i64, .i .i64, .i .i64, .b]) a) : ∃ l : List Literal, a = .fs 4 (l.map b3k) /\ OkL b5x l := by
 obtain ⟨l, rfl, h1, h2⟩ := b8q b3k b5x h fun r hr => l4n hr
 exact ⟨l, rfl, h1, h2⟩
theorem l4m {r : List AV} (h : MtL [.sl [.i .i64, .i .i64, .i .i64, .b]] r) : ∃ x : List Literal, r = b0t x /\ OkL b5x x := by
 obtain ⟨a0, r0, rfl, h0, g0⟩ := b3e h
 obtain ⟨v0, rfl, k0⟩ := j8f h0
 exact ⟨v0, by rw [b6o g0]; rfl, k0⟩
theorem d4b {a : AV} (h : Mt (.sl [.sl [.i .i64, .i .i64, .i .i64, .b]]) a) : ∃ l : List (List Literal), a = .fs 1 (l.map b0t) /\ OkL (OkL b5x) l := by
 obtain ⟨l, rfl, h1, h2⟩ := b8q b0t (OkL b5x) h fun r hr => l4m hr
 exact ⟨l, rfl, h1, h2⟩
def z15 (x : Set) : Prop := b5k x.Kind /\ b5k x.Counter
theorem l4r {r : List AV} (h : MtL [.i .i64, .i .i64] r) : ∃ x : Set, r = b2o x /\ z15 x := by
 obtain ⟨a0, r0, rfl, h0, g0⟩ := b3e h
 obtain ⟨a1, r1, rfl, h1, g1⟩ := b3e g0
 obtain ⟨v0, rfl, k0⟩ := b6n h0
 obtain ⟨v1, rfl, k1⟩ := b6n h1
 exact ⟨⟨v0, v1⟩, by rw [b6o g1]; rfl, ⟨k0, k1⟩⟩
theorem j8h {a : AV} (h : Mt (.sl [.i .i64, .i .i64]) a) : ∃ l : List Set, a = .fs 2 (l.map b2o) /\ OkL z15 l := by
 obtain ⟨l, rfl, h1, h2⟩ := b8q b2o z15 h fun r hr => l4r hr
 exact ⟨l, rfl, h1, h2⟩
def y9c (x : Rule) : Prop := b5k x.From /\ b5k x.To /\ OkL (OkL b5x) x.When /\ OkL z15 x.Sets
theorem l4p {r : List AV} (h : MtL [.i .i64, .i .i64, .sl [.sl [.i .i64, .i .i64, .i .i64, .b]], .sl [.i .i64, .i .i64]] r) : ∃ x : Rule, r = b0m x /\ y9c x := by
 obtain ⟨a0, r0, rfl, h0, g0⟩ := b3e h
 obtain ⟨a1, r1, rfl, h1, g1⟩ := b3e g0
 obtain ⟨a2, r2, rfl, h2, g2⟩ := b3e g1
 obtain ⟨a3, r3, rfl, h3, g3⟩ := b3e g2
 obtain ⟨v0, rfl, k0⟩ := b6n h0
 obtain ⟨v1, rfl, k1⟩ := b6n h1
 obtain ⟨v2, rfl, k2⟩ := d4b h2
 obtain ⟨v3, rfl, k3⟩ := j8h h3
 exact ⟨⟨v0, v1, v2, v3⟩, by rw [b6o g3]; rfl, ⟨k0, k1, k2, k3⟩⟩
theorem j8g {a : AV} (h : Mt (.sl [.i .i64, .i .i64, .sl [.sl [.i .i64, .i .i64, .i .i64, .b]], .sl [.i .i64, .i .i64]]) a) : ∃ l : List Rule, a = .fs 4 (l.map b0m) /\ OkL y9c l := by
 obtain ⟨l, rfl, h1, h2⟩ := b8q b0m y9c h fun r hr => l4p hr
 exact ⟨l, rfl, h1, h2⟩
def b9d (x : Machine) : Prop := OkL c68 x.Inputs /\ OkL c68 x.Outputs /\ OkL r8n x.Counters /\ OkL y9d x.States /\ OkL y9c x.Rules
def g9z (x : Machine) : List AV := [.fs 1 (List.map eS x.Inputs), .fs 1 (List.map eS x.Outputs), .fs 2 (List.map b0o x.Counters), .fs 2 (List.map b0p x.States), .fs 4 (List.map b0m x.Rules)]
theorem l4o {r : List AV} (h : MtL [.sl [.s], .sl [.s], .sl [.s, .i .i64], .sl [.s, .i .i64], .sl [.i .i64, .i .i64, .sl [.sl [.i .i64, .i .i64, .i .i64, .b]], .sl [.i .i64, .i .i64]]] r) : ∃ x : Machine, r = g9z x /\ b9d x := by
 obtain ⟨a0, r0, rfl, h0, g0⟩ := b3e h
 obtain ⟨a1, r1, rfl, h1, g1⟩ := b3e g0
 obtain ⟨a2, r2, rfl, h2, g2⟩ := b3e g1
 obtain ⟨a3, r3, rfl, h3, g3⟩ := b3e g2
 obtain ⟨a4, r4, rfl, h4, g4⟩ := b3e g3
 obtain ⟨v0, rfl, k0⟩ := g1x h0
 obtain ⟨v1, rfl, k1⟩ := g1x h1
 obtain ⟨v2, rfl, k2⟩ := j8e h2
 obtain ⟨v3, rfl, k3⟩ := j8i h3
 obtain ⟨v4, rfl, k4⟩ := j8g h4
 exact ⟨⟨v0, v1, v2, v3, v4⟩, by rw [b6o g4]; rfl, ⟨k0, k1, k2, k3, k4⟩⟩
abbrev d43 : List Sh := [.sl [.s], .sl [.s], .sl [.s, .i .i64], .sl [.s, .i .i64], .sl [.i .i64, .i .i64, .sl [.sl [.i .i64, .i .i64, .i .i64, .b]], .sl [.i .i64, .i .i64]]]
theorem l52 {a : AV} (h : MtA (.agg d43) a) : ∃ x : Machine, a = .agg [.fs 1 (List.map eS x.Inputs), .fs 1 (List.map eS x.Outputs), .fs 2 (List.map b0o x.Counters), .fs 2 (List.map b0p x.States), .fs 4 (List.map b0m x.Rules)] /\ b9d x := by
 obtain ⟨r, rfl, hr⟩ := g1y h
 obtain ⟨x, rfl, hx⟩ := l4o hr
 exact ⟨x, rfl, hx⟩
def o86 (x : Int × Int) : Prop := b5k x.1 /\ b5k x.2
def p2i (x : Place) : Prop := b5k x.State /\ o86 x.Values
theorem o9o {r : List AV} (h : MtL [.i .i64, .i .i64, .i .i64] r) : ∃ x : Place, r = b1g x /\ p2i x := by
 obtain ⟨a0, r0, rfl, h0, g0⟩ := b3e h
 obtain ⟨a1, r1, rfl, h1, g1⟩ := b3e g0
 obtain ⟨a2, r2, rfl, h2, g2⟩ := b3e g1
 obtain ⟨v0, rfl, k0⟩ := b6n h0
 obtain ⟨v1, rfl, k1⟩ := b6n h1
 obtain ⟨v2, rfl, k2⟩ := b6n h2
 exact ⟨⟨v0, (v1, v2)⟩, by rw [b6o g2]; rfl, ⟨k0, ⟨k1, k2⟩⟩⟩
theorem o9l {a : AV} (h : Mt (.sl [.i .i64, .i .i64, .i .i64]) a) : ∃ l : List Place, a = .fs 3 (l.map b1g) /\ OkL p2i l := by
 obtain ⟨l, rfl, h1, h2⟩ := b8q b1g p2i h fun r hr => o9o hr
 exact ⟨l, rfl, h1, h2⟩
def y29 (x : neweltop_Sworn) : Prop := OkL (OkL b5x) x.Assume /\ b5x x.Never /\ OkL p2i x.Places /\ b5k x.Ticks
def y74 (x : neweltop_Sworn) : List AV := [.fs 1 (List.map b0t x.Assume), I x.Never.Kind, I x.Never.Number, I x.Never.Value, B x.Never.Not, .fs 3 (List.map b1g x.Places), I x.Ticks]
theorem y8d {r : List AV} (h : MtL [.sl [.sl [.i .i64, .i .i64, .i .i64, .b]], .i .i64, .i .i64, .i .i64, .b, .sl [.i .i64, .i .i64, .i .i64], .i .i64] r) : ∃ x : neweltop_Sworn, r = y74 x /\ y29 x := by
 obtain ⟨a0, r0, rfl, h0, g0⟩ := b3e h
 obtain ⟨a1, r1, rfl, h1, g1⟩ := b3e g0
 obtain ⟨a2, r2, rfl, h2, g2⟩ := b3e g1
 obtain ⟨a3, r3, rfl, h3, g3⟩ := b3e g2
 obtain ⟨a4, r4, rfl, h4, g4⟩ := b3e g3
 obtain ⟨a5, r5, rfl, h5, g5⟩ := b3e g4
 obtain ⟨a6, r6, rfl, h6, g6⟩ := b3e g5
 obtain ⟨v0, rfl, k0⟩ := d4b h0
 obtain ⟨v1, rfl, k1⟩ := b6n h1
 obtain ⟨v2, rfl, k2⟩ := b6n h2
 obtain ⟨v3, rfl, k3⟩ := b6n h3
 obtain ⟨v4, rfl, k4⟩ := j8k h4
 obtain ⟨v5, rfl, k5⟩ := o9l h5
 obtain ⟨v6, rfl, k6⟩ := b6n h6
 exact ⟨⟨v0, ⟨v1, v2, v3, v4⟩, v5, v6⟩, by rw [b6o g6]; rfl, ⟨k0, ⟨k1, k2, k3, k4⟩, k5, k6⟩⟩
abbrev y35 : List Sh := [.sl [.sl [.i .i64, .i .i64, .i .i64, .b]], .i .i64, .i .i64, .i .i64, .b, .sl [.i .i64, .i .i64, .i .i64], .i .i64]
theorem y8g {a : AV} (h : MtA (.agg y35) a) : ∃ x : neweltop_Sworn, a = .agg [.fs 1 (List.map b0t x.Assume), I x.Never.Kind, I x.Never.Number, I x.Never.Value, B x.Never.Not, .fs 3 (List.map b1g x.Places), I x.Ticks] /\ y29 x := by
 obtain ⟨r, rfl, hr⟩ := g1y h
 obtain ⟨x, rfl, hx⟩ := y8d hr
 exact ⟨x, rfl, hx⟩
end Go.Nw.UM
namespace Go.Nw.UM
theorem s5d {m : Machine} {c : List (List Literal)} (h : b7w m [c] 0) : OkM m /\ b2s m true c := by
 rcases h with ⟨_, a, b⟩ | ⟨e, _⟩ | ⟨e, _⟩
 ·exact ⟨a, b c (by simp)⟩
 ·cases e
 ·cases e
section
variable [Bd]
theorem l5y {m : Machine} (h : b9d m) : ∀ n ∈ b3g m, n.size <= maxLen := by
 obtain ⟨h1, h2, h3, h4, h5⟩ := h
 intro n hn
 have hB := Bd.le
 simp only [b3g, List.mem_append, List.mem_map] at hn
 rcases hn with ((hn | hn) | ⟨c, hc, rfl⟩) | ⟨c, hc, rfl⟩
 ·exact Nat.le_trans (h1.2 n hn) hB
 ·exact Nat.le_trans (h2.2 n hn) hB
 ·exact Nat.le_trans (h3.2 c hc).1 hB
 ·exact Nat.le_trans (h4.2 c hc).1 hB
end
end Go.Nw.UM
namespace Go.Nw.UM
noncomputable section
section
variable {a : Accident} {th : Theory} (hf : ∀ n ∈ b3g a.Machine, n.size <= maxLen) (hn : a.Records.length <= 10) (hs : s88 a ≠ 0 \/ Small a)
include hf hn hs
end
section
variable [Bd]
end
end
end Go.Nw.UM
namespace Go.Nw
end Go.Nw
namespace Go.Nw.UM
noncomputable section
section
variable {a : Accident} {th : Theory} {l : List Nat} {want : Nat}
theorem x56 : ∀ (w : List Nat) (t0 : Nat) (s0 : Place × Nat) (k x : Nat), Rch a th l t0 s0 -> AcD a th l want w (t0, s0) -> t0 + w.length = tA a -> w[k]? = some x ->
  ∃ s, Rch a th l (t0 + k) s /\ s.1 = pat (stA a th) t0 s0.1 w k /\ x < nA a /\ ∃ m', TD a th l (t0 + k, s) x = some m' /\ b64 a th l want m'
 | [], t0, s0, k, x, hR, hA, hlen, h => by simp at h
 | y :: ys, t0, s0, k, x, hR, hA, hlen, h => by
  rw [List.length_cons] at hlen
  obtain ⟨h1, m', h2, h3⟩ := (u1t (by show t0 < tA a; omega)).1 hA
  cases k with
  | zero =>
   simp only [List.getElem?_cons_zero, iE9] at h
   subst h
   exact ⟨s0, hR, by cases ys <;> rfl, h1, m', h2, ys, h3⟩
  | succ k =>
   simp only [List.getElem?_cons_succ] at h
   obtain ⟨D', _, _, e⟩ := u1f h2
   subst e
   obtain ⟨s, g1, g2, g3, g4⟩ := x56 ys (t0 + 1) _ k x ⟨s0, hR, y, h1, h2⟩ h3 (by omega) h
   rw [show t0 + 1 + k = t0 + (k + 1) by omega] at g1 g4
   exact ⟨s, g1, g2, g3, g4⟩
def x40 (a : Accident) (c : List (List Literal)) (tick : Nat) (t : Nat) (p : Place) (x : Nat) : Bool := decide (t ≠ tick) || !b46 a.Machine p (x : Int) c
theorem x53 {keep : Nat -> Bool} {c : List (List Literal)} {tick : Nat} {w : List Nat} : l18 a th keep (x40 a c tick) w ↔ l18 a th keep ftT w /\ ∀ x, w[tick]? = some x -> b46 a.Machine (pat (stA a th) 0 zero w tick) (x : Int) c = false := by
 unfold l18 l27
 rw [x5o, x5o]
 constructor
 ·rintro ⟨h1, h2, h3⟩
  refine ⟨⟨h1, fun k x hk => ?_, h3⟩, fun x hx => ?_⟩
  ·obtain ⟨g1, g2⟩ := h2 k x hk
   unfold okA at g2 ⊢
   rw [Bool.and_eq_true] at g2
   exact ⟨g1, by simp [g2.1, ftT]⟩
  ·obtain ⟨g1, g2⟩ := h2 tick x hx
   unfold okA x40 at g2
   rw [Nat.zero_add] at g2
   simpa using (Bool.and_eq_true_iff.1 g2).2
 ·rintro ⟨⟨h1, h2, h3⟩, h4⟩
  refine ⟨h1, fun k x hk => ?_, h3⟩
  obtain ⟨g1, g2⟩ := h2 k x hk
  unfold okA at g2 ⊢
  rw [Bool.and_eq_true] at g2
  refine ⟨g1, ?_⟩
  rw [g2.1, Bool.true_and, Nat.zero_add]
  unfold x40
  by_cases e : k = tick
  ·subst e; rw [h4 x hk]; simp
  ·simp [e]
def Bad (a : Accident) (th : Theory) (c : List (List Literal)) (tick : Nat) : Prop := ∃ w, l18 a th (fun _ => true) (x40 a c tick) w
theorem x60 (ha : OkA a) (hth : OkT a th) {c : List (List Literal)} (hc : b2s a.Machine true c) (tick : Nat) :
  ∃ r, x5q a th (fun z25 z26 z27 => v11 z25 z26 z27 (tick : Int) (situation_Plant.mk a.Machine) c) = some r /\ (r.2 = true ↔ Bad a th c tick) := by
 rcases u9k (keep := fun _ => true) (ft := x40 a c tick) (kp := fun _ => some true) (fp := fun z25 z26 z27 => v11 z25 z26 z27 (tick : Int) (situation_Plant.mk a.Machine) c) ha hth (fun _ _ => rfl) (fun t p x ht hp hx => by
   unfold v11 x40
   by_cases e : t = tick
   ·subst e
    rw [if_neg (by simp), c5w ha.m.z hp.s hc]
    simp
   ·rw [if_pos (by simp; omega)]
    simp [e]) with ⟨w, h1, h2⟩ | ⟨h1, h2⟩
 ·exact ⟨_, h2, fun _ => ⟨w, h1.1⟩, fun _ => rfl⟩
 ·exact ⟨_, h2, (fun h => by cases h), fun ⟨w, h⟩ => absurd h (h1 w)⟩
variable (hs : Small a) (hth : OkT a th)
include hs hth
end
section
variable {a : Accident} (hf : ∀ n ∈ b3g a.Machine, n.size <= maxLen) (hn : a.Records.length <= 10) (hs : s88 a ≠ 0 \/ Small a)
include hf hn hs
end
section
variable [Bd]
end
end
end Go.Nw.UM
namespace Go.Nw
section
variable {π : Type} {From To : Nat -> Nat} {Al keep : Nat -> Bool} {hold : Nat -> π -> Nat -> Bool} {st st' : Nat -> π -> Nat -> π} {ok : Nat -> π -> Nat -> Bool} {N T n : Nat}
end
end Go.Nw
namespace Go.Nw.UM
noncomputable section
section
variable {a : Accident} {th : Theory} (hf : ∀ n ∈ b3g a.Machine, n.size <= maxLen) (ha : OkA a) (hth : OkT a th)
include hf ha hth
theorem x9g {c : List (List Literal)} (hc : b2s a.Machine true c) {tick : Nat} (ht : tick < tA a) : ∃ b, x43 a [th] c (tick : Int) = some (b, 0) /\ (b = true ↔ ¬ Bad a th c tick) := by
 have hn8 := ha.n
 have hT := s9b ha
 have h40 := ha.t
 unfold x43
 rw [u6k hf (by omega), bS9, u1v.2 ha, if_neg (by simp)]
 obtain ⟨b, h1, h2⟩ := d5p ha.m.z c
 have hb : b = true := h2.2 hc
 subst hb
 rw [h1, bS9, if_neg (by simp)]
 have A : b0w (y62 a [th]) 0 = some (.inl ()) := by
  rcases b4j (f := y62 a [th]) (l := [th]) (p := fun _ x => ¬ OkT a x) (e := .inr (false, 1)) (u := .inl ()) (by simp [maxLen]) (fun k x hx => by
    refine ⟨!l59 a x, ?_, by unfold OkT; simp⟩
    unfold y62
    simp only [b1h hx, bS9, Int.ofNat_lt, b1k hx, decide_true, if_true, u9r]
    by_cases h : l59 a x = true <;> simp [h]) (by unfold y62; simp) with ⟨q1, q2⟩ | ⟨⟨k, x, q1, q2⟩, q3⟩
  ·exact q2
  ·have := mG9 q1
   rw [List.mem_singleton.1 this] at q2
   exact absurd hth q2
 rw [A, bS9]
 simp only
 unfold x5g
 have hw : c19 (tick : Int) 0 (wr (a.Ticks - 1)) = true := by
  rw [b3t (by omega) (by omega)]; unfold c19; simp; omega
 rw [hw, if_neg (by simp)]
 rcases b4j (f := x48 a [th] c (tick : Int)) (l := [th]) (p := fun _ x => Bad a x c tick) (e := .inr (false, 0)) (u := .inl ()) (by simp [maxLen]) (fun k x hx => by
   have hx' : x = th := List.mem_singleton.1 (mG9 hx)
   obtain ⟨r, g1, g2⟩ := x60 ha (by rw [hx']; exact hth : OkT a x) hc tick
   refine ⟨r.2, ?_, g2⟩
   unfold x48
   simp only [b1h hx, bS9, Int.ofNat_lt, b1k hx, decide_true, if_true, g1]) (by unfold x48; simp) with ⟨q1, q2⟩ | ⟨⟨k, x, q1, q2⟩, q3⟩
 ·rw [q2]
  exact ⟨true, rfl, fun _ => q1 0 th rfl, fun _ => rfl⟩
 ·rw [q3]
  have hx' : x = th := List.mem_singleton.1 (mG9 q1)
  subst hx'
  exact ⟨false, rfl, (fun h => by cases h), fun h => absurd q2 h⟩
end
theorem x9b (a : Accident) : OkT a ⟨-1, 0, 0⟩ := by
 unfold OkT l59
 rfl
end
end Go.Nw.UM
namespace Go.Nw.UM
noncomputable section
theorem o8t {m : Machine} {p : Place} : OkP m p ↔ In p.State m.States.length /\ b5q 2 (fun k => !(b2q (if (k : Int) = 0 then p.Values.1 else p.Values.2) 0 (b56 m k))) = none := by
 rw [d72]
 constructor
 ·intro h
  refine ⟨h.s, fun t ht => ?_⟩
  have : t = 0 \/ t = 1 := by omega
  rcases this with rfl | rfl
  ·have := b6t.2 h.a; simp [this]
  ·have := b6t.2 h.b; simp [this]
 ·rintro ⟨h1, h2⟩
  have h3 := h2 0 (by omega)
  have h4 := h2 1 (by omega)
  simp only [Bool.not_eq_false', Int.natCast_zero, if_true, b6t] at h3
  simp only [Bool.not_eq_false', show ¬ ((1 : Nat) : Int) = 0 by decide, if_false, b6t] at h4
  exact ⟨h1, h3, h4⟩
theorem o8q {m : Machine} (hm : OkM m) {p : Place} : ∃ b, b2q p.State 0 (wr ((List.length m.States : Int) - 1)) = b /\ (b = true ↔ In p.State m.States.length) := by
 have := hm.z.s
 rw [c1n (b1o (by omega))]
 refine ⟨_, rfl, ?_⟩
 rw [b6t]
 unfold In
 omega
theorem o8s {m : Machine} {k : Nat} : (k < m.Counters.length /\ ∃ c, get m.Counters k = some c /\ c.Max = b56 m k) \/ (¬ k < m.Counters.length /\ b56 m k = 0) := by
 by_cases h : k < m.Counters.length
 ·obtain ⟨c, hc⟩ := b3b h
  exact .inl ⟨h, c, b1h hc, by unfold b56; rw [hc]⟩
 ·exact .inr ⟨h, by unfold b56; rw [List.getElem?_eq_none (by omega)]⟩
theorem o8o {m : Machine} (hm : OkM m) (p : Place) : ∃ b, o7s ⟨m⟩ p = some b /\ (b = true ↔ OkP m p) := by
 unfold o7s o73
 have step : ∀ k : Nat, k < 2 -> o7t ⟨m⟩ p k = (if (!(b2q (if (k : Int) = 0 then p.Values.1 else p.Values.2) 0 (b56 m k))) = true then some (.br (.inr false)) else some (.nx ((k : Int) + 1))) := fun k hk => by
  have h2 : (k : Int) < 2 := by omega
  unfold o7t o7u
  simp only [h2, decide_true, if_true, c2x (show In (k : Int) 2 from ⟨by omega, by omega⟩), bS9, Int.ofNat_lt]
  rcases o8s (m := m) (k := k) with ⟨h3, c, h4, h5⟩ | ⟨h3, h4⟩
  ·simp only [h3, decide_true, if_true, h4, bS9, h5, b2r hk (show 2 <= maxLen by decide)]
  ·simp only [h3, decide_false, fT9, if_false, h4, b2r hk (show 2 <= maxLen by decide)]
 rw [c7s (f := o7t ⟨m⟩ p) (n := 2) (p := fun k => !(b2q (if (k : Int) = 0 then p.Values.1 else p.Values.2) 0 (b56 m k))) (e := fun _ => .inr false) (u := .inl ()) (fun t ht hp => by rw [step t ht, if_pos hp]) (fun t ht hp => by rw [step t ht, if_neg (by rw [hp]; simp)]) (by rfl), o8t]
 obtain ⟨b, h1, h2⟩ := o8q hm (p := p)
 cases b5q 2 (fun k => !(b2q (if (k : Int) = 0 then p.Values.1 else p.Values.2) 0 (b56 m k))) with
 | none => exact ⟨b, by simp only [bS9, h1], by rw [h2]; simp⟩
 | some t => exact ⟨false, rfl, by simp⟩
theorem o83 {m : Machine} (hm : OkM m) (p : Place) : ∃ b, o7y m p = some b /\ (b = true ↔ OkP m p) := by
 unfold o7y o77
 have step : ∀ k : Nat, k < 2 -> o7z m p k = (if (!(b2q (if (k : Int) = 0 then p.Values.1 else p.Values.2) 0 (b56 m k))) = true then some (.br (.inr false)) else some (.nx ((k : Int) + 1))) := fun k hk => by
  have h2 : (k : Int) < 2 := by omega
  have e : ∀ x y : Int, b2b x 0 y = b2q x 0 y := fun x y => by rw [Bool.eq_iff_iff, b6g, b6t]
  unfold o7z o70
  simp only [h2, decide_true, if_true, c2x (show In (k : Int) 2 from ⟨by omega, by omega⟩), bS9, Int.ofNat_lt, e]
  rcases o8s (m := m) (k := k) with ⟨h3, c, h4, h5⟩ | ⟨h3, h4⟩
  ·simp only [h3, decide_true, if_true, h4, bS9, h5, b2r hk (show 2 <= maxLen by decide)]
  ·simp only [h3, decide_false, fT9, if_false, h4, b2r hk (show 2 <= maxLen by decide)]
 rw [c7s (f := o7z m p) (n := 2) (p := fun k => !(b2q (if (k : Int) = 0 then p.Values.1 else p.Values.2) 0 (b56 m k))) (e := fun _ => .inr false) (u := .inl ()) (fun t ht hp => by rw [step t ht, if_pos hp]) (fun t ht hp => by rw [step t ht, if_neg (by rw [hp]; simp)]) (by rfl), o8t]
 obtain ⟨b, h1, h2⟩ := o8q hm (p := p)
 have e : b2b p.State 0 (wr ((List.length m.States : Int) - 1)) = b := by rw [<- h1, Bool.eq_iff_iff, b6g, b6t]
 rw [e]
 cases b with
 | false => exact ⟨false, rfl, by rw [<- h2]; simp⟩
 | true =>
  rw [if_neg (by simp), <- h2]
  cases b5q 2 (fun k => !(b2q (if (k : Int) = 0 then p.Values.1 else p.Values.2) 0 (b56 m k))) with
  | none => exact ⟨true, rfl, by simp⟩
  | some t => exact ⟨false, rfl, by simp⟩
theorem o82 {m : Machine} (hs : SizesOk m) : c1y ⟨m⟩ = some ((2 ^ m.Inputs.length : Nat) : Int) := by
 unfold c1y
 have := hs.i
 simp only
 rw [c83 (by omega)]; simp
theorem o8p {α : Type} {l : List α} {k : Nat} {x z : α} (h : l[k]? = some x) : l.getD k z = x := by
 rw [List.getD_eq_getElem?_getD, h]; rfl
section
variable [Bd]
end
end
end Go.Nw.UM
namespace Go.Nw.UM
noncomputable section
def hs (i v : Nat) (x : Nat) : Int := (b6a x i v).getD 0
theorem d6y {m : Machine} {c n : List (List Literal)} (h : b7w m [c, n] 0) : OkM m /\ b2s m true c /\ b2s m true n := by
 rcases h with ⟨_, a, b⟩ | ⟨e, _⟩ | ⟨e, _⟩
 ·exact ⟨a, b c (by simp), b n (by simp)⟩
 ·cases e
 ·cases e
section
variable [Bd]
end
end
end Go.Nw.UM
namespace Go.Nw.UM
noncomputable section
theorem d9s (x : Nat) : b6a x (-1) 0 = some (idn x) := g5p x
theorem g5j {m : Machine} (hf : ∀ n ∈ b3g m, n.size <= maxLen) (c never : List (List Literal)) : ∃ r, c2e m c never = some r /\ c34 m c never = some r /\ r.1.length <= 768 /\ b7w m [c, never] r.2.2 /\ (r.2.2 = 0 -> d5x m c never idn (r.1, r.2.1)) := by
 obtain ⟨e, h1, h2⟩ := d6t hf (l := [c, never]) (by simp)
 obtain ⟨e', h3, h4⟩ := d5s hf (l := [c, never]) (by simp)
 obtain rfl := d6z h2 h4
 unfold c2e c34
 rw [h1, h3, bS9, bS9]
 by_cases he : e = 0
 case neg =>
  refine ⟨([], false, e), ?_, ?_, by simp, h2, fun h => absurd h he⟩ <;> rw [if_pos (by simpa using he)]
 subst he
 obtain ⟨hm, hc, hn⟩ := d6y h2
 obtain ⟨r, g, a1, a2, a3, a4, a5⟩ := g6v (hd := idn) hm hc hn (heard := fun z7 => some (b6f z7)) (fun x _ => rfl) (inp := -1) (val := 0) (fun x _ => d9s x)
 rw [if_neg (by simp), if_neg (by simp), show b3h m = ⟨⟨m⟩⟩ from rfl, a1, a2, bS9, bS9, a3]
 exact ⟨(r.1, r.2, 0), rfl, rfl, a4, h2, fun _ => a5⟩
section
variable {m : Machine} {c rest : List (List Literal)} {K : Nat}
end
section
variable [Bd]
end
end
end Go.Nw.UM
namespace Go.Nw.UM
noncomputable section
theorem o9k {κ ν : Type} [DecidableEq κ] {l : List (κ × ν)} {k q : κ} {v : ν} : q ∈ (b3w l k v).map (·.1) ↔ q = k \/ q ∈ l.map (·.1) := by
 by_cases h : k ∈ l.map (·.1)
 ·unfold b3w
  cases hm : b2u l k 0 with
  | none => exact absurd h (c0k.1 hm)
  | some p =>
   obtain ⟨d, h1, h2⟩ := c7w (v := p.2) (j := p.1) hm
   have e : (l.set p.1 (k, v)).map (·.1) = l.map (·.1) := by
    apply List.ext_getElem?
    intro i
    rw [List.getElem?_map, List.getElem?_map, List.getElem?_set]
    split
    ·rename_i hi
     have hd : p.1 = d := by omega
     rw [hd] at hi
     subst hi
     rw [h2, if_pos (b1k (by rw [hd]; exact h2)) ]
     rfl
    ·rfl
   obtain ⟨p1, p2⟩ := p
   simp only at e ⊢
   rw [e]
   exact ⟨.inr, fun hh => hh.elim (fun hh => hh ▸ h) id⟩
 ·rw [g1w h]; simp only [List.map_append, List.map_cons, List.map_nil, List.mem_append, List.mem_singleton]
  exact ⟨fun hh => hh.elim .inr .inl, fun hh => hh.elim .inr .inl⟩
def lst (l : List Place) : Nat -> List (Place × Int)
 | 0 => []
 | k + 1 => match l[k]? with | some q => b3w (lst l k) q (k : Int) | none => lst l k
theorem o8k {l : List Place} {q : Place} : ∀ k, q ∈ (lst l k).map (·.1) ↔ q ∈ l.take k
 | 0 => by simp [lst]
 | k + 1 => by
  unfold lst
  rw [List.take_add_one]
  cases hx : l[k]? with
  | none => simp only; rw [o8k k]; simp
  | some x => simp only; rw [o9k, o8k k]; simp; exact or_comm
theorem o8r {l : List Place} {q : Place} : b6m (lst l l.length) q = decide (q ∈ l) := by
 rw [Bool.eq_iff_iff, j78, o8k, List.take_length, decide_eq_true_eq]
def c24 (m : Machine) (c : List (List Literal)) (l : List Place) (q : Place) (x : Nat) : Bool := c25 m q x c && !(decide (nxt m q (idn x) ∈ l))
def l20 (m : Machine) (c never : List (List Literal)) (l : List Place) (i : Nat) : Bool := b46 m (l.getD i zero) 0 never || (b5q (2 ^ m.Inputs.length) (c24 m c l (l.getD i zero))).isSome
def o84 (m : Machine) (c never : List (List Literal)) (l : List Place) (r : Int × Bool × Int) : Prop :=
 (r.2.2 = 2 /\ 1000 < l.length /\ r.2.1 = false) \/ (r.2.2 = 1 /\ l.length <= 1000 /\ r.2.1 = false /\ ∃ q ∈ l, ¬ OkP m q) \/
 (r.2.2 = 0 /\ l.length <= 1000 /\ (∀ q ∈ l, OkP m q) /\ (r.2.1 = true ↔ (zero ∈ l /\ ∀ i, i < l.length -> l20 m c never l i = false)))
theorem o85 {m : Machine} (hf : ∀ n ∈ b3g m, n.size <= maxLen) (c never : List (List Literal)) (l : List Place) :
  ∃ r, o7v m c never l = some r /\ o71 m c never l = some r /\ ((r.2.1 = false /\ r.2.2 ≠ 0 /\ b7w m [c, never] r.2.2) \/ (b7w m [c, never] 0 /\ o84 m c never l r)) := by
 obtain ⟨e, h1, h2⟩ := d6t hf (l := [c, never]) (by simp)
 obtain ⟨e', h3, h4⟩ := d5s hf (l := [c, never]) (by simp)
 obtain rfl := d6z h2 h4
 unfold o7v o71
 rw [h1, h3, bS9, bS9]
 by_cases he : e = 0
 case neg =>
  refine ⟨(0, false, e), ?_, ?_, .inl ⟨rfl, he, h2⟩⟩ <;> rw [if_pos (by simpa using he)]
 subst he
 obtain ⟨hm, hc, hn⟩ := d6y h2
 have hpow := p2a hm.z
 have h00 : ¬ (decide (¬ (0 : Int) = 0) = true) := by simp
 rw [if_neg h00, if_neg h00]
 by_cases hl : (1000 : Int) < (l.length : Int)
 ·exact ⟨(0, false, 2), by rw [if_pos (by simpa using hl)], by rw [if_pos (by simpa using hl)], .inr ⟨h2, .inl ⟨rfl, by omega, rfl⟩⟩⟩
 have hl' : l.length <= 1000 := by omega
 rw [if_neg (by simpa using hl), if_neg (by simpa using hl)]
 have p1 := g1j (f := p17 m l) l (fun (s : List (Place × Int)) k => (s, k)) (fun k => lst l k) (fun _ q => ¬ OkP m q) (.inr (0, false, 1)) (.inl (lst l l.length)) (fun k x _ hx hb => by
   have hk := b1k hx
   obtain ⟨b, a1, a2⟩ := o8o hm x
   have : b = false := x0f fun h => hb (a2.1 h)
   subst this
   unfold p17
   simp only [Int.ofNat_lt, hk, decide_true, if_true, b1h hx, bS9, show b3h m = ⟨⟨m⟩⟩ from rfl, c74, a1, Bool.not_false]) (fun k x _ hx hb => by
   have hk := b1k hx
   obtain ⟨b, a1, a2⟩ := o8o hm x
   have : b = true := a2.2 (Classical.not_not.1 hb)
   subst this
   unfold p17
   simp only [Int.ofNat_lt, hk, decide_true, if_true, b1h hx, bS9, show b3h m = ⟨⟨m⟩⟩ from rfl, c74, a1, Bool.not_true, fT9, if_false, b2r hk (b1o hl')]
   rw [show lst l (k + 1) = b3w (lst l k) x (k : Int) from by conv => lhs; unfold lst; rw [hx]]) (by
   unfold p17
   simp only [Int.lt_irrefl, decide_false, fT9, if_false]) (s0 := []) rfl
 have p2 := b4j (f := o72 m l) (l := l) (p := fun _ q => ¬ OkP m q) (e := .inr (0, false, 1)) (u := .inl ()) (b1o hl') (fun k x hx => by
   have hk := b1k hx
   obtain ⟨b, a1, a2⟩ := o83 hm x
   refine ⟨!b, ?_, by rw [<- a2]; simp⟩
   unfold o72
   simp only [Int.ofNat_lt, hk, decide_true, if_true, b1h hx, bS9, a1]) (by unfold o72; simp only [Int.lt_irrefl, decide_false, fT9, if_false])
 rcases p1 with ⟨a1, a2⟩ | ⟨⟨k, x, a1, a1'⟩, a2⟩ <;> rcases p2 with ⟨a3, a4⟩ | ⟨⟨k', x', a3, a3'⟩, a4⟩
 ·have ho : ∀ q ∈ l, OkP m q := fun q hq => by obtain ⟨k, hk⟩ := b1d.1 hq; exact Classical.not_not.1 (a1 k q hk)
  rw [a2, a4, bS9, bS9]
  simp only
  unfold o76 o8a
  have in1 : ∀ (i : Nat) q, l[i]? = some q -> b0w (p15 m c (lst l l.length) i q ((2 ^ m.Inputs.length : Nat) : Int)) 0 = some (match b5q (2 ^ m.Inputs.length) (c24 m c l q) with | some _ => .inr ((i : Int), false, 0) | none => .inl ()) := fun i q hq => by
   have hoq := ho q (b1d.2 ⟨i, hq⟩)
   have st : ∀ x : Nat, x < 2 ^ m.Inputs.length -> p15 m c (lst l l.length) i q ((2 ^ m.Inputs.length : Nat) : Int) x = (if c24 m c l q x = true then some (.br (.inr ((i : Int), false, 0))) else some (.nx ((x : Int) + 1))) := fun x hx => by
    unfold p15 o7w
    simp only [Int.ofNat_lt, hx, decide_true, if_true, show b3h m = ⟨⟨m⟩⟩ from rfl, c74, g5i hm.z hoq.s hc, bS9, b2r hx (b1o (by omega))]
    unfold c24
    cases ha : c25 m q x c with
    | false => simp
    | true =>
     rw [g5u hm hoq, bS9, o8r]
     simp
   exact c7s (f := p15 m c (lst l l.length) i q ((2 ^ m.Inputs.length : Nat) : Int)) (p := c24 m c l q) (e := fun _ => .inr ((i : Int), false, 0)) (u := .inl ()) (fun x hx hp => by rw [st x hx, if_pos hp]) (fun x hx hp => by rw [st x hx, if_neg (by rw [hp]; simp)]) (by
    unfold p15
    simp only [Int.lt_irrefl, decide_false, fT9, if_false])
  have in2 : ∀ (i : Nat) q, l[i]? = some q -> b0w (p2b m c l i) 0 = some (match b5q (2 ^ m.Inputs.length) (c24 m c l q) with | some _ => .inr ((i : Int), false, 0) | none => .inl ()) := fun i q hq => by
   have hoq := ho q (b1d.2 ⟨i, hq⟩)
   have st : ∀ x : Nat, x < 2 ^ m.Inputs.length -> p2b m c l i x = (if c24 m c l q x = true then some (.br (.inr ((i : Int), false, 0))) else some (.nx ((x : Int) + 1))) := fun x hx => by
    unfold p2b
    simp only [b9j hm.z, bS9, Int.ofNat_lt, hx, decide_true, if_true, b1h hq, d5o hm.z hoq.s hc, b2r hx (b1o (by omega))]
    unfold c24
    cases ha : c25 m q x c with
    | false => simp
    | true =>
     simp only [if_true]
     rw [d5u hm hoq, bS9, g0i hl', bS9, bS9]
     by_cases hin : nxt m q (idn x) ∈ l
     ·rw [if_pos hin]; simp [hin]
     ·rw [if_neg hin]; simp [hin]
   exact c7s (f := p2b m c l i) (p := c24 m c l q) (e := fun _ => .inr ((i : Int), false, 0)) (u := .inl ()) (fun x hx hp => by rw [st x hx, if_pos hp]) (fun x hx hp => by rw [st x hx, if_neg (by rw [hp]; simp)]) (by
    unfold p2b
    simp only [b9j hm.z, bS9, Int.lt_irrefl, decide_false, fT9, if_false])
  have s1 : ∀ i : Nat, i < l.length -> o7q m c never l (lst l l.length) i = (if l20 m c never l i = true then some (.br (.inr ((i : Int), false, 0))) else some (.nx ((i : Int) + 1))) := fun i hi => by
   obtain ⟨q, hq⟩ := b3b hi
   have hoq := ho q (b1d.2 ⟨i, hq⟩)
   unfold o7q o75 l20
   simp only [Int.ofNat_lt, hi, decide_true, if_true, b1h hq, bS9, show b3h m = ⟨⟨m⟩⟩ from rfl, c74, c5w hm.z hoq.s hn, o8p hq, b2r hi (b1o hl')]
   cases hh : b46 m q 0 never with
   | true => simp
   | false =>
    simp only [fT9, if_false, Bool.false_or]
    rw [o82 hm.z, bS9, in1 i q hq, bS9]
    cases b5q (2 ^ m.Inputs.length) (c24 m c l q) <;> rfl
  have s2 : ∀ i : Nat, i < l.length -> o7r m c never l i = (if l20 m c never l i = true then some (.br (.inr ((i : Int), false, 0))) else some (.nx ((i : Int) + 1))) := fun i hi => by
   obtain ⟨q, hq⟩ := b3b hi
   have hoq := ho q (b1d.2 ⟨i, hq⟩)
   unfold o7r o79 l20
   simp only [Int.ofNat_lt, hi, decide_true, if_true, b1h hq, bS9, c5x hm.z hoq.s hn, o8p hq, b2r hi (b1o hl')]
   cases hh : b46 m q 0 never with
   | true => simp
   | false =>
    simp only [fT9, if_false, Bool.false_or]
    rw [in2 i q hq, bS9]
    cases b5q (2 ^ m.Inputs.length) (c24 m c l q) <;> rfl
  have e1 := c7s (f := o7q m c never l (lst l l.length)) (n := l.length) (p := l20 m c never l) (e := fun i => .inr ((i : Int), false, 0)) (u := .inl ()) (fun x hx hp => by rw [s1 x hx, if_pos hp]) (fun x hx hp => by rw [s1 x hx, if_neg (by rw [hp]; simp)]) (by
    unfold o7q
    simp only [Int.lt_irrefl, decide_false, fT9, if_false])
  have e2 := c7s (f := o7r m c never l) (n := l.length) (p := l20 m c never l) (e := fun i => .inr ((i : Int), false, 0)) (u := .inl ()) (fun x hx hp => by rw [s2 x hx, if_pos hp]) (fun x hx hp => by rw [s2 x hx, if_neg (by rw [hp]; simp)]) (by
    unfold o7r
    simp only [Int.lt_irrefl, decide_false, fT9, if_false])
  rw [e1, e2, bS9, bS9]
  cases hfi : b5q l.length (l20 m c never l) with
  | some i =>
   obtain ⟨b1, b2, _⟩ := j00 hfi
   refine ⟨((i : Int), false, 0), rfl, rfl, .inr ⟨h2, .inr (.inr ⟨rfl, hl', ho, ?_⟩)⟩⟩
   constructor
   ·intro h; cases h
   ·rintro ⟨_, h⟩; rw [h i b1] at b2; cases b2
  | none =>
   have hno := d72.1 hfi
   simp only
   unfold o74 o78
   rw [g0i hl', bS9, o8r]
   by_cases hz : zero ∈ l
   ·refine ⟨(0, true, 0), ?_, ?_, .inr ⟨h2, .inr (.inr ⟨rfl, hl', ho, by simp only [true_iff]; exact ⟨hz, hno⟩⟩)⟩⟩
    ·rw [show Place.mk 0 (0, 0) = zero from rfl, decide_eq_true hz]; rfl
    ·rw [show Place.mk 0 (0, 0) = zero from rfl, if_pos hz]
     rw [if_neg (by simp)]
   ·refine ⟨((l.length : Int), false, 0), ?_, ?_, .inr ⟨h2, .inr (.inr ⟨rfl, hl', ho, ?_⟩)⟩⟩
    ·rw [show Place.mk 0 (0, 0) = zero from rfl, decide_eq_false hz]; rfl
    ·rw [show Place.mk 0 (0, 0) = zero from rfl, if_neg hz]; rfl
    ·constructor
     ·intro h; cases h
     ·rintro ⟨h, _⟩; exact absurd h hz
 ·exact absurd (Classical.not_not.1 (a1 k' x' a3)) a3'
 ·exact absurd (Classical.not_not.1 (a3 k x a1)) a1'
 ·rw [a2, a4]
  exact ⟨(0, false, 1), rfl, rfl, .inr ⟨h2, .inr (.inl ⟨rfl, hl', rfl, x, b1d.2 ⟨k, a1⟩, a1'⟩)⟩⟩
section
variable [Bd]
end
end
end Go.Nw.UM
namespace Go.Nw
section
variable {π : Type} {st : Nat -> π -> Nat -> π} {ok : Nat -> π -> Nat -> Bool} {N : Nat}
theorem y7y {I : π -> Prop} (hI : ∀ t p x, I p -> x < N -> ok t p x = true -> I (st t p x)) : ∀ (xs : List Nat) (t : Nat) (p : π), s9c st ok N t p xs -> I p -> ∀ k, I (pat st t p xs k)
 | [], _, _, _, h, 0 => h
 | [], _, _, _, h, _ + 1 => h
 | _ :: _, _, _, _, h, 0 => h
 | x :: xs, t, p, hf, h, k + 1 => y7y hI xs (t + 1) (st t p x) hf.2.2 (hI t p x h hf.1 hf.2.1) k
end
end Go.Nw
namespace Go.Nw.UM
noncomputable section
theorem p29 {m : Machine} {c never : List (List Literal)} {l : List Place} (h : ∀ i, i < l.length -> l20 m c never l i = false) : (∀ q ∈ l, b46 m q 0 never = false) /\ ∀ q ∈ l, ∀ x : Nat, x < 2 ^ m.Inputs.length -> c25 m q x c = true -> nxt m q (idn x) ∈ l := by
 have key : ∀ q ∈ l, b46 m q 0 never = false /\ b5q (2 ^ m.Inputs.length) (c24 m c l q) = none := fun q hq => by
  obtain ⟨k, hk⟩ := b1d.1 hq
  have := h k (b1k hk)
  unfold l20 at this
  rw [o8p hk, Bool.or_eq_false_iff, Option.isSome_eq_false_iff, Option.isNone_iff_eq_none] at this
  exact this
 refine ⟨fun q hq => (key q hq).1, fun q hq x hx ha => ?_⟩
 have := d72.1 (key q hq).2 x hx
 unfold c24 at this
 rw [ha] at this
 simpa using this
section
variable {m : Machine} {c : List (List Literal)} {hd : Nat -> Int}
theorem p3a {l : List Place} (hl : ∀ q ∈ l, ∀ x : Nat, x < 2 ^ m.Inputs.length -> c25 m q x c = true -> nxt m q (hd x) ∈ l) : ∀ {P : List Nat} {p q : Place}, p ∈ l -> o8f m c hd p P q -> q ∈ l
 | [], p, q, hp, h => by cases h; exact hp
 | x :: P, p, q, hp, ⟨h1, h2, h3⟩ => p3a hl (hl p hp x h1 h2) h3
end
theorem y8b {m : Machine} {p : Place} {x y : Int} {l : Literal} (h : ¬ l.Kind = 1) : lit m p x l = lit m p y l := by
 unfold lit b77
 simp only [h, decide_false, fT9, if_false]
theorem y9w {a : Accident} {th : Theory} {keep : Nat -> Bool} {ft : Nat -> Place -> Nat -> Bool} {w : List Nat} (hw : l18 a th keep ft w) {I : Place -> Prop} (h0 : I zero) (hI : ∀ t p x, I p -> x < nA a -> c25 a.Machine p (x : Int) a.Assume = true -> I (stA a th t p x)) (k : Nat) : I (pat (stA a th) 0 zero w k) :=
 y7y (fun t p x hp hx ho => hI t p x hp hx (by unfold okA at ho; exact (Bool.and_eq_true_iff.1 ho).1)) w 0 zero hw.2.1 h0 k
end
end Go.Nw.UM
namespace Go.Nw.UM
noncomputable section
theorem y77 {m : Machine} {l : Literal} (h : b2s m true [[l]]) : b2s m true [[⟨l.Kind, l.Number, l.Value, !l.Not⟩]] := by
 refine ⟨by simp, fun c hc => ?_⟩
 rw [List.mem_singleton.1 hc]
 refine ⟨by simp, fun x hx => ?_⟩
 rw [List.mem_singleton.1 hx]
 exact (h.2 [l] (by simp)).2 l (by simp)
theorem y75 (b n : Bool) : (!(b5c b (!n))) = !(!(b5c b n)) := by cases b <;> cases n <;> rfl
theorem y78 {m : situation_Plant} {p : Place} {x : Int} {l : Literal} : b77 m ⟨l.Kind, l.Number, l.Value, !l.Not⟩ p x = (b77 m l p x).map (fun b => !b) := by
 unfold b77 b6w
 simp only [y75]
 by_cases h1 : l.Kind = 1
 ·simp only [h1, decide_true, if_true]
  cases shr .i64 x l.Number <;> rfl
 by_cases h2 : l.Kind = 2
 ·simp only [h2, h1, Int.reduceEq, decide_true, if_true, decide_false, fT9, if_false]
  cases get [p.Values.1, p.Values.2] l.Number <;> rfl
 by_cases h3 : l.Kind = 3
 ·simp only [h3, Int.reduceEq, decide_true, if_true, decide_false, fT9, if_false]
  rfl
 by_cases h4 : l.Kind = 4
 ·simp only [h4, Int.reduceEq, decide_true, if_true, decide_false, fT9, if_false]
  cases get m.Machine.States p.State with
  | none => rfl
  | some s =>
   rw [bS9, bS9]
   cases shr .i64 s.Shows l.Number <;> rfl
 ·simp only [h1, h2, h3, h4, decide_false, fT9, if_false]
  rfl
theorem y76 {m : Machine} (hz : SizesOk m) {p : Place} (hp : In p.State m.States.length) {x : Int} {l : Literal} (h : b5a m true l) : lit m p x ⟨l.Kind, l.Number, l.Value, !l.Not⟩ = !lit m p x l := by
 obtain ⟨h1, _⟩ := g09 (x := x) hz hp h
 unfold lit
 rw [y78, h1]; rfl
theorem y7x {m : Machine} {p : Place} {x : Int} {l : Literal} : b46 m p x [[l]] = lit m p x l := by
 unfold b46; simp
section
variable [Bd]
theorem y8f (m : Machine) (x : neweltop_Sworn) (hm0 : b9d m) (hx0 : y29 x) : y22 m x = some true := by
 have hf := l5y hm0
 unfold y22
 rcases u6h (a := ⟨m, x.Assume, x.Ticks, []⟩) hf with h | ⟨hn, h, hs⟩
 ·rw [h]; rfl
 rw [h, bS9, u4j (a := ⟨m, x.Assume, x.Ticks, []⟩) hf hn]
 by_cases he : s88 ⟨m, x.Assume, x.Ticks, []⟩ = 0
 case neg => simp [he, c46]
 have ha := u1v.1 he
 have hs' : Small ⟨m, x.Assume, x.Ticks, []⟩ := by
  rcases hs with h | h
  ·exact absurd he h
  ·exact h
 have hm : OkM m := ha.m
 have hT := s9b ha
 have h6 := tA6 hs'
 obtain ⟨e, c1, c2⟩ := d5s hf (l := [[[x.Never]]]) (by simp)
 rw [c1]
 simp only [he, fT9, if_false, bS9, not_true, decide_false, Bool.false_or]
 by_cases he2 : e = 0
 case neg => simp [he2, c46]
 subst he2
 obtain ⟨_, hn1⟩ := s5d c2
 by_cases hk : x.Never.Kind = 1
 ·simp [hk, c46]
 by_cases h100 : 100 < (x.Places.length : Int)
 ·simp [h100, c46]
 rcases g5x hf with ⟨q, _⟩ | ⟨_, hw⟩
 ·exact absurd hm q
 simp only [hk, h100, not_true, decide_false, Bool.false_or, fT9, if_false, hw, bS9]
 split
 ·rfl
 have h2 : b7w m [x.Assume, [[x.Never]]] 0 := .inl ⟨rfl, hm, fun c hc => by
  rcases List.mem_cons.1 hc with rfl | hc
  ·exact ha.asu
  ·rw [List.mem_singleton.1 hc]; exact hn1⟩
 obtain ⟨pr, p1, _, p3⟩ := o85 hf x.Assume [[x.Never]] x.Places
 obtain ⟨br, b1, _, _, b4, b5⟩ := g5j hf x.Assume [[x.Never]]
 have hb0 : br.2.2 = 0 := d6z b4 h2
 rw [p1, b1, bS9, bS9]
 rcases p3 with ⟨_, q1, q2⟩ | ⟨_, q⟩
 ·exact absurd (d6z q2 h2) q1
 rcases q with ⟨_, q, _⟩ | ⟨q1, _, q3, _⟩ | ⟨q1, _, _, q4⟩
 ·omega
 ·simp [hb0, q1, q3, c46]
 cases hacc : pr.2.1 with
 | false => simp [hb0, q1, c46]
 | true =>
 obtain ⟨hz, hfl⟩ := q4.1 hacc
 obtain ⟨f1, f2⟩ := p29 hfl
 have hnb : br.2.1 = false := by
  obtain ⟨K, hK, s⟩ := b5 hb0
  rcases s with ⟨s, _⟩ | ⟨k, q, P, _, _, s3, _, s5, _⟩
  ·exact congrArg Prod.snd s
  ·have := f1 q (p3a f2 hz s5)
   rw [this] at s3; cases s3
 simp only [hb0, hnb, q1, not_true, decide_false, Bool.false_or, Bool.and_false, Bool.false_and, Bool.or_false, fT9, if_false, Bool.not_true]
 obtain ⟨b, l1, l2⟩ := j7u (f := x96 m x) (tA ⟨m, x.Assume, x.Ticks, []⟩) (fun (_ : Unit) k => k) (fun _ _ => True) (fun b => b = .inl ()) (fun _ k hk2 _ => by
   have hT9 : ((tA ⟨m, x.Assume, x.Ticks, []⟩ : Nat) : Int) = x.Ticks := hT
   have hkt : (k : Int) < x.Ticks := by omega
   obtain ⟨b, g1, g2⟩ := x9g (a := ⟨m, x.Assume, x.Ticks, []⟩) hf ha (x9b _) (y77 hn1) hk2
   have hb : b = true := g2.2 fun ⟨w, hw⟩ => by
    obtain ⟨w1, w2⟩ := x53.1 hw
    have hl9 : w.length = tA ⟨m, x.Assume, x.Ticks, []⟩ := w1.1
    obtain ⟨y, hy⟩ := b3b (l := w) (k := k) (by omega)
    have hin := y9w w1 (I := fun p => p ∈ x.Places) hz (fun t p x hp hx ha2 => f2 p hp x hx ha2) k
    have hok := y9w w1 (I := fun p => OkP m p) (o5b hm) (fun t p x hp hx ha2 => s1f hm hp _) k
    have hlit : b5a m true x.Never := (hn1.2 [x.Never] (by simp)).2 x.Never (by simp)
    have e1 := w2 y hy
    rw [y7x, y76 hm.z hok.s hlit, Bool.not_eq_false', y8b (y := 0) hk, <- y7x, f1 _ hin] at e1
    cases e1
   subst hb
   unfold x96
   simp only [hkt, decide_true, if_true, g1, bS9, not_true, decide_false, fT9, if_false, Bool.not_true, Bool.or_self]
   exact .inl ⟨(), by rw [b3t (by omega) (by omega)], trivial⟩) (fun _ _ => by
   refine ⟨.inl (), ?_, rfl⟩
   unfold x96
   have : ((tA ⟨m, x.Assume, x.Ticks, []⟩ : Nat) : Int) = x.Ticks := hT
   rw [this]
   simp) 0 (Nat.zero_le _) (s := ()) trivial
 have l1' : b0w (x96 m x) 0 = some b := l1
 rw [l1', bS9, l2]
 rfl
end
end
end Go.Nw.UM
