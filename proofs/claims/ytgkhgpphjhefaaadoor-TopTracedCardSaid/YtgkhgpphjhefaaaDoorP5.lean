/- Plain laws on the models. -/
import Derived.Test.YtgkhgpphjhefaaaDoorUM
import Derived.Test.YtgkhgpphjhefaaaDoorNwTypes
import Derived.Test.YtgkhgpphjhefaaaDoorP3
import Derived.Test.YtgkhgpphjhefaaaDoorP4
set_option linter.all false
namespace Go.Nw.UM
variable [Bd]
def c68 (x : ByteArray) : Prop := x.size <= Bd.B
theorem l4q {r : List AV} (h : MtL [.s] r) : ∃ x : ByteArray, r = eS x /\ c68 x := by
 obtain ⟨a0, r0, rfl, h0, g0⟩ := b3e h
 obtain ⟨v0, rfl, k0⟩ := d4c h0
 exact ⟨v0, by rw [b6o g0]; rfl, k0⟩
theorem g1x {a : AV} (h : Mt (.sl [.s]) a) : ∃ l : List ByteArray, a = .fs 1 (l.map eS) /\ OkL c68 l := by
 obtain ⟨l, rfl, h1, h2⟩ := b8q eS c68 h fun r hr => l4q hr
 exact ⟨l, rfl, h1, h2⟩
def r8n (x : Counter) : Prop := c68 x.Name /\ b5k x.Max
theorem l4l {r : List AV} (h : MtL [.s, .i .i64] r) : ∃ x : Counter, r = b0o x /\ r8n x := by
 obtain ⟨a0, r0, rfl, h0, g0⟩ := b3e h
 obtain ⟨a1, r1, rfl, h1, g1⟩ := b3e g0
 obtain ⟨v0, rfl, k0⟩ := d4c h0
 obtain ⟨v1, rfl, k1⟩ := b6n h1
 exact ⟨⟨v0, v1⟩, by rw [b6o g1]; rfl, ⟨k0, k1⟩⟩
theorem j8e {a : AV} (h : Mt (.sl [.s, .i .i64]) a) : ∃ l : List Counter, a = .fs 2 (l.map b0o) /\ OkL r8n l := by
 obtain ⟨l, rfl, h1, h2⟩ := b8q b0o r8n h fun r hr => l4l hr
 exact ⟨l, rfl, h1, h2⟩
def y9d (x : State) : Prop := c68 x.Name /\ b5k x.Shows
theorem l4s {r : List AV} (h : MtL [.s, .i .i64] r) : ∃ x : State, r = b0p x /\ y9d x := by
 obtain ⟨a0, r0, rfl, h0, g0⟩ := b3e h
 obtain ⟨a1, r1, rfl, h1, g1⟩ := b3e g0
 obtain ⟨v0, rfl, k0⟩ := d4c h0
 obtain ⟨v1, rfl, k1⟩ := b6n h1
 exact ⟨⟨v0, v1⟩, by rw [b6o g1]; rfl, ⟨k0, k1⟩⟩
theorem j8i {a : AV} (h : Mt (.sl [.s, .i .i64]) a) : ∃ l : List State, a = .fs 2 (l.map b0p) /\ OkL y9d l := by
 obtain ⟨l, rfl, h1, h2⟩ := b8q b0p y9d h fun r hr => l4s hr
 exact ⟨l, rfl, h1, h2⟩
def b5x (x : Literal) : Prop := b5k x.Kind /\ b5k x.Number /\ b5k x.Value /\ True
theorem l4n {r : List AV} (h : MtL [.i .i64, .i .i64, .i .i64, .b] r) : ∃ x : Literal, r = b3k x /\ b5x x := by
 obtain ⟨a0, r0, rfl, h0, g0⟩ := b3e h
 obtain ⟨a1, r1, rfl, h1, g1⟩ := b3e g0
 obtain ⟨a2, r2, rfl, h2, g2⟩ := b3e g1
 obtain ⟨a3, r3, rfl, h3, g3⟩ := b3e g2
 obtain ⟨v0, rfl, k0⟩ := b6n h0
 obtain ⟨v1, rfl, k1⟩ := b6n h1
 obtain ⟨v2, rfl, k2⟩ := b6n h2
 obtain ⟨v3, rfl, k3⟩ := j8k h3
 exact ⟨⟨v0, v1, v2, v3⟩, by rw [b6o g3]; rfl, ⟨k0, k1, k2, k3⟩⟩
theorem j8f {a : AV} (h : Mt (.sl [.i .i64, .i .i64, .i .i64, .b]) a) : ∃ l : List Literal, a = .fs 4 (l.map b3k) /\ OkL b5x l := by
 obtain ⟨l, rfl, h1, h2⟩ := b8q b3k b5x h fun r hr => l4n hr
 exact ⟨l, rfl, h1, h2⟩
theorem l4m {r : List AV} (h : MtL [.sl [.i .i64, .i .i64, .i .i64, .b]] r) : ∃ x : List Literal, r = b0t x /\ OkL b5x x := by
 obtain ⟨a0, r0, rfl, h0, g0⟩ := b3e h
 obtain ⟨v0, rfl, k0⟩ := j8f h0
 exact ⟨v0, by rw [b6o g0]; rfl, k0⟩
theorem d4b {a : AV} (h : Mt (.sl [.sl [.i .i64, .i .i64, .i .i64, .b]]) a) : ∃ l : List (List Literal), a = .fs 1 (l.map b0t) /\ OkL (OkL b5x) l := by
 obtain ⟨l, rfl, h1, h2⟩ := b8q b0t (OkL b5x) h fun r hr => l4m hr
 exact ⟨l, rfl, h1, h2⟩
def c52 (x : Set) : Prop := b5k x.Kind /\ b5k x.Counter
theorem l4r {r : List AV} (h : MtL [.i .i64, .i .i64] r) : ∃ x : Set, r = b2o x /\ c52 x := by
 obtain ⟨a0, r0, rfl, h0, g0⟩ := b3e h
 obtain ⟨a1, r1, rfl, h1, g1⟩ := b3e g0
 obtain ⟨v0, rfl, k0⟩ := b6n h0
 obtain ⟨v1, rfl, k1⟩ := b6n h1
 exact ⟨⟨v0, v1⟩, by rw [b6o g1]; rfl, ⟨k0, k1⟩⟩
theorem j8h {a : AV} (h : Mt (.sl [.i .i64, .i .i64]) a) : ∃ l : List Set, a = .fs 2 (l.map b2o) /\ OkL c52 l := by
 obtain ⟨l, rfl, h1, h2⟩ := b8q b2o c52 h fun r hr => l4r hr
 exact ⟨l, rfl, h1, h2⟩
def y9c (x : Rule) : Prop := b5k x.From /\ b5k x.To /\ OkL (OkL b5x) x.When /\ OkL c52 x.Sets
theorem l4p {r : List AV} (h : MtL [.i .i64, .i .i64, .sl [.sl [.i .i64, .i .i64, .i .i64, .b]], .sl [.i .i64, .i .i64]] r) : ∃ x : Rule, r = b0m x /\ y9c x := by
 obtain ⟨a0, r0, rfl, h0, g0⟩ := b3e h
 obtain ⟨a1, r1, rfl, h1, g1⟩ := b3e g0
 obtain ⟨a2, r2, rfl, h2, g2⟩ := b3e g1
 obtain ⟨a3, r3, rfl, h3, g3⟩ := b3e g2
 obtain ⟨v0, rfl, k0⟩ := b6n h0
 obtain ⟨v1, rfl, k1⟩ := b6n h1
 obtain ⟨v2, rfl, k2⟩ := d4b h2
 obtain ⟨v3, rfl, k3⟩ := j8h h3
 exact ⟨⟨v0, v1, v2, v3⟩, by rw [b6o g3]; rfl, ⟨k0, k1, k2, k3⟩⟩
theorem j8g {a : AV} (h : Mt (.sl [.i .i64, .i .i64, .sl [.sl [.i .i64, .i .i64, .i .i64, .b]], .sl [.i .i64, .i .i64]]) a) : ∃ l : List Rule, a = .fs 4 (l.map b0m) /\ OkL y9c l := by
 obtain ⟨l, rfl, h1, h2⟩ := b8q b0m y9c h fun r hr => l4p hr
 exact ⟨l, rfl, h1, h2⟩
def b9d (x : Machine) : Prop := OkL c68 x.Inputs /\ OkL c68 x.Outputs /\ OkL r8n x.Counters /\ OkL y9d x.States /\ OkL y9c x.Rules
def g9z (x : Machine) : List AV := [.fs 1 (List.map eS x.Inputs), .fs 1 (List.map eS x.Outputs), .fs 2 (List.map b0o x.Counters), .fs 2 (List.map b0p x.States), .fs 4 (List.map b0m x.Rules)]
theorem l4o {r : List AV} (h : MtL [.sl [.s], .sl [.s], .sl [.s, .i .i64], .sl [.s, .i .i64], .sl [.i .i64, .i .i64, .sl [.sl [.i .i64, .i .i64, .i .i64, .b]], .sl [.i .i64, .i .i64]]] r) : ∃ x : Machine, r = g9z x /\ b9d x := by
 obtain ⟨a0, r0, rfl, h0, g0⟩ := b3e h
 obtain ⟨a1, r1, rfl, h1, g1⟩ := b3e g0
 obtain ⟨a2, r2, rfl, h2, g2⟩ := b3e g1
 obtain ⟨a3, r3, rfl, h3, g3⟩ := b3e g2
 obtain ⟨a4, r4, rfl, h4, g4⟩ := b3e g3
 obtain ⟨v0, rfl, k0⟩ := g1x h0
 obtain ⟨v1, rfl, k1⟩ := g1x h1
 obtain ⟨v2, rfl, k2⟩ := j8e h2
 obtain ⟨v3, rfl, k3⟩ := j8i h3
 obtain ⟨v4, rfl, k4⟩ := j8g h4
 exact ⟨⟨v0, v1, v2, v3, v4⟩, by rw [b6o g4]; rfl, ⟨k0, k1, k2, k3, k4⟩⟩
abbrev d43 : List Sh := [.sl [.s], .sl [.s], .sl [.s, .i .i64], .sl [.s, .i .i64], .sl [.i .i64, .i .i64, .sl [.sl [.i .i64, .i .i64, .i .i64, .b]], .sl [.i .i64, .i .i64]]]
theorem l52 {a : AV} (h : MtA (.agg d43) a) : ∃ x : Machine, a = .agg [.fs 1 (List.map eS x.Inputs), .fs 1 (List.map eS x.Outputs), .fs 2 (List.map b0o x.Counters), .fs 2 (List.map b0p x.States), .fs 4 (List.map b0m x.Rules)] /\ b9d x := by
 obtain ⟨r, rfl, hr⟩ := g1y h
 obtain ⟨x, rfl, hx⟩ := l4o hr
 exact ⟨x, rfl, hx⟩
abbrev s33 : Sh := .sl [.sl [.i .i64, .i .i64, .i .i64, .b]]
theorem z02 {a : AV} (h : MtA (.c s33) a) : ∃ x : List (List Literal), a = .fs 1 (List.map b0t x) /\ (OkL (OkL b5x)) x := d4b (o9m h)
theorem p33 {a : AV} (h : Mt (.sl [.i .i64]) a) : ∃ l : List Int, a = .fs 1 (l.map eI) /\ OkL b5k l := by
 obtain ⟨l, rfl, h1, h2⟩ := b8q eI b5k h fun r hr => p36 hr
 exact ⟨l, rfl, h1, h2⟩
abbrev p66 : Sh := .sl [.i .i64]
theorem p7m {a : AV} (h : MtA (.c p66) a) : ∃ x : List Int, a = .fs 1 (List.map eI x) /\ (OkL b5k) x := p33 (o9m h)
end Go.Nw.UM
namespace Go.Nw.UM
section
variable [Bd]
theorem l5y {m : Machine} (h : b9d m) : ∀ n ∈ b3g m, n.size <= maxLen := by
 obtain ⟨h1, h2, h3, h4, h5⟩ := h
 intro n hn
 have hB := Bd.le
 simp only [b3g, List.mem_append, List.mem_map] at hn
 rcases hn with ((hn | hn) | ⟨c, hc, rfl⟩) | ⟨c, hc, rfl⟩
 ·exact Nat.le_trans (h1.2 n hn) hB
 ·exact Nat.le_trans (h2.2 n hn) hB
 ·exact Nat.le_trans (h3.2 c hc).1 hB
 ·exact Nat.le_trans (h4.2 c hc).1 hB
end
end Go.Nw.UM
namespace Go.Nw.UM
noncomputable section
theorem u4a {a : Accident} {th : Theory} (ha : OkA a) (hth : OkT a th) : (∃ w, Lst (l18 a th (fun _ => true) ftT) w /\ u0k a th = some (toI w, true)) \/ ((∀ w, ¬ l18 a th (fun _ => true) ftT w) /\ u0k a th = some ([], false)) :=
 u9k (keep := fun _ => true) (ft := ftT) ha hth (fun _ _ => rfl) (fun _ _ _ _ _ _ => rfl)
theorem u88 {a : Accident} {th : Theory} (hs : Small a) (hth : OkT a th) : ∃ b, (s8s a).bind (fun y => s88 a th y) = some b /\ (b = true ↔ ∃ w, l18 a th (fun _ => true) ftT w) := by
 have hn8 := hs.ok.n
 rw [u35 (by omega), bS9]
 obtain ⟨b, h1, h2⟩ := u89 (l := List.range a.Records.length) hs hth (fun i hi => List.mem_range.1 hi) (by rw [List.length_range]; exact hn8)
 refine ⟨b, h1, h2.trans ?_⟩
 exact ⟨fun ⟨w, hw⟩ => ⟨w, (u3c fun i hi => u3w hi).1 hw⟩, fun ⟨w, hw⟩ => ⟨w, (u3c fun i hi => u3w hi).2 hw⟩⟩
section
variable {a : Accident} {th : Theory} (hf : ∀ n ∈ b3g a.Machine, n.size <= maxLen) (hn : a.Records.length <= 10) (hs : b40 a ≠ 0 \/ Small a)
include hf hn hs
theorem u6i : ∃ r, u0g a th = some r /\ u05 a th = some r /\ ((c14 a th ≠ 0 /\ r = (false, c14 a th)) \/ (Small a /\ OkT a th /\ r.2 = 0 /\ (r.1 = true ↔ ∃ w, l18 a th (fun _ => true) ftT w))) := by
 unfold u0g u05
 rw [u23 hf hn, u24 hf hn, bS9, bS9]
 by_cases he : c14 a th = 0
 case neg => rw [if_pos (by simpa using he), if_pos (by simpa using he)]; exact ⟨_, rfl, rfl, .inl ⟨he, rfl⟩⟩
 rw [if_neg (by simp [he]), if_neg (by simp [he])]
 obtain ⟨ha, hth⟩ := u27.1 he
 have hs' : Small a := by
  rcases hs with h | h
  ·exact absurd (u1v.2 ha) h
  ·exact h
 obtain ⟨b, h1, h2⟩ := u88 hs' hth
 have h1' : ((s8s a).bind fun y7 => (s88 a th y7).bind fun y8 => some (y8, (0 : Int))) = some (b, 0) := by
  obtain ⟨y, hy, hb⟩ := bE9.1 h1
  rw [hy, bS9, hb, bS9]
 rw [h1']
 rcases u4a ha hth with ⟨w, hw, h3⟩ | ⟨hw, h3⟩
 ·have : b = true := h2.2 ⟨w, hw.1⟩
  subst this
  rw [h3, bS9]
  exact ⟨_, rfl, rfl, .inr ⟨hs', hth, rfl, h2⟩⟩
 ·have : b = false := by
   cases b with
   | false => rfl
   | true => obtain ⟨w, h⟩ := h2.1 rfl; exact absurd h (hw w)
  subst this
  rw [h3, bS9]
  exact ⟨_, rfl, rfl, .inr ⟨hs', hth, rfl, h2⟩⟩
theorem u6f : ∃ r, s9i a th = some r /\ s8x a th = some r /\ r.1.length <= 40 /\ ((c14 a th ≠ 0 /\ r = ([], c14 a th)) \/ (Small a /\ OkT a th /\ ((∃ w, Lst (l18 a th (fun _ => true) ftT) w /\ r = (toI w, 0)) \/ ((∀ w, ¬ l18 a th (fun _ => true) ftT w) /\ r = ([], 3))))) := by
 by_cases he : c14 a th = 0
 case neg =>
  unfold s9i s8x
  rw [u23 hf hn, u24 hf hn, bS9, bS9, if_pos (by simpa using he), if_pos (by simpa using he)]; exact ⟨_, rfl, rfl, by simp, .inl ⟨he, rfl⟩⟩
 obtain ⟨ha, hth⟩ := u27.1 he
 have hs' : Small a := by
  rcases hs with h | h
  ·exact absurd (u1v.2 ha) h
  ·exact h
 have h6 := tA6 hs'
 unfold s9i
 rw [u23 hf hn, bS9, if_neg (by simp [he])]
 rcases u6g hs' hth hf with ⟨w, hw, hl, h1⟩ | ⟨hw, h1⟩
 ·rcases u4a ha hth with ⟨w', hw', h3⟩ | ⟨hw', h3⟩
  ·have := u8w hw hw'
   subst this
   rw [h3, h1]
   exact ⟨_, rfl, rfl, by show (toI w).length <= 40; omega, .inr ⟨hs', hth, .inl ⟨w, hw, rfl⟩⟩⟩
  ·exact absurd hw.1 (hw' w)
 ·rcases u4a ha hth with ⟨w', hw', h3⟩ | ⟨hw', h3⟩
  ·exact absurd hw'.1 (hw w')
  ·rw [h3, h1]
   exact ⟨_, rfl, rfl, by simp, .inr ⟨hs', hth, .inr ⟨hw, rfl⟩⟩⟩
end
section
variable [Bd]
end
end
end Go.Nw.UM
namespace Go.Nw
theorem x55 {π : Type} {st : Nat -> π -> Nat -> π} : ∀ {w : List Nat} {t0 k x : Nat} {p : π}, w[k]? = some x -> pat st t0 p w (k + 1) = st (t0 + k) (pat st t0 p w k) x
 | [], t0, k, x, p, h => by simp at h
 | y :: ys, t0, 0, x, p, h => by
  simp only [List.getElem?_cons_zero, iE9] at h
  subst h
  cases ys <;> rfl
 | y :: ys, t0, k + 1, x, p, h => by
  simp only [List.getElem?_cons_succ] at h
  show pat st (t0 + 1) (st t0 p y) ys (k + 1) = st (t0 + (k + 1)) (pat st (t0 + 1) (st t0 p y) ys k) x
  rw [x55 h, show t0 + 1 + k = t0 + (k + 1) by omega]
end Go.Nw
namespace Go.Nw.UM
noncomputable section
section
variable {a : Accident} {th : Theory} {l : List Nat} {want : Nat}
theorem x56 : ∀ (w : List Nat) (t0 : Nat) (s0 : Place × Nat) (k x : Nat), Rch a th l t0 s0 -> AcD a th l want w (t0, s0) -> t0 + w.length = tA a -> w[k]? = some x ->
  ∃ s, Rch a th l (t0 + k) s /\ s.1 = pat (stA a th) t0 s0.1 w k /\ x < nA a /\ ∃ m', TD a th l (t0 + k, s) x = some m' /\ b64 a th l want m'
 | [], t0, s0, k, x, hR, hA, hlen, h => by simp at h
 | y :: ys, t0, s0, k, x, hR, hA, hlen, h => by
  rw [List.length_cons] at hlen
  obtain ⟨h1, m', h2, h3⟩ := (u1t (by show t0 < tA a; omega)).1 hA
  cases k with
  | zero =>
   simp only [List.getElem?_cons_zero, iE9] at h
   subst h
   exact ⟨s0, hR, by cases ys <;> rfl, h1, m', h2, ys, h3⟩
  | succ k =>
   simp only [List.getElem?_cons_succ] at h
   obtain ⟨D', _, _, e⟩ := u1f h2
   subst e
   obtain ⟨s, g1, g2, g3, g4⟩ := x56 ys (t0 + 1) _ k x ⟨s0, hR, y, h1, h2⟩ h3 (by omega) h
   rw [show t0 + 1 + k = t0 + (k + 1) by omega] at g1 g4
   exact ⟨s, g1, g2, g3, g4⟩
variable (hs : Small a) (hth : OkT a th)
include hs hth
end
section
variable {a : Accident} (hf : ∀ n ∈ b3g a.Machine, n.size <= maxLen) (hn : a.Records.length <= 10) (hs : b40 a ≠ 0 \/ Small a)
include hf hn hs
end
section
variable [Bd]
end
end
end Go.Nw.UM
namespace Go.Nw
section
variable {π : Type} {From To : Nat -> Nat} {Al keep : Nat -> Bool} {hold : Nat -> π -> Nat -> Bool} {st st' : Nat -> π -> Nat -> π} {ok : Nat -> π -> Nat -> Bool} {N T n : Nat}
end
end Go.Nw
namespace Go.Nw.UM
noncomputable section
theorem x9a : ∀ {b a : List Nat}, lle b a -> ∀ k x y, b[k]? = some x -> a[k]? = some y -> (∀ j : Nat, j < k -> b[j]? = a[j]?) -> x <= y
 | [], _, _, k, x, y, h, _, _ => by simp at h
 | _ :: _, [], h, _, _, _, _, _, _ => h.elim
 | x0 :: xs, y0 :: ys, h, 0, x, y, h1, h2, _ => by
  simp at h1 h2; subst h1 h2
  rcases h with h | ⟨h, _⟩ <;> omega
 | x0 :: xs, y0 :: ys, h, k + 1, x, y, h1, h2, h3 => by
  have h0 := h3 0 (by omega)
  simp at h0; subst h0
  rcases h with h | ⟨_, h⟩
  ·omega
  ·exact x9a h k x y (by simpa using h1) (by simpa using h2) fun j hj => by
    have := h3 (j + 1) (by omega); simpa using this
theorem x9h {a b : List Nat} (ha : a.length <= 1000) (hb : b.length = a.length) (h : lle b a) : x70 (toI a) (toI b) = some false := by
 unfold x70
 obtain ⟨r, h1, h2⟩ := j7u (f := u32 (toI a) (toI b)) a.length (fun (_ : Unit) k => k) (fun k _ => ∀ j : Nat, j < k -> b[j]? = a[j]?) (fun r => r = .inl () \/ r = .inr false) (fun _ k hk i1 => by
   obtain ⟨y, hy⟩ := b3b hk
   obtain ⟨x, hx⟩ := b3b (l := b) (k := k) (by omega)
   have hkb : k < b.length := by omega
   unfold u32
   simp only [s95, Int.ofNat_lt, hk, hkb, decide_true, Bool.and_self, if_true, u5m hy, u5m hx, bS9]
   have hle := x9a h k x y hx hy i1
   by_cases e : x = y
   ·subst e
    rw [if_neg (by simp), b2r hk (c12 ha)]
    exact .inl ⟨(), rfl, fun j hj => by
     by_cases e : j = k
     ·subst e; rw [hx, hy]
     ·exact i1 j (by omega)⟩
   ·rw [if_pos (by simp; omega)]
    refine .inr ⟨_, rfl, .inr ?_⟩
    rw [decide_eq_false (by omega)]) (fun _ i1 => by
   refine ⟨.inl (), ?_, .inl rfl⟩
   unfold u32
   simp only [s95, Int.lt_irrefl, decide_false, Bool.false_and, fT9, if_false]) 0 (Nat.zero_le _) (s := ()) (fun j hj => by omega)
 have h1' : b0w (u32 (toI a) (toI b)) 0 = some r := h1
 rw [h1', bS9]
 rcases h2 with rfl | rfl
 ·unfold x8z
  simp [s95, hb]
 ·rfl
section
variable {a : Accident} {th : Theory} (hf : ∀ n ∈ b3g a.Machine, n.size <= maxLen) (ha : OkA a) (hth : OkT a th)
include hf ha hth
end
theorem x9b (a : Accident) : OkT a ⟨-1, 0, 0⟩ := by
 unfold OkT l59
 rfl
theorem x9p (a : Accident) (t : Nat) (p : Place) (x : Nat) : stA a ⟨-1, 0, 0⟩ t p x = nxt a.Machine p (x : Int) := rfl
end
end Go.Nw.UM
namespace Go.Nw.UM
noncomputable section
theorem o8t {m : Machine} {p : Place} : OkP m p ↔ In p.State m.States.length /\ b5q 2 (fun k => !(b2q (if (k : Int) = 0 then p.Values.1 else p.Values.2) 0 (b56 m k))) = none := by
 rw [d72]
 constructor
 ·intro h
  refine ⟨h.s, fun t ht => ?_⟩
  have : t = 0 \/ t = 1 := by omega
  rcases this with rfl | rfl
  ·have := b6t.2 h.a; simp [this]
  ·have := b6t.2 h.b; simp [this]
 ·rintro ⟨h1, h2⟩
  have h3 := h2 0 (by omega)
  have h4 := h2 1 (by omega)
  simp only [Bool.not_eq_false', Int.natCast_zero, if_true, b6t] at h3
  simp only [Bool.not_eq_false', show ¬ ((1 : Nat) : Int) = 0 by decide, if_false, b6t] at h4
  exact ⟨h1, h3, h4⟩
theorem o8q {m : Machine} (hm : OkM m) {p : Place} : ∃ b, b2q p.State 0 (wr ((List.length m.States : Int) - 1)) = b /\ (b = true ↔ In p.State m.States.length) := by
 have := hm.z.s
 rw [c1n (b1o (by omega))]
 refine ⟨_, rfl, ?_⟩
 rw [b6t]
 unfold In
 omega
theorem o8s {m : Machine} {k : Nat} : (k < m.Counters.length /\ ∃ c, get m.Counters k = some c /\ c.Max = b56 m k) \/ (¬ k < m.Counters.length /\ b56 m k = 0) := by
 by_cases h : k < m.Counters.length
 ·obtain ⟨c, hc⟩ := b3b h
  exact .inl ⟨h, c, b1h hc, by unfold b56; rw [hc]⟩
 ·exact .inr ⟨h, by unfold b56; rw [List.getElem?_eq_none (by omega)]⟩
theorem o8o {m : Machine} (hm : OkM m) (p : Place) : ∃ b, o7s ⟨m⟩ p = some b /\ (b = true ↔ OkP m p) := by
 unfold o7s o73
 have step : ∀ k : Nat, k < 2 -> o7t ⟨m⟩ p k = (if (!(b2q (if (k : Int) = 0 then p.Values.1 else p.Values.2) 0 (b56 m k))) = true then some (.br (.inr false)) else some (.nx ((k : Int) + 1))) := fun k hk => by
  have h2 : (k : Int) < 2 := by omega
  unfold o7t o7u
  simp only [h2, decide_true, if_true, c2x (show In (k : Int) 2 from ⟨by omega, by omega⟩), bS9, Int.ofNat_lt]
  rcases o8s (m := m) (k := k) with ⟨h3, c, h4, h5⟩ | ⟨h3, h4⟩
  ·simp only [h3, decide_true, if_true, h4, bS9, h5, b2r hk (show 2 <= maxLen by decide)]
  ·simp only [h3, decide_false, fT9, if_false, h4, b2r hk (show 2 <= maxLen by decide)]
 rw [c7s (f := o7t ⟨m⟩ p) (n := 2) (p := fun k => !(b2q (if (k : Int) = 0 then p.Values.1 else p.Values.2) 0 (b56 m k))) (e := fun _ => .inr false) (u := .inl ()) (fun t ht hp => by rw [step t ht, if_pos hp]) (fun t ht hp => by rw [step t ht, if_neg (by rw [hp]; simp)]) (by rfl), o8t]
 obtain ⟨b, h1, h2⟩ := o8q hm (p := p)
 cases b5q 2 (fun k => !(b2q (if (k : Int) = 0 then p.Values.1 else p.Values.2) 0 (b56 m k))) with
 | none => exact ⟨b, by simp only [bS9, h1], by rw [h2]; simp⟩
 | some t => exact ⟨false, rfl, by simp⟩
theorem o83 {m : Machine} (hm : OkM m) (p : Place) : ∃ b, o7y m p = some b /\ (b = true ↔ OkP m p) := by
 unfold o7y o77
 have step : ∀ k : Nat, k < 2 -> o7z m p k = (if (!(b2q (if (k : Int) = 0 then p.Values.1 else p.Values.2) 0 (b56 m k))) = true then some (.br (.inr false)) else some (.nx ((k : Int) + 1))) := fun k hk => by
  have h2 : (k : Int) < 2 := by omega
  have e : ∀ x y : Int, b2b x 0 y = b2q x 0 y := fun x y => by rw [Bool.eq_iff_iff, b6g, b6t]
  unfold o7z o70
  simp only [h2, decide_true, if_true, c2x (show In (k : Int) 2 from ⟨by omega, by omega⟩), bS9, Int.ofNat_lt, e]
  rcases o8s (m := m) (k := k) with ⟨h3, c, h4, h5⟩ | ⟨h3, h4⟩
  ·simp only [h3, decide_true, if_true, h4, bS9, h5, b2r hk (show 2 <= maxLen by decide)]
  ·simp only [h3, decide_false, fT9, if_false, h4, b2r hk (show 2 <= maxLen by decide)]
 rw [c7s (f := o7z m p) (n := 2) (p := fun k => !(b2q (if (k : Int) = 0 then p.Values.1 else p.Values.2) 0 (b56 m k))) (e := fun _ => .inr false) (u := .inl ()) (fun t ht hp => by rw [step t ht, if_pos hp]) (fun t ht hp => by rw [step t ht, if_neg (by rw [hp]; simp)]) (by rfl), o8t]
 obtain ⟨b, h1, h2⟩ := o8q hm (p := p)
 have e : b2b p.State 0 (wr ((List.length m.States : Int) - 1)) = b := by rw [<- h1, Bool.eq_iff_iff, b6g, b6t]
 rw [e]
 cases b with
 | false => exact ⟨false, rfl, by rw [<- h2]; simp⟩
 | true =>
  rw [if_neg (by simp), <- h2]
  cases b5q 2 (fun k => !(b2q (if (k : Int) = 0 then p.Values.1 else p.Values.2) 0 (b56 m k))) with
  | none => exact ⟨true, rfl, by simp⟩
  | some t => exact ⟨false, rfl, by simp⟩
theorem o82 {m : Machine} (hs : SizesOk m) : c1y ⟨m⟩ = some ((2 ^ m.Inputs.length : Nat) : Int) := by
 unfold c1y
 have := hs.i
 simp only
 rw [c83 (by omega)]; simp
theorem p3i {m : Machine} (hm : OkM m) (x : Int) : ∃ b, p2c ⟨m⟩ x = some b /\ (b = true ↔ OkX m x) := by
 unfold p2c
 have := p2a hm.z
 rw [o82 hm.z, bS9, c1n (b1o (by omega))]
 refine ⟨_, rfl, ?_⟩
 rw [b6t]
 unfold OkX In
 omega
theorem p3v {m : Machine} (hm : OkM m) (x : Int) : ∃ b, b2b x 0 (wr (((2 ^ m.Inputs.length : Nat) : Int) - 1)) = b /\ (b = true ↔ OkX m x) := by
 have := p2a hm.z
 rw [c1n (b1o (by omega))]
 refine ⟨_, rfl, ?_⟩
 rw [b6g]
 unfold OkX In
 omega
theorem p3k {m : Machine} (hf : ∀ n ∈ b3g m, n.size <= maxLen) (p : Place) (x : Int) : ∃ r, p2f m p x = some r /\ p3f m p x = some r /\
  ((OkM m /\ OkP m p /\ OkX m x /\ r = (nxt m p x, 0)) \/ (OkM m /\ ¬ (OkP m p /\ OkX m x) /\ r = (zero, 1)) \/ (¬ OkM m /\ r = (zero, 41))) := by
 obtain ⟨e, h1, h2⟩ := g5k hf
 obtain ⟨e', h3, h4⟩ := d5t hf
 unfold p2f p3f
 rw [h1, h3, bS9, bS9]
 rcases h2 with ⟨rfl, hm⟩ | ⟨rfl, hm⟩ <;> rcases h4 with ⟨rfl, hm'⟩ | ⟨rfl, hm'⟩
 ·obtain ⟨b, a1, a2⟩ := o8o hm p
  obtain ⟨b', a3, a4⟩ := o83 hm p
  obtain ⟨d, a5, a6⟩ := p3i hm x
  obtain ⟨d', a7, a8⟩ := p3v hm x
  have eb : b' = b := by rw [Bool.eq_iff_iff, a2, a4]
  have ed : d' = d := by rw [Bool.eq_iff_iff, a6, a8]
  subst eb; subst ed
  rw [if_neg (by simp), if_neg (by simp), show b3h m = ⟨⟨m⟩⟩ from rfl]
  simp only
  rw [a1, a3, a5, b9j hm.z, bS9, bS9, bS9, bS9, a7]
  cases b' with
  | false => exact ⟨(zero, 1), rfl, rfl, .inr (.inl ⟨hm, fun h => by simpa using a2.2 h.1, rfl⟩)⟩
  | true =>
   cases d' with
   | false => exact ⟨(zero, 1), rfl, rfl, .inr (.inl ⟨hm, fun h => by simpa using a6.2 h.2, rfl⟩)⟩
   | true =>
    have ho := a2.1 rfl
    refine ⟨(nxt m p x, 0), ?_, ?_, .inl ⟨hm, ho, a6.1 rfl, rfl⟩⟩
    ·simp only [Bool.not_true, fT9, if_false, bS9]
     rw [g5u hm ho]; rfl
    ·simp only [Bool.not_true, fT9, if_false, bS9]
     rw [d5u hm ho]; rfl
 ·exact absurd hm hm'
 ·exact absurd hm' hm
 ·exact ⟨(zero, 41), rfl, rfl, .inr (.inr ⟨hm, rfl⟩)⟩
def b87 (m : Machine) (l : List Int) : Nat -> Place
 | 0 => zero
 | k + 1 => nxt m (b87 m l k) (l.getD k 0)
theorem r2j {m : Machine} (hm : OkM m) (l : List Int) : ∀ k, OkP m (b87 m l k)
 | 0 => o5b hm
 | k + 1 => s1f hm (r2j hm l k) _
theorem o8p {α : Type} {l : List α} {k : Nat} {x z : α} (h : l[k]? = some x) : l.getD k z = x := by
 rw [List.getD_eq_getElem?_getD, h]; rfl
section
variable [Bd]
end
end
end Go.Nw.UM
namespace Go.Nw.UM
noncomputable section
def hs (i v : Nat) (x : Nat) : Int := (b6a x i v).getD 0
section
variable [Bd]
end
end
end Go.Nw.UM
namespace Go.Nw.UM
noncomputable section
section
variable {m : Machine} {c rest : List (List Literal)} {K : Nat}
end
section
variable [Bd]
end
end
end Go.Nw.UM
namespace Go.Nw.UM
noncomputable section
section
variable [Bd]
end
end
end Go.Nw.UM
namespace Go.Nw
section
variable {π : Type} {st : Nat -> π -> Nat -> π} {ok : Nat -> π -> Nat -> Bool} {N : Nat}
end
end Go.Nw
namespace Go.Nw.UM
noncomputable section
section
variable {m : Machine} {c : List (List Literal)} {hd : Nat -> Int}
end
end
end Go.Nw.UM
namespace Go.Nw.UM
noncomputable section
def shB (s : State) (k : Nat) : Bool := decide ((b6y (d45 .i64 s.Shows (k : Int)) 1) = 0)
def shT (m : Machine) (p : Place) : List Literal := tab m.Outputs.length fun k => ⟨4, (k : Int), 0, shB (m.States.getD p.State.toNat default) k⟩
def shR (m : Machine) (l : List Int) (i : Nat) : Record := ⟨(i : Int), (i : Int), true, [shT m (b87 m l i)]⟩
def shA (m : Machine) (c : List (List Literal)) (l : List Int) : Accident := ⟨m, c, (l.length : Int), tab l.length (shR m l)⟩
section
variable {m : Machine} (hm : OkM m)
include hm
theorem z00 {p : Place} (hp : OkP m p) : b0w (c50 m p.State) ([], 0) = some (shT m p) := by
 have ho := hm.z.o
 obtain ⟨k, s, hk, hs, hg⟩ := d2l hp.s
 refine b4h (f := c50 m p.State) m.Outputs.length (fun (s : List Literal) k => (s, k)) (fun k => tab k fun k => ⟨4, (k : Int), 0, shB (m.States.getD p.State.toNat default) k⟩) _ (by rfl) (fun j hj => ?_) ?_
 ·have e : m.States.getD p.State.toNat default = s := by rw [hk, Int.toNat_natCast, List.getD_eq_getElem?_getD, hs]; rfl
  unfold c50
  simp only [Int.ofNat_lt, hj, decide_true, if_true, hg, bS9]
  rw [c9p (by omega) (by omega), g29 (by omega), bS9, b6d (by rw [b3y]; omega) (by simp) (by omega), bS9, b2r hj (c12 ho), l5w, e]
  rfl
 ·unfold c50
  simp only [Int.lt_irrefl, decide_false, fT9, if_false]
  rfl
theorem z0z (p : Place) : b2s m true [shT m p] := by
 have ho := hm.z.o
 refine ⟨by simp, fun t ht => ?_⟩
 rw [List.mem_singleton.1 ht]
 refine ⟨by unfold shT; rw [b3y]; exact ho, fun l hl => ?_⟩
 obtain ⟨i, hi, rfl⟩ := g3k hl
 exact .inr (.inr (.inr ⟨rfl, ⟨by show (0 : Int) <= (i : Int); omega, by show (i : Int) < _; omega⟩, rfl⟩))
theorem y52 {p : Place} (hp : OkP m p) (x : Int) : b46 m p x [shT m p] = true := by
 obtain ⟨k, s, hk, hs, hg⟩ := d2l hp.s
 unfold b46
 simp only [List.any_cons, List.any_nil, Bool.or_false, List.all_eq_true]
 intro l hl
 obtain ⟨i, hi, rfl⟩ := g3k hl
 have e : m.States.getD p.State.toNat default = s := by rw [hk, Int.toNat_natCast, List.getD_eq_getElem?_getD, hs]; rfl
 unfold lit b77 b6w
 simp only [Int.reduceEq, decide_true, if_true, decide_false, fT9, if_false, hg, bS9]
 rw [g29 (by omega), bS9, e]
 unfold shB
 have hb : b6y (d45 .i64 s.Shows (i : Int)) 1 = 0 \/ b6y (d45 .i64 s.Shows (i : Int)) 1 = 1 := by
  have hS := hm.s s (mG9 hs)
  have ho := hm.z.o
  obtain ⟨n, hn⟩ : ∃ n : Nat, s.Shows = n := ⟨s.Shows.toNat, by omega⟩
  have h64 : (2 : Int) ^ m.Outputs.length <= 64 := by
   have : (2 : Nat) ^ m.Outputs.length <= 2 ^ 6 := Nat.pow_le_pow_right (by omega) ho
   have e : ((2 ^ m.Outputs.length : Nat) : Int) = (2 : Int) ^ m.Outputs.length := by simp
   omega
  have := u6r (a := n) (y := i) (by omega) (by omega)
  rw [hn, this]
  split <;> simp
 rcases hb with h | h <;> rw [h] <;> rfl
end
theorem l43 {m : Machine} {c : List (List Literal)} {l : List Int} {w : List Nat} (hw : toI w = l) : ∀ k, k <= w.length -> pat (stA (shA m c l) ⟨-1, 0, 0⟩) 0 zero w k = b87 m l k
 | 0, _ => by cases w <;> rfl
 | k + 1, hk => by
  obtain ⟨x, hx⟩ := b3b (l := w) (k := k) (by omega)
  rw [x55 hx, l43 hw k (by omega), x9p]
  have e : l.getD k 0 = (x : Int) := by rw [<- hw, o8p (x := (x : Int)) (by unfold toI; rw [List.getElem?_map, hx]; rfl)]
  show nxt m _ _ = nxt m _ (l.getD k 0)
  rw [e]
section
variable [Bd]
theorem z01 (m : Machine) (c : List (List Literal)) (l : List Int) (hm0 : b9d m) (hc0 : OkL (OkL b5x) c) (hl0 : OkL b5k l) : l17 m c l = some true := by
 have hf := l5y hm0
 unfold l17
 by_cases h5 : (5 : Int) < (l.length : Int)
 ·simp [h5, b32]
 have h5' : l.length <= 5 := by omega
 simp only [h5, decide_false, fT9, if_false]
 rcases u6h (a := ⟨m, c, (l.length : Int), []⟩) hf with h | ⟨hn, h, hs⟩
 ·rw [h]; rfl
 rw [h, bS9, bS9, u4j (a := ⟨m, c, (l.length : Int), []⟩) hf hn]
 by_cases he : b40 ⟨m, c, (l.length : Int), []⟩ = 0
 case neg => simp [he, b32]
 have ha := u1v.1 he
 have hs' : Small ⟨m, c, (l.length : Int), []⟩ := by
  rcases hs with h | h
  ·exact absurd he h
  ·exact h
 have hm : OkM m := ha.m
 have hc : b2s m true c := ha.asu
 have h16 := u3y ha
 simp only [he, fT9, if_false, bS9, not_true, decide_false]
 obtain ⟨b, h1, h2⟩ := j7u (f := c51 m c l) l.length (fun (s : List Record × Place) k => (s.1, s.2.State, s.2.Values.1, s.2.Values.2, k))
  (fun k s => s = (tab k (shR m l), b87 m l k) /\ ∀ j, j < k -> ∃ x : Nat, l[j]? = some (x : Int) /\ x < 2 ^ m.Inputs.length /\ c25 m (b87 m l j) (x : Int) c = true)
  (fun b => b = .inr true \/ (b = .inl (tab l.length (shR m l)) /\ ∀ j, j < l.length -> ∃ x : Nat, l[j]? = some (x : Int) /\ x < 2 ^ m.Inputs.length /\ c25 m (b87 m l j) (x : Int) c = true)) (fun s k hk ⟨i0, i1⟩ => by
   subst i0
   obtain ⟨x, hx⟩ := b3b hk
   have hp := r2j hm l k
   unfold c51
   simp only [Int.ofNat_lt, hk, decide_true, if_true, b1h hx, bS9, c74]
   rw [u5e ha]
   have hnA : nA ⟨m, c, (l.length : Int), []⟩ = 2 ^ m.Inputs.length := rfl
   rw [hnA]
   by_cases hlo : x < 0
   ·simp only [hlo, decide_true, if_true, bS9]
    exact .inr ⟨_, rfl, .inl rfl⟩
   by_cases hhi : ((2 ^ m.Inputs.length : Nat) : Int) <= x
   ·simp only [hlo, hhi, decide_true, decide_false, fT9, if_false, if_true, bS9]
    exact .inr ⟨_, rfl, .inl rfl⟩
   simp only [hlo, hhi, decide_false, fT9, if_false, bS9]
   rw [d5o hm.z hp.s hc, bS9]
   cases hal : c25 m (b87 m l k) x c with
   | false =>
    simp only [Bool.not_false, bS9, if_true]
    exact .inr ⟨_, rfl, .inl rfl⟩
   | true =>
    simp only [Bool.not_true, bS9, fT9, if_false]
    rw [z00 hm hp, bS9]
    unfold l42
    rw [b6d (by rw [b3y]; omega) (by simp) (by omega), bS9, b1h hx, bS9]
    obtain ⟨r, r1, _, r2⟩ := p3k hf (b87 m l k) x
    have hX : OkX m x := by unfold OkX In; constructor <;> omega
    rcases r2 with ⟨_, _, _, rfl⟩ | ⟨_, q, _⟩ | ⟨q, _⟩
    ·simp only [c74, r1, bS9, not_true, decide_false, fT9, if_false]
     have hp2 := s1f hm hp x
     obtain ⟨b, b1, b2⟩ := o83 hm (nxt m (b87 m l k) x)
     rw [b1, b2.2 hp2, bS9, bS9]
     simp only [Bool.not_true, fT9, if_false]
     unfold l31
     have ex : l.getD k 0 = x := o8p hx
     rw [b2r hk (c12 h5')]
     refine .inl ⟨(tab (k + 1) (shR m l), b87 m l (k + 1)), ?_, rfl, fun j hj => ?_⟩
     ·rw [l5w]
      show _ = some (Out.nx (_, (nxt m (b87 m l k) (l.getD k 0)).State, (nxt m (b87 m l k) (l.getD k 0)).Values.1, (nxt m (b87 m l k) (l.getD k 0)).Values.2, _))
      rw [ex]; rfl
     ·by_cases e : j = k
      ·subst e
       refine ⟨x.toNat, by rw [hx]; congr 1; omega, by omega, ?_⟩
       rw [show ((x.toNat : Nat) : Int) = x by omega]; exact hal
      ·exact i1 j (by omega)
    ·exact absurd ⟨hp, hX⟩ q
    ·exact absurd hm q) (fun s ⟨i0, i1⟩ => by
   subst i0
   refine ⟨.inl (tab l.length (shR m l)), ?_, .inr ⟨rfl, i1⟩⟩
   unfold c51
   simp only [Int.lt_irrefl, decide_false, fT9, if_false]) 0 (Nat.zero_le _) (s := ([], zero)) ⟨rfl, fun j hj => by omega⟩
 have h1' : b0w (c51 m c l) ([], 0, 0, 0, 0) = some b := h1
 rw [h1', bS9]
 rcases h2 with rfl | ⟨rfl, hall⟩
 ·rfl
 simp only
 unfold l30
 show ((u0g (shA m c l) ⟨-1, 0, 0⟩).bind fun y18 => (s9i (shA m c l) ⟨-1, 0, 0⟩).bind _) = _
 have hlen : (shA m c l).Records.length = l.length := b3y
 have hR : ∀ i, i < l.length -> R (shA m c l) i = shR m l i := fun i hi => u6j (c1l hi)
 have hA : OkA (shA m c l) := ⟨hm, hc, fun r hr => by
   obtain ⟨i, hi, rfl⟩ := g3k hr
   exact z0z hm _, by show 0 <= (l.length : Int) /\ (l.length : Int) <= 40; omega, by rw [hlen]; omega, fun r hr => by
   obtain ⟨i, hi, rfl⟩ := g3k hr
   show 0 <= (i : Int) /\ (i : Int) <= (i : Int) /\ (i : Int) < (l.length : Int)
   omega⟩
 have hS : Small (shA m c l) := ⟨hA, hs'.i, by show (l.length : Int) <= 6; omega, by rw [hlen]; omega⟩
 have hw : toI (l.map Int.toNat) = l := by
  apply List.ext_getElem?
  intro i
  unfold toI
  rw [List.map_map, List.getElem?_map]
  cases hi : l[i]? with
  | none => rfl
  | some x =>
   obtain ⟨y, hy, _⟩ := hall i (b1k hi)
   rw [hi] at hy; cases hy
   rfl
 have hwl : (l.map Int.toNat).length = l.length := by simp
 have hat : ∀ (k : Nat) y, (l.map Int.toNat)[k]? = some y -> ∃ x : Nat, y = x /\ x < 2 ^ m.Inputs.length /\ c25 m (b87 m l k) ((x : Nat) : Int) c = true := fun k y hy => by
  have hk := b1k hy
  obtain ⟨x, h1, h2, h3⟩ := hall k (by omega)
  rw [List.getElem?_map, h1] at hy
  exact ⟨x, (Option.some.inj hy).symm, h2, h3⟩
 have hfine : l18 (shA m c l) ⟨-1, 0, 0⟩ (fun _ => true) ftT (l.map Int.toNat) := by
  refine ⟨by rw [hwl]; rfl, (x5o _ _ _).2 fun k y hy => ?_, fun i hi _ => ?_⟩
  ·obtain ⟨x, ex, x2, x3⟩ := hat k y hy
   subst ex
   refine ⟨x2, ?_⟩
   rw [l43 hw k (by have := b1k hy; omega)]
   unfold okA
   show (c25 m (b87 m l k) (y : Int) c && true) = true
   rw [x3]; rfl
  ·rw [hlen] at hi
   rw [y9k, if_pos (by unfold al; rw [hR i hi]; rfl)]
   intro k y hy h1 h2
   have e1 : fr (shA m c l) i = i := by unfold fr; rw [hR i hi]; exact Int.toNat_natCast i
   have e2 : to (shA m c l) i = i := by unfold to; rw [hR i hi]; exact Int.toNat_natCast i
   rw [e1] at h1; rw [e2] at h2
   have : k = i := by omega
   subst this
   rw [l43 hw k (by have := b1k hy; omega)]
   unfold hold
   rw [hR k hi]
   exact y52 hm (r2j hm l k) _
 have hE : c14 (shA m c l) ⟨-1, 0, 0⟩ = 0 := u27.2 ⟨hA, x9b _⟩
 obtain ⟨r, p1, _, p2⟩ := u6i (a := shA m c l) (th := ⟨-1, 0, 0⟩) hf (by rw [hlen]; omega) (.inr hS)
 rcases p2 with ⟨q, _⟩ | ⟨_, _, p3, p4⟩
 ·exact absurd hE q
 have hr : r = (true, 0) := Prod.ext (p4.2 ⟨_, hfine⟩) p3
 subst hr
 obtain ⟨r, d1, _, _, d2⟩ := u6f (a := shA m c l) (th := ⟨-1, 0, 0⟩) hf (by rw [hlen]; omega) (.inr hS)
 rcases d2 with ⟨q, _⟩ | ⟨_, _, ⟨w', hw', rfl⟩ | ⟨hw', rfl⟩⟩
 ·exact absurd hE q
 case inr => exact absurd hfine (hw' _)
 have l2 : w'.length = l.length := hw'.1.1
 have hless := x9h (a := l.map Int.toNat) (b := w') (by omega) (by omega) (hw'.2 _ hfine)
 rw [hw] at hless
 simp only [p1, d1, bS9, not_true, decide_false, fT9, if_false, decide_true, Bool.and_true, Bool.and_self, if_true, s95, l2]
 rw [hless]
 simp [b32]
end
end
end Go.Nw.UM
