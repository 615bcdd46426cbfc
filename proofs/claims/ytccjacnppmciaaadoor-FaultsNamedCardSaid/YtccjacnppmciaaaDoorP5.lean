/- Plain laws on the models. -/
import Derived.Test.YtccjacnppmciaaaDoorP2
import Derived.Test.YtccjacnppmciaaaDoorNwTypes
import Derived.Test.YtccjacnppmciaaaDoorP4
set_option linter.all false
namespace Go.Nw.AN
variable [Bd]
def c68 (x : ByteArray) : Prop := x.size <= Bd.B
theorem l4q {r : List AV} (h : MtL [.s] r) : ∃ x : ByteArray, r = eS x /\ c68 x := by
 obtain ⟨a0, r0, rfl, h0, g0⟩ := b3e h
 obtain ⟨v0, rfl, k0⟩ := d4c h0
 exact ⟨v0, by rw [b6o g0]; rfl, k0⟩
theorem g1x {a : AV} (h : Mt (.sl [.s]) a) : ∃ l : List ByteArray, a = .fs 1 (l.map eS) /\ OkL c68 l := by
 obtain ⟨l, rfl, h1, h2⟩ := b8q eS c68 h fun r hr => l4q hr
 exact ⟨l, rfl, h1, h2⟩
def r8n (x : Counter) : Prop := c68 x.Name /\ b5k x.Max
theorem l4l {r : List AV} (h : MtL [.s, .i .i64] r) : ∃ x : Counter, r = b0o x /\ r8n x := by
 obtain ⟨a0, r0, rfl, h0, g0⟩ := b3e h
 obtain ⟨a1, r1, rfl, h1, g1⟩ := b3e g0
 obtain ⟨v0, rfl, k0⟩ := d4c h0
 obtain ⟨v1, rfl, k1⟩ := b6n h1
 exact ⟨⟨v0, v1⟩, by rw [b6o g1]; rfl, ⟨k0, k1⟩⟩
theorem j8e {a : AV} (h : Mt (.sl [.s, .i .i64]) a) : ∃ l : List Counter, a = .fs 2 (l.map b0o) /\ OkL r8n l := by
 obtain ⟨l, rfl, h1, h2⟩ := b8q b0o r8n h fun r hr => l4l hr
 exact ⟨l, rfl, h1, h2⟩
def c53 (x : State) : Prop := c68 x.Name /\ b5k x.Shows
theorem l4s {r : List AV} (h : MtL [.s, .i .i64] r) : ∃ x : State, r = b0p x /\ c53 x := by
 obtain ⟨a0, r0, rfl, h0, g0⟩ := b3e h
 obtain ⟨a1, r1, rfl, h1, g1⟩ := b3e g0
 obtain ⟨v0, rfl, k0⟩ := d4c h0
 obtain ⟨v1, rfl, k1⟩ := b6n h1
 exact ⟨⟨v0, v1⟩, by rw [b6o g1]; rfl, ⟨k0, k1⟩⟩
theorem j8i {a : AV} (h : Mt (.sl [.s, .i .i64]) a) : ∃ l : List State, a = .fs 2 (l.map b0p) /\ OkL c53 l := by
 obtain ⟨l, rfl, h1, h2⟩ := b8q b0p c53 h fun r hr => l4s hr
 exact ⟨l, rfl, h1, h2⟩
def b5x (x : Literal) : Prop := b5k x.Kind /\ b5k x.Number /\ b5k x.Value /\ True
theorem l4n {r : List AV} (h : MtL [.i .i64, .i .i64, .i .i64, .b] r) : ∃ x : Literal, r = b3k x /\ b5x x := by
 obtain ⟨a0, r0, rfl, h0, g0⟩ := b3e h
 obtain ⟨a1, r1, rfl, h1, g1⟩ := b3e g0
 obtain ⟨a2, r2, rfl, h2, g2⟩ := b3e g1
 obtain ⟨a3, r3, rfl, h3, g3⟩ := b3e g2
 obtain ⟨v0, rfl, k0⟩ := b6n h0
 obtain ⟨v1, rfl, k1⟩ := b6n h1
 obtain ⟨v2, rfl, k2⟩ := b6n h2
 obtain ⟨v3, rfl, k3⟩ := j8k h3
 exact ⟨⟨v0, v1, v2, v3⟩, by rw [b6o g3]; rfl, ⟨k0, k1, k2, k3⟩⟩
theorem j8f {a : AV} (h : Mt (.sl [.i .i64, .i .i64, .i .i64, .b]) a) : ∃ l : List Literal, a = .fs 4 (l.map b3k) /\ OkL b5x l := by
 obtain ⟨l, rfl, h1, h2⟩ := b8q b3k b5x h fun r hr => l4n hr
 exact ⟨l, rfl, h1, h2⟩
theorem l4m {r : List AV} (h : MtL [.sl [.i .i64, .i .i64, .i .i64, .b]] r) : ∃ x : List Literal, r = b0t x /\ OkL b5x x := by
 obtain ⟨a0, r0, rfl, h0, g0⟩ := b3e h
 obtain ⟨v0, rfl, k0⟩ := j8f h0
 exact ⟨v0, by rw [b6o g0]; rfl, k0⟩
theorem d4b {a : AV} (h : Mt (.sl [.sl [.i .i64, .i .i64, .i .i64, .b]]) a) : ∃ l : List (List Literal), a = .fs 1 (l.map b0t) /\ OkL (OkL b5x) l := by
 obtain ⟨l, rfl, h1, h2⟩ := b8q b0t (OkL b5x) h fun r hr => l4m hr
 exact ⟨l, rfl, h1, h2⟩
def c52 (x : Set) : Prop := b5k x.Kind /\ b5k x.Counter
theorem l4r {r : List AV} (h : MtL [.i .i64, .i .i64] r) : ∃ x : Set, r = b2o x /\ c52 x := by
 obtain ⟨a0, r0, rfl, h0, g0⟩ := b3e h
 obtain ⟨a1, r1, rfl, h1, g1⟩ := b3e g0
 obtain ⟨v0, rfl, k0⟩ := b6n h0
 obtain ⟨v1, rfl, k1⟩ := b6n h1
 exact ⟨⟨v0, v1⟩, by rw [b6o g1]; rfl, ⟨k0, k1⟩⟩
theorem j8h {a : AV} (h : Mt (.sl [.i .i64, .i .i64]) a) : ∃ l : List Set, a = .fs 2 (l.map b2o) /\ OkL c52 l := by
 obtain ⟨l, rfl, h1, h2⟩ := b8q b2o c52 h fun r hr => l4r hr
 exact ⟨l, rfl, h1, h2⟩
def c51 (x : Rule) : Prop := b5k x.From /\ b5k x.To /\ OkL (OkL b5x) x.When /\ OkL c52 x.Sets
theorem l4p {r : List AV} (h : MtL [.i .i64, .i .i64, .sl [.sl [.i .i64, .i .i64, .i .i64, .b]], .sl [.i .i64, .i .i64]] r) : ∃ x : Rule, r = b0m x /\ c51 x := by
 obtain ⟨a0, r0, rfl, h0, g0⟩ := b3e h
 obtain ⟨a1, r1, rfl, h1, g1⟩ := b3e g0
 obtain ⟨a2, r2, rfl, h2, g2⟩ := b3e g1
 obtain ⟨a3, r3, rfl, h3, g3⟩ := b3e g2
 obtain ⟨v0, rfl, k0⟩ := b6n h0
 obtain ⟨v1, rfl, k1⟩ := b6n h1
 obtain ⟨v2, rfl, k2⟩ := d4b h2
 obtain ⟨v3, rfl, k3⟩ := j8h h3
 exact ⟨⟨v0, v1, v2, v3⟩, by rw [b6o g3]; rfl, ⟨k0, k1, k2, k3⟩⟩
theorem j8g {a : AV} (h : Mt (.sl [.i .i64, .i .i64, .sl [.sl [.i .i64, .i .i64, .i .i64, .b]], .sl [.i .i64, .i .i64]]) a) : ∃ l : List Rule, a = .fs 4 (l.map b0m) /\ OkL c51 l := by
 obtain ⟨l, rfl, h1, h2⟩ := b8q b0m c51 h fun r hr => l4p hr
 exact ⟨l, rfl, h1, h2⟩
def b9d (x : Machine) : Prop := OkL c68 x.Inputs /\ OkL c68 x.Outputs /\ OkL r8n x.Counters /\ OkL c53 x.States /\ OkL c51 x.Rules
def u1r (x : Record) : Prop := b5k x.From /\ b5k x.To /\ True /\ OkL (OkL b5x) x.Cond
theorem u9e {r : List AV} (h : MtL [.i .i64, .i .i64, .b, .sl [.sl [.i .i64, .i .i64, .i .i64, .b]]] r) : ∃ x : Record, r = b10 x /\ u1r x := by
 obtain ⟨a0, r0, rfl, h0, g0⟩ := b3e h
 obtain ⟨a1, r1, rfl, h1, g1⟩ := b3e g0
 obtain ⟨a2, r2, rfl, h2, g2⟩ := b3e g1
 obtain ⟨a3, r3, rfl, h3, g3⟩ := b3e g2
 obtain ⟨v0, rfl, k0⟩ := b6n h0
 obtain ⟨v1, rfl, k1⟩ := b6n h1
 obtain ⟨v2, rfl, k2⟩ := j8k h2
 obtain ⟨v3, rfl, k3⟩ := d4b h3
 exact ⟨⟨v0, v1, v2, v3⟩, by rw [b6o g3]; rfl, ⟨k0, k1, k2, k3⟩⟩
theorem u84 {a : AV} (h : Mt (.sl [.i .i64, .i .i64, .b, .sl [.sl [.i .i64, .i .i64, .i .i64, .b]]]) a) : ∃ l : List Record, a = .fs 4 (l.map b10) /\ OkL u1r l := by
 obtain ⟨l, rfl, h1, h2⟩ := b8q b10 u1r h fun r hr => u9e hr
 exact ⟨l, rfl, h1, h2⟩
def s9d (x : Accident) : Prop := b9d x.Machine /\ OkL (OkL b5x) x.Assume /\ b5k x.Ticks /\ OkL u1r x.Records
def u7i (x : Accident) : List AV := [.fs 1 (List.map eS x.Machine.Inputs), .fs 1 (List.map eS x.Machine.Outputs), .fs 2 (List.map b0o x.Machine.Counters), .fs 2 (List.map b0p x.Machine.States), .fs 4 (List.map b0m x.Machine.Rules), .fs 1 (List.map b0t x.Assume), I x.Ticks, .fs 4 (List.map b10 x.Records)]
theorem u9d {r : List AV} (h : MtL [.sl [.s], .sl [.s], .sl [.s, .i .i64], .sl [.s, .i .i64], .sl [.i .i64, .i .i64, .sl [.sl [.i .i64, .i .i64, .i .i64, .b]], .sl [.i .i64, .i .i64]], .sl [.sl [.i .i64, .i .i64, .i .i64, .b]], .i .i64, .sl [.i .i64, .i .i64, .b, .sl [.sl [.i .i64, .i .i64, .i .i64, .b]]]] r) : ∃ x : Accident, r = u7i x /\ s9d x := by
 obtain ⟨a0, r0, rfl, h0, g0⟩ := b3e h
 obtain ⟨a1, r1, rfl, h1, g1⟩ := b3e g0
 obtain ⟨a2, r2, rfl, h2, g2⟩ := b3e g1
 obtain ⟨a3, r3, rfl, h3, g3⟩ := b3e g2
 obtain ⟨a4, r4, rfl, h4, g4⟩ := b3e g3
 obtain ⟨a5, r5, rfl, h5, g5⟩ := b3e g4
 obtain ⟨a6, r6, rfl, h6, g6⟩ := b3e g5
 obtain ⟨a7, r7, rfl, h7, g7⟩ := b3e g6
 obtain ⟨v0, rfl, k0⟩ := g1x h0
 obtain ⟨v1, rfl, k1⟩ := g1x h1
 obtain ⟨v2, rfl, k2⟩ := j8e h2
 obtain ⟨v3, rfl, k3⟩ := j8i h3
 obtain ⟨v4, rfl, k4⟩ := j8g h4
 obtain ⟨v5, rfl, k5⟩ := d4b h5
 obtain ⟨v6, rfl, k6⟩ := b6n h6
 obtain ⟨v7, rfl, k7⟩ := u84 h7
 exact ⟨⟨⟨v0, v1, v2, v3, v4⟩, v5, v6, v7⟩, by rw [b6o g7]; rfl, ⟨⟨k0, k1, k2, k3, k4⟩, k5, k6, k7⟩⟩
abbrev u4b : List Sh := [.sl [.s], .sl [.s], .sl [.s, .i .i64], .sl [.s, .i .i64], .sl [.i .i64, .i .i64, .sl [.sl [.i .i64, .i .i64, .i .i64, .b]], .sl [.i .i64, .i .i64]], .sl [.sl [.i .i64, .i .i64, .i .i64, .b]], .i .i64, .sl [.i .i64, .i .i64, .b, .sl [.sl [.i .i64, .i .i64, .i .i64, .b]]]]
theorem u9s {a : AV} (h : MtA (.agg u4b) a) : ∃ x : Accident, a = .agg [.fs 1 (List.map eS x.Machine.Inputs), .fs 1 (List.map eS x.Machine.Outputs), .fs 2 (List.map b0o x.Machine.Counters), .fs 2 (List.map b0p x.Machine.States), .fs 4 (List.map b0m x.Machine.Rules), .fs 1 (List.map b0t x.Assume), I x.Ticks, .fs 4 (List.map b10 x.Records)] /\ s9d x := by
 obtain ⟨r, rfl, hr⟩ := g1y h
 obtain ⟨x, rfl, hx⟩ := u9d hr
 exact ⟨x, rfl, hx⟩
def u1s (x : Theory) : Prop := b5k x.Input /\ b5k x.Value /\ b5k x.From
theorem u9f {r : List AV} (h : MtL [.i .i64, .i .i64, .i .i64] r) : ∃ x : Theory, r = u26 x /\ u1s x := by
 obtain ⟨a0, r0, rfl, h0, g0⟩ := b3e h
 obtain ⟨a1, r1, rfl, h1, g1⟩ := b3e g0
 obtain ⟨a2, r2, rfl, h2, g2⟩ := b3e g1
 obtain ⟨v0, rfl, k0⟩ := b6n h0
 obtain ⟨v1, rfl, k1⟩ := b6n h1
 obtain ⟨v2, rfl, k2⟩ := b6n h2
 exact ⟨⟨v0, v1, v2⟩, by rw [b6o g2]; rfl, ⟨k0, k1, k2⟩⟩
abbrev u4c : List Sh := [.i .i64, .i .i64, .i .i64]
theorem u9t {a : AV} (h : MtA (.agg u4c) a) : ∃ x : Theory, a = .agg [I x.Input, I x.Value, I x.From] /\ u1s x := by
 obtain ⟨r, rfl, hr⟩ := g1y h
 obtain ⟨x, rfl, hx⟩ := u9f hr
 exact ⟨x, rfl, hx⟩
end Go.Nw.AN
namespace Go.Nw.AN
noncomputable section
theorem u4a {a : Accident} {th : Theory} (ha : OkA a) (hth : OkT a th) : (∃ w, Lst (l18 a th (fun _ => true) ftT) w /\ u0k a th = some (toI w, true)) \/ ((∀ w, ¬ l18 a th (fun _ => true) ftT w) /\ u0k a th = some ([], false)) :=
 u9k (keep := fun _ => true) (ft := ftT) ha hth (fun _ _ => rfl) (fun _ _ _ _ _ _ => rfl)
section
variable {a : Accident} {th : Theory} (hf : ∀ n ∈ b3g a.Machine, n.size <= maxLen) (hn : a.Records.length <= 10) (hs : c25 a ≠ 0 \/ Small a)
include hf hn hs
end
section
variable [Bd]
theorem l5y {m : Machine} (h : b9d m) : ∀ n ∈ b3g m, n.size <= maxLen := by
 obtain ⟨h1, h2, h3, h4, h5⟩ := h
 intro n hn
 have hB := Bd.le
 simp only [b3g, List.mem_append, List.mem_map] at hn
 rcases hn with ((hn | hn) | ⟨c, hc, rfl⟩) | ⟨c, hc, rfl⟩
 ·exact Nat.le_trans (h1.2 n hn) hB
 ·exact Nat.le_trans (h2.2 n hn) hB
 ·exact Nat.le_trans (h3.2 c hc).1 hB
 ·exact Nat.le_trans (h4.2 c hc).1 hB
theorem u9q {a : Accident} (h : s9d a) : ∀ n ∈ b3g a.Machine, n.size <= maxLen := l5y h.1
end
end
end Go.Nw.AN
namespace Go.Nw.AN
noncomputable section
def Psb (a : Accident) (th : Theory) (l : List Nat) : Prop := ∃ w, l18 a th (c49 l) ftT w
open Classical in
def gr (a : Accident) (th : Theory) : Nat -> List Nat
 | 0 => []
 | k + 1 => if Psb a th (gr a th k ++ List.range' (k + 1) (a.Records.length - (k + 1))) then gr a th k ++ [k] else gr a th k
section
variable {a : Accident} {th : Theory}
theorem w99 : ∀ {k i : Nat}, i ∈ gr a th k -> i < k
 | k + 1, i, h => by
  unfold gr at h
  split at h
  ·rcases List.mem_append.1 h with h | h
   ·have := w99 h; omega
   ·rw [List.mem_singleton.1 h]; omega
  ·have := w99 h; omega
theorem w98 : ∀ k, (gr a th k).length <= k
 | 0 => Nat.le_refl _
 | k + 1 => by
  have := w98 k
  unfold gr
  split
  ·simp; omega
  ·omega
theorem x3y {l l' : List Nat} (h : ∀ i, i < a.Records.length -> (i ∈ l ↔ i ∈ l')) : Psb a th l ↔ Psb a th l' := by
 unfold Psb
 exact exists_congr fun w => u3c fun i hi => by unfold c49; rw [decide_eq_decide]; exact h i hi
theorem x0q : Psb a th (List.range a.Records.length) ↔ ∃ w, l18 a th (fun _ => true) ftT w := exists_congr fun w => u3c fun i hi => u3w hi
theorem x0a {k n i : Nat} (hk : k < n) : i ∈ List.range' (k + 1) (n - (k + 1)) ↔ k < i /\ i < n := by
 rw [List.mem_range'_1]; omega
theorem x1i {k n : Nat} (hk : k < n) : List.range' k (n - k) = k :: List.range' (k + 1) (n - (k + 1)) := by
 rw [show n - k = (n - (k + 1)) + 1 by omega, List.range'_succ]
def l39 (a : Accident) (th : Theory) (k : Nat) : List Bool := tab a.Records.length fun j => if j < k then decide (j ∈ gr a th k) else true
theorem x1j (ha : OkA a) (hth : OkT a th) {kp : Kp} {l : List Nat} (hk : ∀ i : Nat, i < a.Records.length -> kp (i : Int) = some (c49 l i)) : ∃ r, x0h a th kp = some r /\ (r.2 = true ↔ Psb a th l) := by
 rcases u9k (keep := c49 l) (ft := ftT) (fp := fun _ _ _ => some true) ha hth hk (fun _ _ _ _ _ _ => rfl) with ⟨w, h1, h2⟩ | ⟨h1, h2⟩
 ·exact ⟨_, h2, fun _ => ⟨w, h1.1⟩, fun _ => rfl⟩
 ·exact ⟨_, h2, (fun h => by cases h), fun ⟨w, h⟩ => absurd h (h1 w)⟩
theorem x1f (ha : OkA a) (hth : OkT a th) : (b0w (w90 a th (tab a.Records.length fun _ => true)) ((tab a.Records.length fun _ => true), [], 0)) = some (toI (gr a th a.Records.length)) := by
 have hn8 := ha.n
 refine b4h (f := w90 a th (tab a.Records.length fun _ => true)) a.Records.length (fun (s : List Bool × List Int) k => (s.1, s.2, k)) (fun k => (l39 a th k, toI (gr a th k))) _ (s0 := ((tab a.Records.length fun _ => true), [])) (by
   show _ = (l39 a th 0, _)
   unfold l39
   congr 1) (fun k hk => ?_) ?_
 ·have hlen : (l39 a th k).length = a.Records.length := b3y
  have hg : get (l39 a th k) (k : Int) = some true := by unfold l39; rw [c2y hk, if_neg (by omega)]
  have hset : List.set (l39 a th k) (Int.toNat (k : Int)) false = tab a.Records.length (c49 (gr a th k ++ List.range' (k + 1) (a.Records.length - (k + 1)))) := by
   unfold l39
   rw [Int.toNat_natCast, d5i]
   refine c1m fun i hi => ?_
   unfold c49
   rw [Bool.eq_iff_iff]
   simp only [decide_eq_true_eq, List.mem_append, x0a hk]
   by_cases e : i = k
   ·subst e
    simp only [if_true, fT9, false_iff, not_or]
    exact ⟨fun h => by have := w99 h; omega, fun h => by omega⟩
   ·rw [if_neg e]
    by_cases h : i < k
    ·rw [if_pos h, decide_eq_true_eq]
     exact ⟨.inl, fun q => by
      rcases q with q | q
      ·exact q
      ·omega⟩
    ·rw [if_neg h]
     exact ⟨fun _ => .inr ⟨by omega, hi⟩, fun _ => rfl⟩
  obtain ⟨r, h1, h2⟩ := x1j (kp := fun z24 => w9y z24 (tab a.Records.length (c49 (gr a th k ++ List.range' (k + 1) (a.Records.length - (k + 1)))))) ha hth (l := gr a th k ++ List.range' (k + 1) (a.Records.length - (k + 1))) (fun i hi => by
   unfold w9y; rw [c2y hi]; rfl)
  unfold w90
  simp only [b3y, Int.ofNat_lt, hk, decide_true, if_true, hg, bS9, hset, h1]
  unfold w95
  have hgk := w98 (a := a) (th := th) k
  rw [b2r hk (c50 hn8)]
  by_cases c : Psb a th (gr a th k ++ List.range' (k + 1) (a.Records.length - (k + 1)))
  ·have e : gr a th (k + 1) = gr a th k ++ [k] := by conv => lhs; unfold gr; rw [if_pos c]
   rw [if_pos (h2.2 c), c2y hk, bS9, b6d (by rw [s95]; omega) (by simp) (by omega), bS9, e]
   congr 3
   ·unfold l39
    rw [Int.toNat_natCast, d5i]
    refine c1m fun i hi => ?_
    unfold c49
    rw [e, Bool.eq_iff_iff]
    by_cases e1 : i = k
    ·subst e1; simp
    ·rw [if_neg e1]
     simp only [decide_eq_true_eq, List.mem_append, x0a hk, List.mem_singleton, e1, or_false]
     by_cases h : i < k + 1
     ·rw [if_pos h, decide_eq_true_eq]
      exact ⟨fun q => by
       rcases q with q | q
       ·exact q
       ·omega, .inl⟩
     ·rw [if_neg h]
      exact ⟨fun _ => rfl, fun _ => .inr ⟨by omega, hi⟩⟩
   ·simp [toI]
  ·have e : gr a th (k + 1) = gr a th k := by conv => lhs; unfold gr; rw [if_neg c]
   rw [if_neg (fun q => c (h2.1 q)), e]
   congr 3
   unfold l39
   refine c1m fun i hi => ?_
   unfold c49
   rw [e, Bool.eq_iff_iff]
   simp only [decide_eq_true_eq, List.mem_append, x0a hk]
   by_cases h : i < k + 1
   ·rw [if_pos h, decide_eq_true_eq]
    exact ⟨fun q => by
     rcases q with q | q
     ·exact q
     ·omega, .inl⟩
   ·rw [if_neg h]
    exact ⟨fun _ => rfl, fun _ => .inr ⟨by omega, hi⟩⟩
 ·unfold w90
  simp only [b3y, Int.lt_irrefl, decide_false, fT9, if_false]
end
section
variable {a : Accident} {th : Theory} (hf : ∀ n ∈ b3g a.Machine, n.size <= maxLen) (hn : a.Records.length <= 10) (hs : c25 a ≠ 0 \/ Small a)
include hf hn hs
end
section
variable [Bd]
end
end
end Go.Nw.AN
namespace Go.Nw
section
variable {π : Type} {From To From' To' : Nat -> Nat} {Al Al' : Nat -> Bool} {hold hold' : Nat -> π -> Nat -> Bool} {st : Nat -> π -> Nat -> π}
theorem v17 {i j : Nat} (h1 : From i = From' j) (h2 : To i = To' j) (h3 : Al i = Al' j) (h4 : ∀ p x, hold i p x = hold' j p x) : ∀ (xs : List Nat) (t : Nat) (b : Bool) (p : π), b69 From To Al hold st i t b p xs ↔ b69 From' To' Al' hold' st j t b p xs
 | [], t, b, p => by unfold b69; rw [h3]
 | x :: xs, t, b, p => by
  unfold b69
  rw [h1, h2, h3, h4, v17 h1 h2 h3 h4 xs, v17 h1 h2 h3 h4 xs]
end
end Go.Nw
namespace Go.Nw.AN
noncomputable section
def b38 (a : Accident) (l : List Nat) : Accident := ⟨a.Machine, a.Assume, a.Ticks, l.map (R a)⟩
section
variable {a : Accident} {th : Theory} {l : List Nat}
theorem x3o {j i : Nat} (h : l[j]? = some i) : R (b38 a l) j = R a i := by
 refine u6j ?_
 show (l.map (R a))[j]? = _
 rw [List.getElem?_map, h]; rfl
theorem x29 {w : List Nat} (hl : ∀ i ∈ l, i < a.Records.length) : l18 (b38 a l) th (fun _ => true) ftT w ↔ l18 a th (c49 l) ftT w := by
 unfold l18 l13
 refine and_congr_right fun _ => and_congr_right fun _ => ?_
 have hlen : (b38 a l).Records.length = l.length := by show (l.map (R a)).length = _; simp
 have key : ∀ j i, l[j]? = some i -> (b69 (fr (b38 a l)) (to (b38 a l)) (al (b38 a l)) (hold (b38 a l)) (stA (b38 a l) th) j 0 false zero w ↔ b69 (fr a) (to a) (al a) (hold a) (stA a th) i 0 false zero w) := fun j i h => by
  have e := x3o (a := a) h
  exact v17 (by unfold fr; rw [e]) (by unfold to; rw [e]) (by unfold al; rw [e]) (fun p x => by unfold hold; rw [e]; rfl) w 0 false zero
 rw [hlen]
 constructor
 ·intro h i hi hk
  obtain ⟨j, hj⟩ := b1d.1 (show i ∈ l by simpa [c49] using hk)
  exact (key j i hj).1 (h j (b1k hj) rfl)
 ·intro h j hj _
  obtain ⟨i, hi⟩ := b3b hj
  have hin := mG9 hi
  exact (key j i hi).2 (h i (hl i hin) (by simp [c49, hin]))
theorem x3p (ha : OkA a) (hl : ∀ i ∈ l, i < a.Records.length) (hn : l.length <= 8) : OkA (b38 a l) := by
 have hr : ∀ r ∈ (b38 a l).Records, r ∈ a.Records := fun r hr => by
  obtain ⟨i, hi, rfl⟩ := List.mem_map.1 (show r ∈ l.map (R a) from hr)
  obtain ⟨r, h1, h2, _⟩ := u2g ha (hl i hi)
  rw [h2]; exact b1d.2 ⟨i, h1⟩
 exact ⟨ha.m, ha.asu, fun r h => ha.rc r (hr r h), ha.t, by show (l.map (R a)).length <= 8; simpa using hn, fun r h => ha.rt r (hr r h)⟩
theorem x3q (ha : OkA a) (hth : OkT a th) (hf : ∀ n ∈ b3g a.Machine, n.size <= maxLen) (hl : ∀ i ∈ l, i < a.Records.length) (hn : l.length <= 8) : ∃ b, u0g (b38 a l) th = some (b, 0) /\ (b = true ↔ Psb a th l) := by
 have hc := x3p ha hl hn
 have hth' : OkT (b38 a l) th := hth
 unfold u0g
 rw [u23 (a := b38 a l) hf (by have := hc.n; omega), u27.2 ⟨hc, hth'⟩, bS9, if_neg (by simp)]
 rcases u4a hc hth' with ⟨w, hw, h3⟩ | ⟨hw, h3⟩
 ·rw [h3]; exact ⟨true, rfl, fun _ => ⟨w, (x29 hl).1 hw.1⟩, fun _ => rfl⟩
 ·rw [h3]; exact ⟨false, rfl, (fun h => by cases h), fun ⟨w, h⟩ => absurd ((x29 hl).2 h) (hw w)⟩
theorem x3i {l l' : List Nat} (h : ∀ i ∈ l', i ∈ l) : Psb a th l -> Psb a th l' := fun ⟨w, h1, h2, h3⟩ =>
 ⟨w, h1, h2, fun i hi hk => h3 i hi (by
  have : i ∈ l' := by simpa [c49] using hk
  simp [c49, h i this])⟩
theorem x3f (h0 : ¬ Psb a th (List.range a.Records.length)) : ∀ k, k <= a.Records.length -> ¬ Psb a th (gr a th k ++ List.range' k (a.Records.length - k))
 | 0, _ => by
  intro h
  refine h0 ((x3y fun i hi => ?_).1 h)
  unfold gr
  rw [List.nil_append, List.mem_range'_1, List.mem_range]; omega
 | k + 1, hk => by
  have ih := x3f h0 k (by omega)
  intro h
  unfold gr at h
  split at h
  ·rename_i c
   refine ih ?_
   rw [x1i (by omega)]
   simpa using h
  ·rename_i c; exact c h
theorem x3e {k n : Nat} (h : k <= n) : ∀ i, i ∈ gr a th n -> i < k -> i ∈ gr a th k := by
 induction n with
 | zero => intro i hi hk; have : k = 0 := by omega
           omega
 | succ n ih =>
  intro i hi hik
  by_cases e : k = n + 1
  ·subst e; exact hi
  ·refine ih (by omega) i ?_ hik
   unfold gr at hi
   split at hi
   ·rcases List.mem_append.1 hi with q | q
    ·exact q
    ·rw [List.mem_singleton.1 q] at hik; omega
   ·exact hi
theorem x3r {j n : Nat} (hn : n = a.Records.length) (hj : j ∈ gr a th n) {l : List Nat} (hl : ∀ i ∈ l, i ∈ gr a th n /\ i ≠ j) : Psb a th l := by
 have hjn := w99 hj
 have h1 : j ∈ gr a th (j + 1) := x3e (by omega) j hj (by omega)
 unfold gr at h1
 split at h1
 ·rename_i c
  refine x3i (fun i hi => ?_) c
  obtain ⟨g1, g2⟩ := hl i hi
  rw [List.mem_append, x0a (by omega)]
  by_cases e : i < j
  ·exact .inl (x3e (by omega) i g1 e)
  ·have := w99 g1
   exact .inr ⟨by omega, by omega⟩
 ·have := w99 h1; omega
theorem x3g : ∀ k, (gr a th k).Pairwise (· < ·)
 | 0 => by unfold gr; exact .nil
 | k + 1 => by
  have ih := x3g k
  unfold gr
  split
  ·rw [List.pairwise_append]
   refine ⟨ih, by simp, fun x hx y hy => ?_⟩
   rw [List.mem_singleton.1 hy]; exact w99 hx
  ·exact ih
def b59 (l : List Nat) (k : Int) : Nat -> List Nat
 | 0 => []
 | n + 1 => if (n : Int) = k then b59 l k n else b59 l k n ++ [l.getD n 0]
theorem v20 {l : List Nat} {k : Int} : ∀ n, (b59 l k n).length <= n
 | 0 => Nat.le_refl _
 | n + 1 => by
  have := v20 (l := l) (k := k) n
  unfold b59; split
  ·omega
  ·simp; omega
theorem x3j {l : List Nat} {k : Int} : ∀ n, n <= l.length -> ∀ i, i ∈ b59 l k n ↔ ∃ j, j < n /\ (j : Int) ≠ k /\ l[j]? = some i
 | 0, _, i => by unfold b59; simp
 | n + 1, hn, i => by
  have ih := x3j (l := l) (k := k) n (by omega) i
  obtain ⟨y, hy⟩ := b3b (show n < l.length by omega)
  have eg : l.getD n 0 = y := by rw [List.getD_eq_getElem?_getD, hy]; rfl
  unfold b59
  split
  ·rename_i e
   rw [ih]
   constructor
   ·rintro ⟨j, h1, h2, h3⟩; exact ⟨j, by omega, h2, h3⟩
   ·rintro ⟨j, h1, h2, h3⟩
    by_cases e2 : j = n
    ·subst e2; exact absurd e h2
    ·exact ⟨j, by omega, h2, h3⟩
  ·rename_i e
   rw [List.mem_append, List.mem_singleton, ih, eg]
   constructor
   ·rintro (⟨j, h1, h2, h3⟩ | rfl)
    ·exact ⟨j, by omega, h2, h3⟩
    ·exact ⟨n, by omega, e, hy⟩
   ·rintro ⟨j, h1, h2, h3⟩
    by_cases e2 : j = n
    ·subst e2; rw [hy] at h3; exact .inr (Option.some.inj h3).symm
    ·exact .inl ⟨j, by omega, h2, h3⟩
theorem x3z (ha : OkA a) (hfa : FewA a) {l : List Nat} (hs : l.Pairwise (· < ·)) (hl : ∀ i ∈ l, i < a.Records.length) (hl8 : l.length <= 8) (k : Int) : c22 a (toI l) k = some (b38 a (b59 l k l.length), true) := by
 have hn8 := ha.n
 unfold c22
 rw [u6e hfa (by omega), bS9]
 rw [b4h (f := l21 a (toI l) k) l.length (fun s k => (s, k)) (fun j => (b59 l k j).map (R a)) (.inl ((b59 l k l.length).map (R a))) (s0 := []) rfl (fun j hj => by
  obtain ⟨i, hi⟩ := b3b hj
  have hin := hl i (mG9 hi)
  obtain ⟨r, hr, hR, _⟩ := u2g ha hin
  have eg : l.getD j 0 = i := by rw [List.getD_eq_getElem?_getD, hi]; rfl
  have hsl := v20 (l := l) (k := k) j
  have hc : (if (decide ((i : Int) < 0)) || (decide ((List.length a.Records : Int) <= (i : Int))) then some true else (if decide (0 < (j : Int)) then (get (toI l) (wr ((j : Int) - 1))).bind fun x15 => some (decide ((i : Int) <= x15)) else some false).bind fun c16 => some c16) = some false := by
   rw [if_neg (by simp; omega)]
   by_cases h0 : 0 < j
   ·obtain ⟨y, hy⟩ := b3b (show j - 1 < l.length by omega)
    have hlt : y < i := by
     have h1 := gS9.1 hy
     have h2 := gS9.1 hi
     obtain ⟨q1, rfl⟩ := h1; obtain ⟨q2, rfl⟩ := h2
     exact List.pairwise_iff_getElem.1 hs (j - 1) j q1 q2 (by omega)
    rw [if_pos (by simpa using h0), b3t (by omega) (by omega), show (j : Int) - 1 = ((j - 1 : Nat) : Int) by omega, u5m hy, bS9, bS9]
    congr 1; rw [decide_eq_false_iff_not]; omega
   ·rw [if_neg (by simpa using h0)]; rfl
  unfold l21
  simp only [s95, Int.ofNat_lt, hj, decide_true, if_true, u5m hi, bS9]
  rw [hc, bS9, if_neg (by simp)]
  unfold l37
  rw [b2r hj (c50 hl8)]
  by_cases e : (j : Int) = k
  ·rw [if_neg (by simpa using e)]
   conv => rhs; unfold b59
   rw [if_pos e]
  ·rw [if_pos (by simpa using e), b1h hr, bS9, b6d (by simp; omega) (by simp) (by omega), bS9]
   conv => rhs; unfold b59
   rw [if_neg e, eg, List.map_append, List.map_singleton, hR]) (by
  unfold l21
  simp only [s95, Int.lt_irrefl, decide_false, fT9, if_false])]
 rfl
theorem x3x {m : Machine} (h : OkM m) (hf : ∀ n ∈ b3g m, n.size <= maxLen) : FewM m := by
 have hz := h.z
 have := hz.i; have := hz.o; have := hz.c; have := hz.s; have := hz.r
 have few : ∀ {α : Type} {l : List α}, l.length <= 100 -> Few l := fun h => by unfold Few; omega
 refine ⟨few (by omega), few (by omega), few (by omega), few (by omega), few (by omega), fun r hr => ?_, hf⟩
 have := h.r r hr
 refine ⟨⟨few ?_, fun t ht => few ?_⟩, few ?_⟩
 ·have := this.w.1; omega
 ·have := (this.w.2 t ht).1; omega
 ·have := this.n; omega
theorem x3w (ha : OkA a) (hf : ∀ n ∈ b3g a.Machine, n.size <= maxLen) : FewA a := by
 have hc : ∀ {c : List (List Literal)}, b2s a.Machine true c -> d02 c := fun h => ⟨by unfold Few; have := h.1; omega, fun t ht => by unfold Few; have := (h.2 t ht).1; omega⟩
 exact ⟨x3x ha.m hf, hc ha.asu, fun r hr => hc (ha.rc r hr)⟩
end
section
variable [Bd]
theorem x3v (a : Accident) (t : Theory) (hm : s9d a) (hc : u1s t) : c18 a t = some true := by
 have hf := u9q hm
 unfold c18
 rcases u6h hf with h | ⟨hn, h, hs⟩
 ·rw [h]; simp [u10]
 rw [h, bS9, if_neg (by simp), u4j hf hn, bS9, bS9]
 by_cases hck : c25 a = 0 /\ l59 a t = true
 case neg =>
  rw [if_pos (by
   by_cases e : c25 a = 0
   ·have : l59 a t = false := by
     cases q : l59 a t with
     | false => rfl
     | true => exact absurd ⟨e, q⟩ hck
    simp [this]
   ·simp [e])]
  simp [u10]
 obtain ⟨he, hth⟩ := hck
 rw [if_neg (by simp [he, hth])]
 have ha := u1v.1 he
 have hB : l17 a t = 0 := u27.2 ⟨ha, hth⟩
 have hs' : Small a := by
  rcases hs with h | h
  ·exact absurd he h
  ·exact h
 have hn8 := ha.n
 have hgl := w98 (a := a) (th := t) a.Records.length
 have hmk : (mks 1 (List.length a.Records : Int) false).bind (fun l10 => (b0w (w9z l10) (l10, 0)).bind fun left_9_0 => w94 a t left_9_0) = some (toI (gr a t a.Records.length), 0) := by
  rw [g1q (by omega) (by omega), bS9]
  rw [b4h (f := w9z (tab a.Records.length fun _ => false)) a.Records.length (fun s k => (s, k)) (fun k => fill a.Records.length (fun _ => true) false k) (tab a.Records.length fun _ => true) (by
    unfold fill; exact c1m fun i hi => by rw [if_neg (by omega)]) (fun k hk => by
    unfold w9z
    simp only [b3y, Int.ofNat_lt, hk, decide_true, if_true, d15 hk, bS9, Int.toNat_natCast]
    rw [c2r rfl, b2r hk (c50 hn8)]) (by
    unfold w9z
    simp only [b3y, Int.lt_irrefl, decide_false, fT9, if_false, d1u (Nat.le_refl _)]), bS9]
  unfold w94
  rw [x1f ha hth]; rfl
 unfold u0g w9x
 rw [u23 hf hn, hB, bS9, bS9, if_neg (by simp), if_neg (by simp)]
 rcases u4a ha hth with ⟨w, hw, h3⟩ | ⟨hw, h3⟩
 ·rw [h3, bS9, bS9, bS9, if_pos rfl, bS9]
  simp [b5c, u10]
 ·have hp : ¬ Psb a t (List.range a.Records.length) := fun h => by
   obtain ⟨w, h⟩ := x0q.1 h
   exact hw w h
  rw [h3, bS9, bS9, bS9, if_neg (by simp), hmk, bS9]
  rw [if_neg (by simp [b5c]), if_neg (by simp)]
  -- each list of records
  have hgn := x3f hp a.Records.length (Nat.le_refl _)
  rw [Nat.sub_self, List.range'_zero, List.append_nil] at hgn
  have hgs := x3g (a := a) (th := t) a.Records.length
  have hgi : ∀ i ∈ gr a t a.Records.length, i < a.Records.length := fun i hi => w99 hi
  have step : ∀ k : Nat, k < (gr a t a.Records.length).length + 1 -> b85 a t (toI (gr a t a.Records.length), 0) ((k : Int) - 1) = some (.nx (((k : Int) + 1) - 1)) := fun k hk => by
   have hlt : ((k : Int) - 1 < (List.length (toI (gr a t a.Records.length)) : Int)) := by rw [s95]; omega
   have hsl := v20 (l := gr a t a.Records.length) (k := (k : Int) - 1) (gr a t a.Records.length).length
   have hsm := x3j (l := gr a t a.Records.length) (k := (k : Int) - 1) (gr a t a.Records.length).length (Nat.le_refl _)
   obtain ⟨b, b1, b2⟩ := x3q (l := b59 (gr a t a.Records.length) ((k : Int) - 1) (gr a t a.Records.length).length) ha hth hf (fun i hi => by
    obtain ⟨j, _, _, h⟩ := (hsm i).1 hi
    exact hgi i (mG9 h)) (by omega)
   unfold b85
   simp only [hlt, decide_true, if_true]
   rw [x3z ha (x3w ha hf) hgs hgi (by omega), bS9, if_neg (by simp)]
   simp only
   rw [b1, bS9]
   have hb : b = decide (0 <= (k : Int) - 1) := by
    rw [Bool.eq_iff_iff, b2, decide_eq_true_eq]
    cases k with
    | zero =>
     refine ⟨fun h => absurd ?_ hgn, fun h => by omega⟩
     refine x3i (fun i hi => ?_) h
     obtain ⟨j, hj⟩ := b1d.1 hi
     exact (hsm i).2 ⟨j, b1k hj, by omega, hj⟩
    | succ k =>
     refine ⟨fun _ => by omega, fun _ => ?_⟩
     obtain ⟨y, hy⟩ := b3b (l := gr a t a.Records.length) (k := k) (by omega)
     refine x3r rfl (mG9 hy) fun i hi => ?_
     obtain ⟨j, j1, j2, j3⟩ := (hsm i).1 hi
     refine ⟨mG9 j3, fun e => ?_⟩
     subst e
     have h1 := gS9.1 hy
     have h2 := gS9.1 j3
     obtain ⟨q1, e1⟩ := h1; obtain ⟨q2, e2⟩ := h2
     rcases Nat.lt_trichotomy j k with hlt | hlt | hlt
     ·have := List.pairwise_iff_getElem.1 hgs j k q2 q1 hlt; omega
     ·omega
     ·have := List.pairwise_iff_getElem.1 hgs k j q1 q2 hlt; omega
   rw [if_neg (by rw [hb]; simp [b5c]), b3t (by omega) (by omega)]
   congr 2; omega
  have := j7z (f := b85 a t (toI (gr a t a.Records.length), 0)) ((gr a t a.Records.length).length + 1) (fun (_ : Unit) (k : Int) => k - 1) (fun _ => ()) (.inl ()) (fun k hk => step k hk) (by
   unfold b85
   rw [s95, if_neg (by simp)])
  have h' : b0w (b85 a t (toI (gr a t a.Records.length), 0)) (-1) = some (.inl ()) := this
  rw [h', bS9]
  unfold l93
  simp [u10]
end
end
end Go.Nw.AN
