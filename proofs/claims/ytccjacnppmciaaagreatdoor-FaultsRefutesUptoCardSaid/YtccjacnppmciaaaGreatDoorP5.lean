/- Plain laws on the models. -/
import Derived.Test.YtccjacnppmciaaaGreatDoorAM
import Derived.Test.YtccjacnppmciaaaGreatDoorNwTypes
import Derived.Test.YtccjacnppmciaaaGreatDoorP4
set_option linter.all false
namespace Go.Nw.AM
variable [Bd]
def c68 (x : ByteArray) : Prop := x.size <= Bd.B
theorem l4q {r : List AV} (h : MtL [.s] r) : ∃ x : ByteArray, r = eS x /\ c68 x := by
 obtain ⟨a0, r0, rfl, h0, g0⟩ := b3e h;obtain ⟨v0, rfl, k0⟩ := d4c h0;exact ⟨v0, by rw [b6o g0]; rfl, k0⟩
theorem g1x {a : AV} (h : Mt (.sl [.s]) a) : ∃ l : List ByteArray, a = .fs 1 (l.map eS) /\ OkL c68 l := by
 obtain ⟨l, rfl, h1, h2⟩ := b8q eS c68 h fun r hr => l4q hr;exact ⟨l, rfl, h1, h2⟩
def r8n (x : Counter) : Prop := c68 x.Name /\ b5k x.Max
theorem l4l {r : List AV} (h : MtL [.s, .i .i64] r) : ∃ x : Counter, r = b0o x /\ r8n x := by
 obtain ⟨a0, r0, rfl, h0, g0⟩ := b3e h;obtain ⟨a1, r1, rfl, h1, g1⟩ := b3e g0;obtain ⟨v0, rfl, k0⟩ := d4c h0;obtain ⟨v1, rfl, k1⟩ := b6n h1;exact ⟨⟨v0, v1⟩, by rw [b6o g1]; rfl, ⟨k0, k1⟩⟩
theorem j8e {a : AV} (h : Mt (.sl [.s, .i .i64]) a) : ∃ l : List Counter, a = .fs 2 (l.map b0o) /\ OkL r8n l := by
 obtain ⟨l, rfl, h1, h2⟩ := b8q b0o r8n h fun r hr => l4l hr;exact ⟨l, rfl, h1, h2⟩
def y9d (x : State) : Prop := c68 x.Name /\ b5k x.Shows
theorem l4s {r : List AV} (h : MtL [.s, .i .i64] r) : ∃ x : State, r = b0p x /\ y9d x := by
 obtain ⟨a0, r0, rfl, h0, g0⟩ := b3e h;obtain ⟨a1, r1, rfl, h1, g1⟩ := b3e g0;obtain ⟨v0, rfl, k0⟩ := d4c h0;obtain ⟨v1, rfl, k1⟩ := b6n h1;exact ⟨⟨v0, v1⟩, by rw [b6o g1]; rfl, ⟨k0, k1⟩⟩
theorem j8i {a : AV} (h : Mt (.sl [.s, .i .i64]) a) : ∃ l : List State, a = .fs 2 (l.map b0p) /\ OkL y9d l := by
 obtain ⟨l, rfl, h1, h2⟩ := b8q b0p y9d h fun r hr => l4s hr;exact ⟨l, rfl, h1, h2⟩
def b5x (x : Literal) : Prop := b5k x.Kind /\ b5k x.Number /\ b5k x.Value /\ True
theorem l4n {r : List AV} (h : MtL [.i .i64, .i .i64, .i .i64, .b] r) : ∃ x : Literal, r = b3k x /\ b5x x := by
 obtain ⟨a0, r0, rfl, h0, g0⟩ := b3e h;obtain ⟨a1, r1, rfl, h1, g1⟩ := b3e g0;obtain ⟨a2, r2, rfl, h2, g2⟩ := b3e g1;obtain ⟨a3, r3, rfl, h3, g3⟩ := b3e g2;obtain ⟨v0, rfl, k0⟩ := b6n h0;obtain ⟨v1, rfl, k1⟩ := b6n h1;obtain ⟨v2, rfl, k2⟩ := b6n h2;obtain ⟨v3, rfl, k3⟩ := j8k h3;exact ⟨⟨v0, v1, v2, v3⟩, by rw [b6o g3]; rfl, ⟨k0, k1, k2, k3⟩⟩
theorem j8f {a : AV} (h : Mt (.sl [.i .i64, .i .i64, .i .i64, .b]) a) : ∃ l : List Literal, a = .fs 4 (l.map b3k) /\ OkL b5x l := by
 obtain ⟨l, rfl, h1, h2⟩ := b8q b3k b5x h fun r hr => l4n hr;exact ⟨l, rfl, h1, h2⟩
theorem l4m {r : List AV} (h : MtL [.sl [.i .i64, .i .i64, .i .i64, .b]] r) : ∃ x : List Literal, r = b0t x /\ OkL b5x x := by
 obtain ⟨a0, r0, rfl, h0, g0⟩ := b3e h;obtain ⟨v0, rfl, k0⟩ := j8f h0;exact ⟨v0, by rw [b6o g0]; rfl, k0⟩
theorem d4b {a : AV} (h : Mt (.sl [.sl [.i .i64, .i .i64, .i .i64, .b]]) a) : ∃ l : List (List Literal), a = .fs 1 (l.map b0t) /\ OkL (OkL b5x) l := by
 obtain ⟨l, rfl, h1, h2⟩ := b8q b0t (OkL b5x) h fun r hr => l4m hr;exact ⟨l, rfl, h1, h2⟩
def c52 (x : Set) : Prop := b5k x.Kind /\ b5k x.Counter
theorem l4r {r : List AV} (h : MtL [.i .i64, .i .i64] r) : ∃ x : Set, r = b2o x /\ c52 x := by
 obtain ⟨a0, r0, rfl, h0, g0⟩ := b3e h;obtain ⟨a1, r1, rfl, h1, g1⟩ := b3e g0;obtain ⟨v0, rfl, k0⟩ := b6n h0;obtain ⟨v1, rfl, k1⟩ := b6n h1;exact ⟨⟨v0, v1⟩, by rw [b6o g1]; rfl, ⟨k0, k1⟩⟩
theorem j8h {a : AV} (h : Mt (.sl [.i .i64, .i .i64]) a) : ∃ l : List Set, a = .fs 2 (l.map b2o) /\ OkL c52 l := by
 obtain ⟨l, rfl, h1, h2⟩ := b8q b2o c52 h fun r hr => l4r hr;exact ⟨l, rfl, h1, h2⟩
def y9c (x : Rule) : Prop := b5k x.From /\ b5k x.To /\ OkL (OkL b5x) x.When /\ OkL c52 x.Sets
theorem l4p {r : List AV} (h : MtL [.i .i64, .i .i64, .sl [.sl [.i .i64, .i .i64, .i .i64, .b]], .sl [.i .i64, .i .i64]] r) : ∃ x : Rule, r = b0m x /\ y9c x := by
 obtain ⟨a0, r0, rfl, h0, g0⟩ := b3e h;obtain ⟨a1, r1, rfl, h1, g1⟩ := b3e g0;obtain ⟨a2, r2, rfl, h2, g2⟩ := b3e g1;obtain ⟨a3, r3, rfl, h3, g3⟩ := b3e g2;obtain ⟨v0, rfl, k0⟩ := b6n h0;obtain ⟨v1, rfl, k1⟩ := b6n h1;obtain ⟨v2, rfl, k2⟩ := d4b h2;obtain ⟨v3, rfl, k3⟩ := j8h h3;exact ⟨⟨v0, v1, v2, v3⟩, by rw [b6o g3]; rfl, ⟨k0, k1, k2, k3⟩⟩
theorem j8g {a : AV} (h : Mt (.sl [.i .i64, .i .i64, .sl [.sl [.i .i64, .i .i64, .i .i64, .b]], .sl [.i .i64, .i .i64]]) a) : ∃ l : List Rule, a = .fs 4 (l.map b0m) /\ OkL y9c l := by
 obtain ⟨l, rfl, h1, h2⟩ := b8q b0m y9c h fun r hr => l4p hr;exact ⟨l, rfl, h1, h2⟩
def b9d (x : Machine) : Prop := OkL c68 x.Inputs /\ OkL c68 x.Outputs /\ OkL r8n x.Counters /\ OkL y9d x.States /\ OkL y9c x.Rules
def u1r (x : Record) : Prop := b5k x.From /\ b5k x.To /\ True /\ OkL (OkL b5x) x.Cond
theorem u9e {r : List AV} (h : MtL [.i .i64, .i .i64, .b, .sl [.sl [.i .i64, .i .i64, .i .i64, .b]]] r) : ∃ x : Record, r = b26 x /\ u1r x := by
 obtain ⟨a0, r0, rfl, h0, g0⟩ := b3e h;obtain ⟨a1, r1, rfl, h1, g1⟩ := b3e g0;obtain ⟨a2, r2, rfl, h2, g2⟩ := b3e g1;obtain ⟨a3, r3, rfl, h3, g3⟩ := b3e g2;obtain ⟨v0, rfl, k0⟩ := b6n h0;obtain ⟨v1, rfl, k1⟩ := b6n h1;obtain ⟨v2, rfl, k2⟩ := j8k h2;obtain ⟨v3, rfl, k3⟩ := d4b h3;exact ⟨⟨v0, v1, v2, v3⟩, by rw [b6o g3]; rfl, ⟨k0, k1, k2, k3⟩⟩
theorem u84 {a : AV} (h : Mt (.sl [.i .i64, .i .i64, .b, .sl [.sl [.i .i64, .i .i64, .i .i64, .b]]]) a) : ∃ l : List Record, a = .fs 4 (l.map b26) /\ OkL u1r l := by
 obtain ⟨l, rfl, h1, h2⟩ := b8q b26 u1r h fun r hr => u9e hr;exact ⟨l, rfl, h1, h2⟩
def s9d (x : Accident) : Prop := b9d x.Machine /\ OkL (OkL b5x) x.Assume /\ b5k x.Ticks /\ OkL u1r x.Records
def u7i (x : Accident) : List AV := [.fs 1 (List.map eS x.Machine.Inputs), .fs 1 (List.map eS x.Machine.Outputs), .fs 2 (List.map b0o x.Machine.Counters), .fs 2 (List.map b0p x.Machine.States), .fs 4 (List.map b0m x.Machine.Rules), .fs 1 (List.map b0t x.Assume), I x.Ticks, .fs 4 (List.map b26 x.Records)]
theorem u9d {r : List AV} (h : MtL [.sl [.s], .sl [.s], .sl [.s, .i .i64], .sl [.s, .i .i64], .sl [.i .i64, .i .i64, .sl [.sl [.i .i64, .i .i64, .i .i64, .b]], .sl [.i .i64, .i .i64]], .sl [.sl [.i .i64, .i .i64, .i .i64, .b]], .i .i64, .sl [.i .i64, .i .i64, .b, .sl [.sl [.i .i64, .i .i64, .i .i64, .b]]]] r) : ∃ x : Accident, r = u7i x /\ s9d x := by
 obtain ⟨a0, r0, rfl, h0, g0⟩ := b3e h;obtain ⟨a1, r1, rfl, h1, g1⟩ := b3e g0;obtain ⟨a2, r2, rfl, h2, g2⟩ := b3e g1;obtain ⟨a3, r3, rfl, h3, g3⟩ := b3e g2;obtain ⟨a4, r4, rfl, h4, g4⟩ := b3e g3;obtain ⟨a5, r5, rfl, h5, g5⟩ := b3e g4;obtain ⟨a6, r6, rfl, h6, g6⟩ := b3e g5;obtain ⟨a7, r7, rfl, h7, g7⟩ := b3e g6;obtain ⟨v0, rfl, k0⟩ := g1x h0;obtain ⟨v1, rfl, k1⟩ := g1x h1;obtain ⟨v2, rfl, k2⟩ := j8e h2;obtain ⟨v3, rfl, k3⟩ := j8i h3;obtain ⟨v4, rfl, k4⟩ := j8g h4;obtain ⟨v5, rfl, k5⟩ := d4b h5;obtain ⟨v6, rfl, k6⟩ := b6n h6;obtain ⟨v7, rfl, k7⟩ := u84 h7;exact ⟨⟨⟨v0, v1, v2, v3, v4⟩, v5, v6, v7⟩, by rw [b6o g7]; rfl, ⟨⟨k0, k1, k2, k3, k4⟩, k5, k6, k7⟩⟩
abbrev u4b : List Sh := [.sl [.s], .sl [.s], .sl [.s, .i .i64], .sl [.s, .i .i64], .sl [.i .i64, .i .i64, .sl [.sl [.i .i64, .i .i64, .i .i64, .b]], .sl [.i .i64, .i .i64]], .sl [.sl [.i .i64, .i .i64, .i .i64, .b]], .i .i64, .sl [.i .i64, .i .i64, .b, .sl [.sl [.i .i64, .i .i64, .i .i64, .b]]]]
theorem u9s {a : AV} (h : MtA (.agg u4b) a) : ∃ x : Accident, a = .agg [.fs 1 (List.map eS x.Machine.Inputs), .fs 1 (List.map eS x.Machine.Outputs), .fs 2 (List.map b0o x.Machine.Counters), .fs 2 (List.map b0p x.Machine.States), .fs 4 (List.map b0m x.Machine.Rules), .fs 1 (List.map b0t x.Assume), I x.Ticks, .fs 4 (List.map b26 x.Records)] /\ s9d x := by
 obtain ⟨r, rfl, hr⟩ := g1y h;obtain ⟨x, rfl, hx⟩ := u9d hr;exact ⟨x, rfl, hx⟩
def u1s (x : Theory) : Prop := b5k x.Input /\ b5k x.Value /\ b5k x.From
theorem u9f {r : List AV} (h : MtL [.i .i64, .i .i64, .i .i64] r) : ∃ x : Theory, r = u26 x /\ u1s x := by
 obtain ⟨a0, r0, rfl, h0, g0⟩ := b3e h;obtain ⟨a1, r1, rfl, h1, g1⟩ := b3e g0;obtain ⟨a2, r2, rfl, h2, g2⟩ := b3e g1;obtain ⟨v0, rfl, k0⟩ := b6n h0;obtain ⟨v1, rfl, k1⟩ := b6n h1;obtain ⟨v2, rfl, k2⟩ := b6n h2;exact ⟨⟨v0, v1, v2⟩, by rw [b6o g2]; rfl, ⟨k0, k1, k2⟩⟩
abbrev u4c : List Sh := [.i .i64, .i .i64, .i .i64]
theorem u9t {a : AV} (h : MtA (.agg u4c) a) : ∃ x : Theory, a = .agg [I x.Input, I x.Value, I x.From] /\ u1s x := by
 obtain ⟨r, rfl, hr⟩ := g1y h;obtain ⟨x, rfl, hx⟩ := u9f hr;exact ⟨x, rfl, hx⟩
end Go.Nw.AM
namespace Go.Nw.AM
noncomputable section
theorem u4a {a : Accident} {th : Theory} (ha : OkA a) (hth : OkT a th) : (∃ w, Lst (l18 a th (fun _ => true) ftT) w /\ u0k a th = some (toI w, true)) \/ ((∀ w, ¬ l18 a th (fun _ => true) ftT w) /\ u0k a th = some ([], false)) :=
 u9k (keep := fun _ => true) (ft := ftT) ha hth (fun _ _ => rfl) (fun _ _ _ _ _ _ => rfl)
section
variable {a : Accident} {th : Theory} (hf : ∀ n ∈ b3g a.Machine, n.size <= maxLen) (hn : a.Records.length <= 10) (hs : b40 a ≠ 0 \/ Small a)
include hf hn hs
end
section
variable [Bd]
theorem d5j {c : List (List Literal)} (hB : Bd.B <= 1048576) (h : OkL (OkL b5x) c) : d02 c := ⟨Nat.le_trans h.1 hB, fun t ht => Nat.le_trans (h.2 t ht).1 hB⟩
theorem l5y {m : Machine} (h : b9d m) : ∀ n ∈ b3g m, n.size <= maxLen := by
 obtain ⟨h1, h2, h3, h4, h5⟩ := h;intro n hn;have hB := Bd.le;simp only [b3g, List.mem_append, List.mem_map] at hn;rcases hn with ((hn | hn) | ⟨c, hc, rfl⟩) | ⟨c, hc, rfl⟩
 ·exact Nat.le_trans (h1.2 n hn) hB
 ·exact Nat.le_trans (h2.2 n hn) hB
 ·exact Nat.le_trans (h3.2 c hc).1 hB
 ·exact Nat.le_trans (h4.2 c hc).1 hB
theorem tdm {m : Machine} (hB : Bd.B <= 1048576) (h : b9d m) : FewM m := by
 have hn := l5y h;obtain ⟨h1, h2, h3, h4, h5⟩ := h;exact ⟨Nat.le_trans h1.1 hB, Nat.le_trans h2.1 hB, Nat.le_trans h3.1 hB, Nat.le_trans h4.1 hB, Nat.le_trans h5.1 hB, fun r hr => ⟨d5j hB (h5.2 r hr).2.2.1, Nat.le_trans (h5.2 r hr).2.2.2.1 hB⟩, hn⟩
theorem tda {a : Accident} (hB : Bd.B <= 1048576) (h : s9d a) : FewA a := by
 obtain ⟨h1, h2, h3, h4⟩ := h;exact ⟨tdm hB h1, d5j hB h2, fun r hr => d5j hB (h4.2 r hr).2.2.2⟩
theorem u9q {a : Accident} (h : s9d a) : ∀ n ∈ b3g a.Machine, n.size <= maxLen := l5y h.1
end
end
end Go.Nw.AM
namespace Go.Nw.AM
noncomputable section
def Psb (a : Accident) (th : Theory) (l : List Nat) : Prop := ∃ w, l18 a th (c49 l) ftT w
open Classical in
def gr (a : Accident) (th : Theory) : Nat -> List Nat
 | 0 => []
 | k + 1 => if Psb a th (gr a th k ++ List.range' (k + 1) (a.Records.length - (k + 1))) then gr a th k ++ [k] else gr a th k
section
variable {a : Accident} {th : Theory}
theorem w99 : ∀ {k i : Nat}, i ∈ gr a th k -> i < k
 | k + 1, i, h => by
  unfold gr at h;split at h
  ·rcases List.mem_append.1 h with h | h
   ·have := w99 h; omega
   ·rw [List.mem_singleton.1 h]; omega
  ·have := w99 h; omega
theorem w98 : ∀ k, (gr a th k).length <= k
 | 0 => Nat.le_refl _
 | k + 1 => by
  have := w98 k;unfold gr;split
  ·simp; omega
  ·omega
theorem x0q : Psb a th (List.range a.Records.length) ↔ ∃ w, l18 a th (fun _ => true) ftT w := exists_congr fun w => u3c fun i hi => u3w hi
theorem x0a {k n i : Nat} (hk : k < n) : i ∈ List.range' (k + 1) (n - (k + 1)) ↔ k < i /\ i < n := by
 rw [List.mem_range'_1]; omega
theorem x1i {k n : Nat} (hk : k < n) : List.range' k (n - k) = k :: List.range' (k + 1) (n - (k + 1)) := by
 rw [show n - k = (n - (k + 1)) + 1 by omega, List.range'_succ]
def l39 (a : Accident) (th : Theory) (k : Nat) : List Bool := tab a.Records.length fun j => if j < k then decide (j ∈ gr a th k) else true
theorem x1j (ha : OkA a) (hth : OkT a th) {kp : Kp} {l : List Nat} (hk : ∀ i : Nat, i < a.Records.length -> kp (i : Int) = some (c49 l i)) : ∃ r, x0h a th kp = some r /\ (r.2 = true ↔ Psb a th l) := by
 rcases u9k (keep := c49 l) (ft := ftT) (fp := fun _ _ _ => some true) ha hth hk (fun _ _ _ _ _ _ => rfl) with ⟨w, h1, h2⟩ | ⟨h1, h2⟩
 ·exact ⟨_, h2, fun _ => ⟨w, h1.1⟩, fun _ => rfl⟩
 ·exact ⟨_, h2, (fun h => by cases h), fun ⟨w, h⟩ => absurd h (h1 w)⟩
theorem x1f (ha : OkA a) (hth : OkT a th) : (b0w (w90 a th (tab a.Records.length fun _ => true)) ((tab a.Records.length fun _ => true), [], 0)) = some (toI (gr a th a.Records.length)) := by
 have hn8 := ha.n
 refine b4h (f := w90 a th (tab a.Records.length fun _ => true)) a.Records.length (fun (s : List Bool × List Int) k => (s.1, s.2, k)) (fun k => (l39 a th k, toI (gr a th k))) _ (s0 := ((tab a.Records.length fun _ => true), [])) (by
   show _ = (l39 a th 0, _)
   unfold l39
   congr 1) (fun k hk => ?_) ?_
 ·have hlen : (l39 a th k).length = a.Records.length := b3y
  have hg : get (l39 a th k) (k : Int) = some true := by unfold l39; rw [c2y hk, if_neg (by omega)]
  have hset : List.set (l39 a th k) (Int.toNat (k : Int)) false = tab a.Records.length (c49 (gr a th k ++ List.range' (k + 1) (a.Records.length - (k + 1)))) := by
   unfold l39;rw [Int.toNat_natCast, d5i];refine c1m fun i hi => ?_;unfold c49;rw [Bool.eq_iff_iff];simp only [decide_eq_true_eq, List.mem_append, x0a hk];by_cases e : i = k
   ·subst e;simp only [if_true, fT9, false_iff, not_or];exact ⟨fun h => by have := w99 h; omega, fun h => by omega⟩
   ·rw [if_neg e];by_cases h : i < k
    ·rw [if_pos h, decide_eq_true_eq]
     exact ⟨.inl, fun q => by
      rcases q with q | q
      ·exact q
      ·omega⟩
    ·rw [if_neg h];exact ⟨fun _ => .inr ⟨by omega, hi⟩, fun _ => rfl⟩
  obtain ⟨r, h1, h2⟩ := x1j (kp := fun z24 => w9y z24 (tab a.Records.length (c49 (gr a th k ++ List.range' (k + 1) (a.Records.length - (k + 1)))))) ha hth (l := gr a th k ++ List.range' (k + 1) (a.Records.length - (k + 1))) (fun i hi => by
   unfold w9y; rw [c2y hi]; rfl)
  unfold w90;simp only [b3y, Int.ofNat_lt, hk, decide_true, if_true, hg, bS9, hset, h1];unfold w95;have hgk := w98 (a := a) (th := th) k;rw [b2r hk (c12 hn8)];by_cases c : Psb a th (gr a th k ++ List.range' (k + 1) (a.Records.length - (k + 1)))
  ·have e : gr a th (k + 1) = gr a th k ++ [k] := by conv => lhs; unfold gr; rw [if_pos c]
   rw [if_pos (h2.2 c), c2y hk, bS9, b6d (by rw [s95]; omega) (by simp) (by omega), bS9, e];congr 3
   ·unfold l39;rw [Int.toNat_natCast, d5i];refine c1m fun i hi => ?_;unfold c49;rw [e, Bool.eq_iff_iff];by_cases e1 : i = k
    ·subst e1; simp
    ·rw [if_neg e1];simp only [decide_eq_true_eq, List.mem_append, x0a hk, List.mem_singleton, e1, or_false];by_cases h : i < k + 1
     ·rw [if_pos h, decide_eq_true_eq]
      exact ⟨fun q => by
       rcases q with q | q
       ·exact q
       ·omega, .inl⟩
     ·rw [if_neg h];exact ⟨fun _ => rfl, fun _ => .inr ⟨by omega, hi⟩⟩
   ·simp [toI]
  ·have e : gr a th (k + 1) = gr a th k := by conv => lhs; unfold gr; rw [if_neg c]
   rw [if_neg (fun q => c (h2.1 q)), e];congr 3;unfold l39;refine c1m fun i hi => ?_;unfold c49;rw [e, Bool.eq_iff_iff];simp only [decide_eq_true_eq, List.mem_append, x0a hk];by_cases h : i < k + 1
   ·rw [if_pos h, decide_eq_true_eq]
    exact ⟨fun q => by
     rcases q with q | q
     ·exact q
     ·omega, .inl⟩
   ·rw [if_neg h];exact ⟨fun _ => rfl, fun _ => .inr ⟨by omega, hi⟩⟩
 ·unfold w90;simp only [b3y, Int.lt_irrefl, decide_false, fT9, if_false]
theorem x1k {l r : List Nat} : sub (toI (l ++ r)) 0 (l.length : Int) = some (toI l) := by
 rw [u9o (by omega) (by omega) (by rw [s95]; simp; omega)];simp [toI]
theorem x01 {l r : List Nat} {x : Nat} (h : l.length <= 1000) : sub (toI (l ++ x :: r)) (wr ((l.length : Int) + 1)) (List.length (toI (l ++ x :: r)) : Int) = some (toI r) := by
 rw [b3t (by omega) (by omega), u9o (by omega) (by rw [s95]; simp; omega) (Int.le_refl _)];rw [Int.toNat_natCast, List.take_length, show ((l.length : Int) + 1).toNat = l.length + 1 by omega];unfold toI;rw [<- List.map_drop, show l ++ x :: r = (l ++ [x]) ++ r by simp, List.drop_left' (by simp)]
theorem x1g (hs : Small a) (hth : OkT a th) : b0w (w93 a th) (toI (List.range a.Records.length), 0) = some (toI (gr a th a.Records.length)) := by
 have hn8 := hs.ok.n
 have h0 : ((toI (List.range a.Records.length), (0 : Int)) : List Int × Int) = (fun (_ : Unit) (k : Int) => (toI (gr a th k.toNat ++ List.range' k.toNat (a.Records.length - k.toNat)), ((gr a th k.toNat).length : Int))) () 0 := by
  show _ = (toI (gr a th 0 ++ List.range' 0 (a.Records.length - 0)), ((gr a th 0).length : Int))
  simp [gr, List.range_eq_range']
 rw [h0];refine j7z (f := w93 a th) a.Records.length (fun (_ : Unit) (k : Int) => (toI (gr a th k.toNat ++ List.range' k.toNat (a.Records.length - k.toNat)), ((gr a th k.toNat).length : Int))) (fun _ => ()) _ (fun k hk => ?_) ?_
 ·rw [Int.toNat_natCast, show ((k : Int) + 1).toNat = k + 1 by omega, x1i hk];have hgk := w98 (a := a) (th := th) k
  have hll : (gr a th k ++ List.range' (k + 1) (a.Records.length - (k + 1))).length <= 8 := by
   rw [List.length_append, List.length_range']; omega
  obtain ⟨b, h1, h2⟩ := u89 (l := gr a th k ++ List.range' (k + 1) (a.Records.length - (k + 1))) hs hth (fun i hi => by
   rcases List.mem_append.1 hi with h | h
   ·have := w99 h; omega
   ·rw [x0a hk] at h; exact h.2) hll
  have hlt : ((gr a th k).length : Int) < (List.length (toI (gr a th k ++ k :: List.range' (k + 1) (a.Records.length - (k + 1)))) : Int) := by
   rw [s95, List.length_append, List.length_cons]; omega
  have hap : toI (gr a th k) ++ toI (List.range' (k + 1) (a.Records.length - (k + 1))) = toI (gr a th k ++ List.range' (k + 1) (a.Records.length - (k + 1))) := by simp [toI]
  unfold w93;simp only [hlt, decide_true, if_true]
  rw [x1k, bS9, b6d (by simp) (by rw [s95]; omega) (by omega), bS9, x01 (by omega), bS9, List.nil_append,
   b6d (by rw [s95]; omega) (by rw [s95, List.length_range']; omega) (by omega), bS9, hap, h1, bS9]
  by_cases c : Psb a th (gr a th k ++ List.range' (k + 1) (a.Records.length - (k + 1)))
  ·have e : gr a th (k + 1) = gr a th k ++ [k] := by conv => lhs; unfold gr; rw [if_pos c]
   rw [if_pos (h2.2 c), e, b3t (by omega) (by omega)];simp
  ·have e : gr a th (k + 1) = gr a th k := by conv => lhs; unfold gr; rw [if_neg c]
   rw [if_neg (fun q => c (h2.1 q)), e]
 ·rw [Int.toNat_natCast, Nat.sub_self, List.range'_zero, List.append_nil];unfold w93;simp only [s95, Int.lt_irrefl, decide_false, fT9, if_false]
end
section
variable {a : Accident} {th : Theory} (hf : ∀ n ∈ b3g a.Machine, n.size <= maxLen) (hn : a.Records.length <= 10) (hs : b40 a ≠ 0 \/ Small a)
include hf hn hs
theorem x0u : ∃ r, w9x a th = some r /\ w92 a th = some r /\ r.1.length <= 40 /\ ((c14 a th ≠ 0 /\ r = ([], c14 a th)) \/ (Small a /\ OkT a th /\ ((Psb a th (List.range a.Records.length) /\ r = ([], 3)) \/ (¬ Psb a th (List.range a.Records.length) /\ r = (toI (gr a th a.Records.length), 0))))) := by
 by_cases he : c14 a th = 0
 case neg =>
  unfold w9x w92;rw [u23 hf hn, u24 hf hn, bS9, bS9, if_pos (by simpa using he), if_pos (by simpa using he)]; exact ⟨_, rfl, rfl, by simp, .inl ⟨he, rfl⟩⟩
 obtain ⟨ha, hth⟩ := u27.1 he
 have hs' : Small a := by
  rcases hs with h | h
  ·exact absurd (u1v.2 ha) h
  ·exact h
 have hn8 := ha.n;obtain ⟨b, h1, h2⟩ := u89 (l := List.range a.Records.length) hs' hth (fun i hi => List.mem_range.1 hi) (by rw [List.length_range]; exact hn8);unfold w9x w92;rw [u23 hf hn, u24 hf hn, bS9, bS9, if_neg (by simp [he]), if_neg (by simp [he]), u35 hn, bS9, h1, bS9]
 have hmk : (mks 1 (List.length a.Records : Int) false).bind (fun l10 => (b0w (w9z l10) (l10, 0)).bind fun left_9_0 => w94 a th left_9_0) = some (toI (gr a th a.Records.length), 0) := by
  rw [g1q (by omega) (by omega), bS9]
  rw [b4h (f := w9z (tab a.Records.length fun _ => false)) a.Records.length (fun s k => (s, k)) (fun k => fill a.Records.length (fun _ => true) false k) (tab a.Records.length fun _ => true) (by
    unfold fill; exact c1m fun i hi => by rw [if_neg (by omega)]) (fun k hk => by
    unfold w9z;simp only [b3y, Int.ofNat_lt, hk, decide_true, if_true, d15 hk, bS9, Int.toNat_natCast]
    rw [c2r rfl, b2r hk (c12 hn8)]) (by
    unfold w9z
    simp only [b3y, Int.lt_irrefl, decide_false, fT9, if_false, d1u (Nat.le_refl _)]), bS9]
  unfold w94;rw [x1f ha hth]; rfl
 rcases u4a ha hth with ⟨w, hw, h3⟩ | ⟨hw, h3⟩
 ·have hp : Psb a th (List.range a.Records.length) := x0q.2 ⟨w, hw.1⟩
  rw [h3, bS9, if_pos rfl, if_pos (h2.2 hp)];exact ⟨_, rfl, rfl, by simp, .inr ⟨hs', hth, .inl ⟨hp, rfl⟩⟩⟩
 ·have hp : ¬ Psb a th (List.range a.Records.length) := fun h => by
   obtain ⟨w, h⟩ := x0q.1 h;exact hw w h
  rw [h3, bS9, if_neg (by simp), if_neg (fun q => hp (h2.1 q)), hmk, x1g hs' hth];have := w98 (a := a) (th := th) a.Records.length;exact ⟨_, rfl, rfl, by show (toI _).length <= 40; rw [s95]; omega, .inr ⟨hs', hth, .inr ⟨hp, rfl⟩⟩⟩
end
section
variable [Bd]
theorem x1h (hB : Bd.B <= 1048576) (a : Accident) (t : Theory) (hm : s9d a) (hc : u1s t) : w96 a t = some true := by
 have hf := u9q hm;unfold w96;rcases u6h hf with h | ⟨hn, h, hs⟩
 ·rw [h]; rfl
 rw [h, bS9, if_neg (by simp), u6e (tda hB hm) hn, bS9];obtain ⟨q, h3, h4, h5, _⟩ := x0u (th := t) hf hn hs;rw [h3, h4, bS9, bS9, g25 (c12 h5), bS9];simp [u10]
end
end
end Go.Nw.AM
