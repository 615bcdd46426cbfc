/- Plain laws on the models. -/
import Derived.Test.YtjpgklcdlklhbaaDoorVM
import Derived.Test.YtjpgklcdlklhbaaDoorNwTypes
import Derived.Test.YtjpgklcdlklhbaaDoorNwPlain
set_option linter.all false
namespace Go.Nw.VM
variable [Bd]
theorem p33 {a : AV} (h : Mt (.sl [.i .i64]) a) : ∃ l : List Int, a = .fs 1 (l.map eI) /\ OkL b5k l := by
 obtain ⟨l, rfl, h1, h2⟩ := b8q eI b5k h fun r hr => p36 hr;exact ⟨l, rfl, h1, h2⟩
def z5z (x : Wire) : Prop := b5k x.Kind /\ OkL b5k x.Of
theorem B38 {r : List AV} (h : MtL [.i .i64, .sl [.i .i64]] r) : ∃ x : Wire, r = b11 x /\ z5z x := by
 obtain ⟨a0, r0, rfl, h0, g0⟩ := b3e h;obtain ⟨a1, r1, rfl, h1, g1⟩ := b3e g0;obtain ⟨v0, rfl, k0⟩ := b6n h0;obtain ⟨v1, rfl, k1⟩ := p33 h1;exact ⟨⟨v0, v1⟩, by rw [b6o g1]; rfl, ⟨k0, k1⟩⟩
theorem B3w {a : AV} (h : Mt (.sl [.i .i64, .sl [.i .i64]]) a) : ∃ l : List Wire, a = .fs 2 (l.map b11) /\ OkL z5z l := by
 obtain ⟨l, rfl, h1, h2⟩ := b8q b11 z5z h fun r hr => B38 hr;exact ⟨l, rfl, h1, h2⟩
def x82 (x : Circuit) : Prop := b5k x.Hazards /\ OkL b5k x.Switches /\ OkL z5z x.Wires
def B11 (x : Circuit) : List AV := [I x.Hazards, .fs 1 (List.map eI x.Switches), .fs 2 (List.map b11 x.Wires)]
theorem B36 {r : List AV} (h : MtL [.i .i64, .sl [.i .i64], .sl [.i .i64, .sl [.i .i64]]] r) : ∃ x : Circuit, r = B11 x /\ x82 x := by
 obtain ⟨a0, r0, rfl, h0, g0⟩ := b3e h;obtain ⟨a1, r1, rfl, h1, g1⟩ := b3e g0;obtain ⟨a2, r2, rfl, h2, g2⟩ := b3e g1;obtain ⟨v0, rfl, k0⟩ := b6n h0;obtain ⟨v1, rfl, k1⟩ := p33 h1;obtain ⟨v2, rfl, k2⟩ := B3w h2;exact ⟨⟨v0, v1, v2⟩, by rw [b6o g2]; rfl, ⟨k0, k1, k2⟩⟩
abbrev z86 : List Sh := [.i .i64, .sl [.i .i64], .sl [.i .i64, .sl [.i .i64]]]
theorem B4i {a : AV} (h : MtA (.agg z86) a) : ∃ x : Circuit, a = .agg [I x.Hazards, .fs 1 (List.map eI x.Switches), .fs 2 (List.map b11 x.Wires)] /\ x82 x := by
 obtain ⟨r, rfl, hr⟩ := g1y h;obtain ⟨x, rfl, hx⟩ := B36 hr;exact ⟨x, rfl, hx⟩
def l25 (x : Trial) : Prop := b5k x.Hazards /\ b5k x.Wire
theorem B37 {r : List AV} (h : MtL [.i .i64, .i .i64] r) : ∃ x : Trial, r = b18 x /\ l25 x := by
 obtain ⟨a0, r0, rfl, h0, g0⟩ := b3e h;obtain ⟨a1, r1, rfl, h1, g1⟩ := b3e g0;obtain ⟨v0, rfl, k0⟩ := b6n h0;obtain ⟨v1, rfl, k1⟩ := b6n h1;exact ⟨⟨v0, v1⟩, by rw [b6o g1]; rfl, ⟨k0, k1⟩⟩
theorem B3v {a : AV} (h : Mt (.sl [.i .i64, .i .i64]) a) : ∃ l : List Trial, a = .fs 2 (l.map b18) /\ OkL l25 l := by
 obtain ⟨l, rfl, h1, h2⟩ := b8q b18 l25 h fun r hr => B37 hr;exact ⟨l, rfl, h1, h2⟩
abbrev z87 : Sh := .sl [.i .i64, .i .i64]
theorem B4k {a : AV} (h : MtA (.c z87) a) : ∃ x : List Trial, a = .fs 2 (List.map b18 x) /\ (OkL l25) x := B3v (o9m h)
end Go.Nw.VM
namespace Go.Nw.VM
def z9e (l : List Int) : Prop := l.length <= maxLen /\ ∀ x ∈ l, b5k x
def z9f (w : Wire) : Prop := b5k w.Kind /\ z9e w.Of
def OkC (c : Circuit) : Prop := b5k c.Hazards /\ z9e c.Switches /\ c.Wires.length <= maxLen /\ ∀ w ∈ c.Wires, z9f w
def B0s (t : Trial) : Prop := b5k t.Hazards /\ b5k t.Wire
def z5y (l : List Trial) : Prop := l.length <= maxLen /\ ∀ t ∈ l, B0s t
end Go.Nw.VM
namespace Go.Nw.VM
theorem z95 {x : Int} {n : Nat} (h0 : 0 <= x) (h1 : x < n) (hn : n <= maxLen) : wr (x + 1) = x + 1 :=
 b3t vc9 (by simp only [maxLen] at hn; omega)
theorem z5i {α : Type} [Inhabited α] {l : List α} {x : Int} (h0 : 0 <= x) (h1 : x < l.length) : nth l x ∈ l := by
 have : x.toNat < l.length := by omega
 simp [nth, List.getD, this]
theorem z9g {α : Type} [Inhabited α] {l : List α} {p : α -> Bool} {x : Int} (h0 : 0 <= x) (h1 : x < l.length) (h : (l.take x.toNat).any p = false) (hp : p (nth l x) = false) : (l.take (x + 1).toNat).any p = false := by
 have e : (x + 1).toNat = x.toNat + 1 := by omega
 have hlt : x.toNat < l.length := by omega
 rw [e, List.take_add_one, List.any_append, h];simp [nth, List.getD, hlt] at hp;simp [hlt, hp]
theorem z57 {s : List Int} {f : Int -> Option Bool} {p : Int -> Bool} (hl : s.length <= maxLen) (hf : ∀ x ∈ s, f x = some (p x)) : b45 s f = some (s.any p) := by
 obtain ⟨b, hb, hP⟩ := p69 (f := g3c s f) (fun x => 0 <= x /\ x <= s.length /\ (s.take x.toNat).any p = false) (fun x => (s.length - x).toNat)
  (fun b => match b with | .inl () => s.any p = false | .inr r => 0 <= r /\ s.any p = true) (fun x ⟨h0, h1, h2⟩ => by
   unfold g3c;by_cases hx : x < s.length
   ·have hm := z5i h0 hx
    simp only [hx, decide_true, if_true, c13 h0 hx, bS9, hf _ hm]
    cases hp : p (nth s x) with
    | true => exact .inr ⟨_, rfl, h0, List.any_eq_true.2 ⟨_, hm, hp⟩⟩
    | false =>
     refine .inl ⟨x + 1, by rw [z95 h0 hx hl]; rfl, ⟨by omega, by omega, z9g h0 hx h2 hp⟩, by omega⟩
   ·simp only [hx, decide_false, fT9, if_false];refine .inr ⟨_, rfl, ?_⟩;have : x.toNat = s.length := by omega
    rw [this, List.take_length] at h2
    exact h2) 0 ⟨by omega, by omega, by simp⟩
 unfold b45 d5a;rw [hb]
 cases b with
 | inl u =>
  simp only [bS9, d5b];simp only at hP;rw [hP]; rfl
 | inr r =>
  simp only [bS9];simp only at hP;rw [hP.2]; simp [hP.1]
theorem B10 (a b c : Bool) : z5p [a, b, c] false = some (!(a && b && c)) := by
 obtain ⟨r, hb, hP⟩ := p69 (f := z6s [a, b, c] false) (fun x => 0 <= x /\ x <= 3 /\ ([a, b, c].take x.toNat).any (!·) = false) (fun x => (3 - x).toNat)
  (fun r => match r with | .inl () => [a, b, c].any (!·) = false | .inr r => 0 <= r /\ [a, b, c].any (!·) = true) (fun x ⟨h0, h1, h2⟩ => by
   unfold z6s;have hlen : (List.length [a, b, c] : Int) = 3 := rfl;by_cases hx : x < (List.length [a, b, c] : Int)
   ·have hm := z5i (l := [a, b, c]) h0 hx
    simp only [hx, decide_true, if_true, c13 h0 hx, bS9]
    cases hp : nth [a, b, c] x with
    | false =>
     refine .inr ⟨_, rfl, h0, List.any_eq_true.2 ⟨_, hm, by rw [hp]; rfl⟩⟩
    | true =>
     refine .inl ⟨x + 1, by rw [z95 h0 hx (show 3 <= maxLen by decide)]; rfl, ⟨by omega, by omega, z9g h0 hx h2 (by rw [hp]; rfl)⟩, by omega⟩
   ·simp only [hx, decide_false, fT9, if_false];refine .inr ⟨_, rfl, ?_⟩;have : x.toNat = 3 := by omega
    rw [this] at h2
    exact h2) 0 ⟨by omega, by omega, by simp⟩
 unfold z5p z6r;rw [hb]
 cases r with
 | inl u =>
  simp only [bS9, z6t];simp only at hP;revert hP; cases a <;> cases b <;> cases c <;> decide
 | inr r =>
  simp only [bS9];simp only at hP;obtain ⟨h1, h2⟩ := hP;simp only [h1, decide_true];revert h2; cases a <;> cases b <;> cases c <;> decide
end Go.Nw.VM
namespace Go.Nw.VM
def asc (hi : Int) : List Int -> Int -> Bool
 | [], _ => true
 | x :: r, lo => decide (lo <= x) && decide (x < hi) && asc hi r (x + 1)
theorem z9h {l : List Int} {lo hi : Int} (hl : l.length <= maxLen) (hok : ∀ x ∈ l, b5k x) (hh : hi <= 4611686018427387904) : s77 l lo hi = some (asc hi l lo) := by
 have h := j7v (f := y39 l hi) l (fun (s : Int) k => (s, k)) (fun r s => if asc hi r s then Sum.inl () else Sum.inr false) (fun _ _ => True)
  (fun s k x r hd hg hk hm _ => by
   unfold y39;simp only [hk, decide_true, if_true, hg, bS9];by_cases hc : x < s \/ hi <= x
   ·refine .inr ?_;have : (decide (x < s) || decide (hi <= x)) = true := by simpa using hc
    have h2 : asc hi (x :: r) s = false := by
     simp only [asc];rcases hc with hc | hc
     ·have : ¬ s <= x := by omega
      simp [this]
     ·have : ¬ x < hi := by omega
      simp [this]
    rw [if_pos this, h2]; rfl
   ·have h1 : (decide (x < s) || decide (hi <= x)) = false := by simpa [not_or] using hc
    have hb := hok x hm;refine .inl ⟨x + 1, ?_, trivial, ?_⟩
    ·simp only [h1, fT9, if_false];rw [l23 hk hl, z6x (by unfold b5k at hb; omega) vc9]
    ·have h2 : s <= x := by omega
     have h3 : x < hi := by omega
     simp [asc, h2, h3])
  (fun s _ => by unfold y39; simp [asc]) (s := lo) trivial
 unfold s77;rw [h]
 cases asc hi l lo <;> rfl
theorem z9u {n many : Int} (h0 : 0 <= many) (h1 : many <= 62) : s25 n many = some (decide (0 <= n) && decide (n < 2 ^ many.toNat)) := by
 unfold s25;rw [l5j h0 h1];by_cases h : 0 <= n <;> simp [h]
theorem B3c {c : Circuit} {n : Int} (h0 : 0 <= c.Hazards) (h1 : c.Hazards <= 62) : x63 c n = some (decide (0 <= n) && decide (n < 2 ^ c.Hazards.toNat)) := by
 unfold x63;rw [c9p h0 vc9, l5j h0 h1];obtain ⟨h2, h3⟩ := l3y h1;simp only [bS9, b17];rw [b3t vc9 vc9];have : (n <= 2 ^ c.Hazards.toNat - 1) ↔ (n < 2 ^ c.Hazards.toNat) := by omega
 simp [this]
def inc : List Int -> List Int -> List Int
 | [], h => h
 | y :: r, h => inc r (h.set y.toNat (wr (nth h y + 1)))
theorem z9q : ∀ (l h : List Int), (inc l h).length = h.length
 | [], _ => rfl
 | y :: r, h => by rw [inc, z9q r]; simp
theorem y26 {hi : Int} : ∀ {l : List Int} {lo : Int}, asc hi l lo = true -> ∀ x ∈ l, lo <= x /\ x < hi
 | [], _, _, x, hx => by cases hx
 | y :: r, lo, h, x, hx => by
  simp only [asc, Bool.and_eq_true, decide_eq_true_eq] at h;rcases List.mem_cons.1 hx with rfl | hx
  ·exact h.1
  ·have := y26 h.2 x hx
   omega
theorem B0n {w : Wire} {h : List Int} (hl : w.Of.length <= maxLen) (hr : ∀ x ∈ w.Of, 0 <= x /\ x < h.length) : b0w (s60 w) (h, 0) = some (inc w.Of h) := by
 refine j7v (f := s60 w) w.Of (fun (s : List Int) k => (s, k)) inc (fun _ s => s.length = h.length) (fun s k x r hd hg hk hm hi => ?_) (fun s _ => by unfold s60; simp [inc]) rfl;obtain ⟨h0, h1⟩ := hr x hm;refine .inl ⟨s.set x.toNat (wr (nth s x + 1)), ?_, by simpa using hi, rfl⟩;unfold s60;simp only [hk, decide_true, if_true, hg, bS9, c13 h0 (by rw [hi]; exact h1)];rw [l23 hk hl]
theorem B0p {c : Circuit} {w : Wire} {h : List Int} {lo : Int} (hl : w.Of.length <= maxLen) (hok : ∀ x ∈ w.Of, b5k x) (hn : (c.Wires.length : Int) <= 1000) (hh : h.length = c.Wires.length) (hlo : 0 <= lo /\ lo < c.Wires.length) :
  b0w (x38 c w) (h, lo, 0) = some (if asc c.Wires.length w.Of (lo + 1) then .inl (inc w.Of h) else .inr 30) := by
 refine j7v (f := x38 c w) w.Of (fun (s : List Int × Int) k => (s.1, s.2, k)) (fun r s => if asc c.Wires.length r (s.2 + 1) then .inl (inc r s.1) else .inr 30) (fun _ s => s.1.length = c.Wires.length /\ 0 <= s.2 /\ s.2 < c.Wires.length) (fun s k x r hd hg hk hm hi => ?_) (fun s _ => by unfold x38; simp [inc, asc]) (s := (h, lo)) ⟨hh, hlo⟩;obtain ⟨s, last⟩ := s;obtain ⟨i1, i2, i3⟩ := hi;simp only at i1 i2 i3;have hb := hok x hm;unfold x38;simp only [hk, decide_true, if_true, hg, bS9, b17];rw [z6x (x := last) vc9 vc9, b3t (n := (c.Wires.length : Int) - 1) vc9 vc9];by_cases hc : last + 1 <= x /\ x <= (c.Wires.length : Int) - 1
 ·obtain ⟨c1, c2⟩ := hc;have c3 : x < (c.Wires.length : Int) := by omega
  refine .inl ⟨(s.set x.toNat (wr (nth s x + 1)), x), ?_, ⟨by simpa using i1, by simp only; omega, by simp only; omega⟩, ?_⟩
  ·simp only [c1, c2, decide_true, Bool.and_self, Bool.not_true, fT9, if_false, c13 (l := s) (i := x) vc9 vc9, bS9];rw [l23 hk hl]
  ·simp [asc, c1, c3, inc]
 ·refine .inr ?_
  have e : (decide (last + 1 <= x) && decide (x <= (c.Wires.length : Int) - 1)) = false := by
   simp only [Bool.and_eq_false_iff, decide_eq_false_iff_not]; omega
  have e2 : asc c.Wires.length (x :: r) (last + 1) = false := by
   have : (decide (last + 1 <= x) && decide (x < (c.Wires.length : Int))) = false := by
    simp only [Bool.and_eq_false_iff, decide_eq_false_iff_not]; omega
   simp only [asc, this, Bool.false_and]
  simp only [e, Bool.not_false, if_true, e2, fT9, if_false]
end Go.Nw.VM
namespace Go.Nw.VM
def okW (c : Circuit) (x : Int) (w : Wire) : Bool :=
 if w.Kind = 1 then decide (w.Of.length = 1) && asc c.Switches.length w.Of 0
 else if w.Kind = 2 \/ w.Kind = 3 then decide (1 <= w.Of.length) && decide (w.Of.length <= 8) && asc c.Wires.length w.Of (x + 1)
 else false
def s32 (w : Wire) (h : List Int) : List Int := if w.Kind = 1 then h else inc w.Of h
def b58 (c : Circuit) (s : List Int × Int) : Out (List Int × Int) (List Int ⊕ Int) :=
 if s.2 < (c.Wires.length : Int) then
  if okW c s.2 (nth c.Wires s.2) then .nx (s32 (nth c.Wires s.2) s.1, s.2 + 1) else .br (.inr 30)
 else .br (.inl s.1)
section
variable {c : Circuit} (hc : OkC c) (hn : c.Wires.length <= 1000) (hs : c.Switches.length <= 1000)
include hc hn hs
theorem z94 {x : Int} (h0 : 0 <= x) (h1 : x < c.Wires.length) : z9f (nth c.Wires x) := hc.2.2.2 _ (z5i h0 h1)
theorem B0o {held : List Int} {x : Int} (h0 : 0 <= x) (hl : held.length = c.Wires.length) : y34 c (held, x) = some (b58 c (held, x)) := by
 unfold y34 b58;by_cases hx : x < (c.Wires.length : Int)
 ·obtain ⟨hk, hol, hof⟩ := z94 hc hn hs h0 hx;simp only [hx, decide_true, if_true, c13 h0 hx, bS9];generalize nth c.Wires x = w at *
  have hw1 : wr (x + 1) = x + 1 := z6x vc9 vc9;by_cases k1 : w.Kind = 1
  ·simp only [k1, decide_true, if_true, okW, s32];by_cases hl1 : w.Of.length = 1
   ·have e : decide (¬ (w.Of.length : Int) = 1) = false := by simp; omega
    simp only [e, fT9, if_false, z9h hol hof (show (c.Switches.length : Int) <= 4611686018427387904 by omega), bS9, hl1, decide_true, Bool.true_and]
    cases asc c.Switches.length w.Of 0 with
    | true => simp [s61, hw1]
    | false => simp
   ·have e : decide (¬ (w.Of.length : Int) = 1) = true := by simp; omega
    simp [e, hl1]
  ·have j51 : ∀ b, s62 c held x w b = if b then some (if decide (1 <= w.Of.length) && decide (w.Of.length <= 8) && asc c.Wires.length w.Of (x + 1) then .nx (inc w.Of held, x + 1) else .br (.inr 30)) else some (.br (.inr 30)) := fun b => by
    unfold s62
    cases b with
    | false => simp
    | true =>
     simp only [if_true];by_cases hlen : 1 <= w.Of.length /\ w.Of.length <= 8
     ·obtain ⟨l1, l2⟩ := hlen;have e : (decide ((w.Of.length : Int) < 1) || decide (8 < (w.Of.length : Int))) = false := by simp; omega
      simp only [e, fT9, if_false, hw1, z9h hol hof (show (c.Wires.length : Int) <= 4611686018427387904 by omega), bS9, l1, l2, decide_true, Bool.true_and]
      cases ha : asc c.Wires.length w.Of (x + 1) with
      | true =>
       have := B0n (w := w) (h := held) hol (fun y hy => by have := y26 ha y hy; omega);simp [this, s61, hw1]
      | false => simp
     ·have e : (decide ((w.Of.length : Int) < 1) || decide (8 < (w.Of.length : Int))) = true := by simp; omega
      have e2 : (decide (1 <= w.Of.length) && decide (w.Of.length <= 8)) = false := by simp only [Bool.and_eq_false_iff, decide_eq_false_iff_not]; omega
      simp [e, e2]
   simp only [k1, decide_false, fT9, if_false, okW, s32, j51];by_cases k2 : w.Kind = 2
   ·simp [k2]
   ·by_cases k3 : w.Kind = 3
    ·simp [k3]
    ·simp [k2, k3]
 ·simp [hx]
theorem B0q {held : List Int} {x : Int} (h0 : 0 <= x) (hl : held.length = c.Wires.length) : z5l c (held, x) = some (b58 c (held, x)) := by
 unfold z5l b58;by_cases hx : x < (c.Wires.length : Int)
 ·obtain ⟨hk, hol, hof⟩ := z94 hc hn hs h0 hx;simp only [hx, decide_true, if_true, c13 h0 hx, bS9];generalize nth c.Wires x = w at *
  have hw1 : wr (x + 1) = x + 1 := z6x vc9 vc9;by_cases k1 : w.Kind = 1
  ·simp only [k1, decide_true, if_true, okW, s32];by_cases hl1 : w.Of.length = 1
   ·have e : decide (¬ (w.Of.length : Int) = 1) = false := by simp; omega
    obtain ⟨y, hy⟩ : ∃ y, w.Of = [y] := List.length_eq_one_iff.1 hl1;have hg : get w.Of 0 = some y := by rw [hy]; rfl
    simp only [e, fT9, if_false, hg, bS9, b17, hl1, decide_true, Bool.true_and];rw [b3t (n := (c.Switches.length : Int) - 1) vc9 vc9]
    have e2 : asc c.Switches.length w.Of 0 = (decide (0 <= y) && decide (y <= (c.Switches.length : Int) - 1)) := by
     have : (y < (c.Switches.length : Int)) ↔ (y <= (c.Switches.length : Int) - 1) := by omega
     rw [hy]; simp [asc, this]
    rw [e2]
    cases (decide (0 <= y) && decide (y <= (c.Switches.length : Int) - 1)) with
    | true => simp [x50, hw1]
    | false => simp
   ·have e : decide (¬ (w.Of.length : Int) = 1) = true := by simp; omega
    simp [e, hl1]
  ·have j36 : ∀ b, x58 c held x w b = if b then some (if decide (1 <= w.Of.length) && decide (w.Of.length <= 8) && asc c.Wires.length w.Of (x + 1) then .nx (inc w.Of held, x + 1) else .br (.inr 30)) else some (.br (.inr 30)) := fun b => by
    unfold x58
    cases b with
    | false => simp
    | true =>
     simp only [if_true, b17];by_cases hlen : 1 <= w.Of.length /\ w.Of.length <= 8
     ·obtain ⟨l1, l2⟩ := hlen;have e : (decide ((1 : Int) <= (w.Of.length : Int)) && decide ((w.Of.length : Int) <= 8)) = true := by simp; omega
      simp only [e, Bool.not_true, fT9, if_false, B0p (c := c) (w := w) (h := held) (lo := x) hol hof vc9 hl ⟨h0, hx⟩, bS9, l1, l2, decide_true, Bool.true_and]
      cases ha : asc c.Wires.length w.Of (x + 1) with
      | true => simp [x50, hw1]
      | false => simp
     ·have e : (decide ((1 : Int) <= (w.Of.length : Int)) && decide ((w.Of.length : Int) <= 8)) = false := by simp only [Bool.and_eq_false_iff, decide_eq_false_iff_not]; omega
      have e2 : (decide (1 <= w.Of.length) && decide (w.Of.length <= 8)) = false := by simp only [Bool.and_eq_false_iff, decide_eq_false_iff_not]; omega
      simp [e, e2]
   simp only [k1, decide_false, fT9, if_false, okW, s32, j36];by_cases k2 : w.Kind = 2
   ·simp [k2]
   ·by_cases k3 : w.Kind = 3
    ·simp [k3]
    ·simp [k2, k3]
 ·simp [hx]
end
end Go.Nw.VM
namespace Go.Nw.VM
theorem z9r : ∀ {l h : List Int}, (∀ y ∈ l, 1 <= y) -> nth (inc l h) 0 = nth h 0
 | [], _, _ => rfl
 | y :: r, h, hy => by
  have h1 := hy y List.mem_cons_self;rw [inc, z9r fun z hz => hy z (List.mem_cons_of_mem _ hz)];have : y.toNat ≠ 0 := by omega
  simp [nth, List.getD, List.getElem?_set, this]
structure Valid (c : Circuit) : Prop where
 hz : 1 <= c.Hazards /\ c.Hazards <= 8
 sw : 1 <= c.Switches.length /\ c.Switches.length <= 12
 wi : 1 <= c.Wires.length /\ c.Wires.length <= 24
 ok : ∀ x : Int, 0 <= x -> x < c.Wires.length -> okW c x (nth c.Wires x) = true
 sws : ∀ n ∈ c.Switches, 0 <= n /\ n < 2 ^ c.Hazards.toNat
def JW (c : Circuit) (s : List Int × Int) : Prop := 0 <= s.2 /\ s.2 <= c.Wires.length /\ s.1.length = c.Wires.length /\ nth s.1 0 = 0 /\ ∀ x : Int, 0 <= x -> x < s.2 -> okW c x (nth c.Wires x) = true
section
variable {c : Circuit} (hc : OkC c) (hn : c.Wires.length <= 1000) (hs : c.Switches.length <= 1000)
theorem z89 {s s' : List Int × Int} (hJ : JW c s) (h : b58 c s = .nx s') : JW c s' /\ s.2 < c.Wires.length /\ s'.2 = s.2 + 1 := by
 obtain ⟨h0, h1, h2, h3, h4⟩ := hJ;unfold b58 at h;split at h
 ·rename_i hx;split at h
  ·rename_i hok
   cases h
   refine ⟨⟨by simp only; omega, by simp only; omega, ?_, ?_, fun x hx0 hx1 => ?_⟩, hx, rfl⟩
   ·simp only [s32]; split
    ·exact h2
    ·rw [z9q]; exact h2
   ·simp only [s32]; split
    ·exact h3
    ·rename_i k1;rw [z9r, h3];intro y hy;simp only [okW, k1, if_false] at hok;split at hok
     ·simp only [Bool.and_eq_true] at hok;have := y26 hok.2 y hy;omega
     ·cases hok
   ·simp only at hx1;by_cases e : x = s.2
    ·rw [e]; exact hok
    ·exact h4 x hx0 vc9
  ·cases h
 ·cases h
theorem B3r {l : List Int} (hJ : JW c (l, 0)) : ∃ b, b0w (fun s => some (b58 c s)) (l, 0) = some b /\ (match b with | .inl h => h.length = c.Wires.length /\ nth h 0 = 0 /\ ∀ x : Int, 0 <= x -> x < c.Wires.length -> okW c x (nth c.Wires x) = true | .inr r => r = 30) := by
 refine p69 (JW c) (fun s => ((c.Wires.length : Int) - s.2).toNat) _ (fun s hJ => ?_) _ hJ
 cases h : b58 c s with
 | nx s' =>
  obtain ⟨h1, h2, h3⟩ := z89 hJ h;exact .inl ⟨s', rfl, h1, by omega⟩
 | br b =>
  refine .inr ⟨b, rfl, ?_⟩;obtain ⟨h0, h1, h2, h3, h4⟩ := hJ;unfold b58 at h;split at h
  ·split at h
   ·cases h
   ·cases h; rfl
  ·cases h
   exact ⟨h2, h3, fun x hx0 hx1 => h4 x hx0 vc9⟩
include hc hn hs in
theorem B3p {l : List Int} (hJ : JW c (l, 0)) : b0w (y34 c) (l, 0) = b0w (fun s => some (b58 c s)) (l, 0) :=
 z9y (JW c) (fun s hs' => by
  have e := B0o hc hn hs (held := s.1) (x := s.2) hs'.1 hs'.2.2.1
  exact ⟨e, fun s' h => by rw [e] at h; exact (z89 hs' (by simpa using h)).1⟩) hJ
include hc hn hs in
theorem B3q {l : List Int} (hJ : JW c (l, 0)) : b0w (z5l c) (l, 0) = b0w (fun s => some (b58 c s)) (l, 0) :=
 z9y (JW c) (fun s hs' => by
  have e := B0q hc hn hs (held := s.1) (x := s.2) hs'.1 hs'.2.2.1
  exact ⟨e, fun s' h => by rw [e] at h; exact (z89 hs' (by simpa using h)).1⟩) hJ
def s78 (h : List Int) : Int := if (h.drop 1).any (fun n => decide (¬ n = 1)) then 30 else 0
theorem B3k {h : List Int} (hl : 1 <= h.length) (hm : h.length <= maxLen) (h0 : nth h 0 = 0) : y38 h = some (s78 h) := by
 unfold y38
 have hsub : sub h 1 (h.length : Int) = some (h.drop 1) := by
  unfold sub;rw [if_pos vc9];simp
 have hx := z57 (s := h.drop 1) (f := fun z30 => some (s49 z30)) (p := fun n => decide (¬ n = 1)) (by simp; omega) (fun x _ => rfl);simp only [c13 (l := h) (i := 0) vc9 vc9, h0, bS9, hsub, hx];unfold s78
 cases (h.drop 1).any (fun n => decide (¬ n = 1)) <;> simp
theorem B3j {h : List Int} (hl : 1 <= h.length) (hm : h.length <= maxLen) : z5n h = some (s78 h) := by
 have := j7w (f := z5m h) h (fun (_ : Unit) k => k) (fun r _ => if r.any (fun n => decide (¬ n = 1)) then Sum.inr (30 : Int) else Sum.inl ()) (fun _ _ => True)
  (fun s k x r hd hg hk hmm _ => by
   unfold z5m;simp only [hk, decide_true, if_true, hg, bS9];by_cases hx : x = 1
   ·refine .inl ⟨(), ?_, trivial, ?_⟩
    ·simp [hx, l23 hk hm]
    ·simp [hx]
   ·refine .inr ?_
    simp [hx])
  (fun s _ => by unfold z5m; simp) (s := ()) 1 hl trivial
 unfold z5n;rw [show ((1 : Nat) : Int) = 1 from rfl] at this;rw [this];unfold s78
 cases (h.drop 1).any (fun n => decide (¬ n = 1)) <;> rfl
end
end Go.Nw.VM
namespace Go.Nw.VM
theorem B3y {n : Nat} : nth (List.replicate n (0 : Int)) 0 = 0 := by
 cases n <;> simp [nth, List.getD, List.replicate]
theorem B0r {c : Circuit} (hl : c.Switches.length <= maxLen) (h0 : 0 <= c.Hazards) (h1 : c.Hazards <= 62) {p : Int -> Bool} (hp : ∀ x, p x = !(decide (0 <= x) && decide (x < 2 ^ c.Hazards.toNat))) :
  b0w (x41 c) 0 = some (if c.Switches.any p then .inr 30 else .inl ()) := by
 have := j7v (f := x41 c) c.Switches (fun (_ : Unit) k => k) (fun r _ => if r.any p then Sum.inr (30 : Int) else Sum.inl ()) (fun _ _ => True)
  (fun s k x r hd hg hk hmm _ => by
   unfold x41;obtain ⟨h2, h3⟩ := l3y h1;simp only [hk, decide_true, if_true, hg, bS9, c9p h0 vc9, l5j h0 h1];rw [b3t (n := 2 ^ c.Hazards.toNat - 1) vc9 vc9];have e : (x <= 2 ^ c.Hazards.toNat - 1) ↔ (x < 2 ^ c.Hazards.toNat) := by omega
   have e2 : (!(b17 x 0 (2 ^ c.Hazards.toNat - 1))) = p x := by rw [hp]; simp only [b17, e]
   rw [e2]
   cases hb : p x with
   | false => exact .inl ⟨(), by simp [l23 hk hl], trivial, by simp [hb]⟩
   | true => exact .inr (by simp [hb]))
  (fun s _ => by unfold x41; simp) (s := ()) trivial
 exact this
theorem B0m {c : Circuit} (hc : OkC c) (hn : c.Wires.length <= 1000) (hs : c.Switches.length <= 1000) :
  ∃ r, b68 c = some r /\ c27 c = some r /\ (r = 0 \/ r = 30) /\ (r = 0 -> Valid c) := by
 unfold b68 c27;rw [B10];by_cases hh : (1 <= c.Hazards /\ c.Hazards <= 8) /\ (1 <= c.Switches.length /\ c.Switches.length <= 12) /\ (1 <= c.Wires.length /\ c.Wires.length <= 24)
 ·obtain ⟨⟨a1, a2⟩, ⟨a3, a4⟩, ⟨a5, a6⟩⟩ := hh;have b3 : (1 : Int) <= (c.Switches.length : Int) := by omega
  have b4 : (c.Switches.length : Int) <= 12 := by omega
  have b5 : (1 : Int) <= (c.Wires.length : Int) := by omega
  have b6 : (c.Wires.length : Int) <= 24 := by omega
  have hsw := z57 (s := c.Switches) (f := fun z13 => s48 z13 c) (p := fun n => !(decide (0 <= n) && decide (n < 2 ^ c.Hazards.toNat))) hc.2.1.1 (fun x _ => by
   unfold s48; rw [z9u vc9 vc9]; rfl)
  have hL8 := B0r (c := c) hc.2.1.1 vc9 vc9 (p := fun n => !(decide (0 <= n) && decide (n < 2 ^ c.Hazards.toNat))) (fun _ => rfl);simp only [a1, a2, b3, b4, b5, b6, decide_true, Bool.and_self, Bool.not_true, fT9, if_false, bS9, hsw, b17, Bool.or_self, hL8]
  cases hany : c.Switches.any (fun n => !(decide (0 <= n) && decide (n < 2 ^ c.Hazards.toNat))) with
  | true => exact ⟨30, by simp, by simp, .inr rfl, fun h => by omega⟩
  | false =>
   simp only [fT9, if_false]
   have hm : mks 8 (c.Wires.length : Int) (0 : Int) = some (List.replicate c.Wires.length 0) := by
    rw [j8b vc9 vc9 vc9]; simp
   unfold z6o;rw [hm];simp only [bS9];have hJ : JW c (List.replicate c.Wires.length 0, 0) := ⟨by simp, by simp, by simp, B3y, fun x h0 h1 => by simp only at h1; omega⟩;rw [B3p hc hn hs hJ, B3q hc hn hs hJ];obtain ⟨b, hb, hP⟩ := B3r (c := c) hJ;rw [hb]
   cases b with
   | inr r =>
    simp only at hP;subst hP;exact ⟨30, rfl, rfl, .inr rfl, fun h => by omega⟩
   | inl h =>
    simp only at hP;obtain ⟨p1, p2, p3⟩ := hP;refine ⟨s78 h, B3k vc9 (by simp only [maxLen]; omega) p2, B3j vc9 (by simp only [maxLen]; omega), ?_, fun _ => ⟨⟨a1, a2⟩, ⟨a3, a4⟩, ⟨a5, a6⟩, p3, fun n hn => ?_⟩⟩
    ·unfold s78; split
     ·exact .inr rfl
     ·exact .inl rfl
    ·have := List.any_eq_false.1 hany n hn
     simpa using this
 ·have e1 : (!((decide (1 <= c.Hazards) && decide (c.Hazards <= 8)) && (decide ((1 : Int) <= (c.Switches.length : Int)) && decide ((c.Switches.length : Int) <= 12)) && (decide ((1 : Int) <= (c.Wires.length : Int)) && decide ((c.Wires.length : Int) <= 24)))) = true := by
   simp only [Bool.not_eq_true', Bool.and_eq_false_iff, decide_eq_false_iff_not]; omega
  have e2 : (((!(b17 c.Hazards 1 8)) || (!(b17 (c.Switches.length : Int) 1 12))) || (!(b17 (c.Wires.length : Int) 1 24))) = true := by
   by_cases g1 : 1 <= c.Hazards /\ c.Hazards <= 8
   ·by_cases g2 : 1 <= c.Switches.length /\ c.Switches.length <= 12
    ·have g3 : ¬ (1 <= c.Wires.length /\ c.Wires.length <= 24) := fun h => hh ⟨g1, g2, h⟩
     have : b17 (c.Wires.length : Int) 1 24 = false := by simp only [b17, Bool.and_eq_false_iff, decide_eq_false_iff_not]; omega
     rw [this]; simp
    ·have : b17 (c.Switches.length : Int) 1 12 = false := by simp only [b17, Bool.and_eq_false_iff, decide_eq_false_iff_not]; omega
     rw [this]; simp
   ·have : b17 c.Hazards 1 8 = false := by simp only [b17, Bool.and_eq_false_iff, decide_eq_false_iff_not]; omega
    rw [this]; simp
  rw [e1, e2];exact ⟨30, rfl, rfl, .inr rfl, fun h => by omega⟩
end Go.Nw.VM
