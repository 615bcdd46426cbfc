/- Plain laws on the models. -/
import Derived.Test.YtfahaljhgfjooaaDoorP5
import Derived.Test.YtfahaljhgfjooaaDoorKH1
import Derived.Test.YtfahaljhgfjooaaDoorP4
set_option linter.all false
namespace Go.Nw.KM
noncomputable section
abbrev S4 := List control_pair × List (List Int)
def s3p (s : S4) (run : List Int) (x : Nat) (q : control_pair) : S4 := if q ∈ s.1 then s else (s.1 ++ [q], s.2 ++ [run ++ [(x : Int)]])
section
variable (a b : Machine) (c : List (List Literal))
def nx2 (p : control_pair) (x : Nat) : control_pair := ⟨nxt a p.a (idn x), nxt b p.b (idn x)⟩
def s8k (p : control_pair) (run : List Int) : Nat -> S4 -> S4
 | 0, s => s
 | x + 1, s => if b22 a p.a x c = true then s3p (s8k p run x s) run x (nx2 a b p x) else s8k p run x s
def b49 : Nat -> S4
 | 0 => ([⟨zero, zero⟩], [[]])
 | k + 1 => match (b49 k).1[k]?, (b49 k).2[k]? with
  | some p, some r => s8k a b c p r (2 ^ a.Inputs.length) (b49 k)
  | _, _ => b49 k
def r4a (r : List Int) (p : control_pair) : Prop := p2u a c idn r /\ p = ⟨plc a idn zero r r.length, plc b idn zero r r.length⟩
structure G4 (s : S4) : Prop where
 n : s.1.Nodup
 o : ∀ p ∈ s.1, OkP a p.a /\ OkP b p.b
 l : s.2.length = s.1.length
 g : ∀ (k : Nat) p r, s.1[k]? = some p -> s.2[k]? = some r -> r4a a b c r p /\ r.length <= k
end
variable {a b : Machine} {c : List (List Literal)}
theorem r1t {m : Machine} {hd : Nat -> Int} {p : Place} {l : List Int} {x : Int} : ∀ k, k <= l.length -> plc m hd p (l ++ [x]) k = plc m hd p l k
 | 0, _ => rfl
 | k + 1, h => by
  unfold plc;rw [r1t k vh9, List.getD_eq_getElem?_getD, List.getD_eq_getElem?_getD, List.getElem?_append_left vh9]
theorem r25 {m : Machine} {hd : Nat -> Int} {p : Place} {l : List Int} {x : Int} : plc m hd p (l ++ [x]) (l ++ [x]).length = nxt m (plc m hd p l l.length) (hd x.toNat) := by
 rw [List.length_append, List.length_singleton]
 conv => lhs; unfold plc
 rw [r1t _ (Nat.le_refl _), List.getD_eq_getElem?_getD];simp
theorem r3v {m : Machine} {l : List Int} {x : Nat} (h : p2u m c idn l) (hx : x < 2 ^ m.Inputs.length) (ha : b22 m (plc m idn zero l l.length) x c = true) : p2u m c idn (l ++ [(x : Int)]) := fun k y hy => by
 by_cases hk : k < l.length
 ·rw [List.getElem?_append_left hk] at hy;rw [r1t k vh9];exact h k y hy
 ·have := b1k hy
  simp only [List.length_append, List.length_singleton] at this;have e : k = l.length := by omega
  subst e;simp only [List.getElem?_append_right (Nat.le_refl _), Nat.sub_self, List.getElem?_cons_zero, iE9] at hy;subst hy;rw [r1t _ (Nat.le_refl _)];exact ⟨(p3c x hx).2, ha⟩
theorem r3i (ha : OkM a) (hb : OkM b) {s : S4} (h : G4 a b c s) {i x : Nat} {p : control_pair} {r : List Int} (hp : s.1[i]? = some p) (hr : s.2[i]? = some r) (hx : x < 2 ^ a.Inputs.length) (hal : b22 a p.a x c = true) : G4 a b c (s3p s r x (nx2 a b p x)) := by
 unfold s3p;split
 ·exact h
 rename_i hn;have ho := h.o p (b1d.2 ⟨i, hp⟩);obtain ⟨⟨h1, h2⟩, h3⟩ := h.g i p r hp hr;refine ⟨?_, fun q hq => ?_, by simp [h.l], fun k q t hq ht => ?_⟩
 ·rw [List.nodup_append];exact ⟨h.n, by simp, fun u hu v hv e => by simp at hv; subst hv; exact hn (e ▸ hu)⟩
 ·rcases List.mem_append.1 hq with hq | hq
  ·exact h.o q hq
  ·simp at hq; subst hq; exact ⟨s1f ha ho.1 _, s1f hb ho.2 _⟩
 ·by_cases hk : k < s.1.length
  ·rw [List.getElem?_append_left hk] at hq;rw [List.getElem?_append_left (by rw [h.l]; exact hk)] at ht;exact h.g k q t hq ht
  ·have := b1k hq
   simp only [List.length_append, List.length_singleton] at this;have e : k = s.1.length := by omega
   subst e;simp only [List.getElem?_append_right (Nat.le_refl _), Nat.sub_self, List.getElem?_cons_zero, iE9] at hq;rw [<- h.l] at ht;simp only [List.getElem?_append_right (Nat.le_refl _), Nat.sub_self, List.getElem?_cons_zero, iE9] at ht;subst hq; subst ht;have e1 : p.a = plc a idn zero r r.length := by rw [h2]
   have e2 : p.b = plc b idn zero r r.length := by rw [h2]
   refine ⟨⟨r3v h1 hx (by rw [<- e1]; exact hal), ?_⟩, by have := b1k hp; simp; omega⟩;rw [r25, r25, <- e1, <- e2]; rfl
theorem r2m (s : S4) (r : List Int) (x : Nat) (q : control_pair) : s.1 <+: (s3p s r x q).1 /\ s.2 <+: (s3p s r x q).2 := by
 unfold s3p; split
 ·exact ⟨List.prefix_refl _, List.prefix_refl _⟩
 ·exact ⟨List.prefix_append _ _, List.prefix_append _ _⟩
theorem r1e {p : control_pair} {r : List Int} : ∀ (x : Nat) {s : S4}, s.1 <+: (s8k a b c p r x s).1 /\ s.2 <+: (s8k a b c p r x s).2
 | 0, s => ⟨List.prefix_refl _, List.prefix_refl _⟩
 | x + 1, s => by
  have ih := r1e (p := p) (r := r) x (s := s);unfold s8k; split
  ·have := r2m (s8k a b c p r x s) r x (nx2 a b p x)
   exact ⟨ih.1.trans this.1, ih.2.trans this.2⟩
  ·exact ih
theorem r2a (ha : OkM a) (hb : OkM b) {i : Nat} {p : control_pair} {r : List Int} : ∀ (x : Nat) {s : S4}, x <= 2 ^ a.Inputs.length -> G4 a b c s -> s.1[i]? = some p -> s.2[i]? = some r -> G4 a b c (s8k a b c p r x s)
 | 0, s, _, h, _, _ => h
 | x + 1, s, hx, h, hp, hr => by
  have ih := r2a ha hb (p := p) (r := r) x (s := s) vh9 h hp hr;have pre := r1e (a := a) (b := b) (c := c) (p := p) (r := r) x (s := s);unfold s8k; split
  ·rename_i hal;exact r3i ha hb ih (c0r pre.1 hp) (c0r pre.2 hr) vh9 hal
  ·exact ih
theorem r08 (ha : OkM a) (hb : OkM b) : ∀ k, G4 a b c (b49 a b c k)
 | 0 => by
  refine ⟨by simp [b49], fun p hp => by simp [b49] at hp; subst hp; exact ⟨o5b ha, o5b hb⟩, rfl, fun k p r hp hr => ?_⟩
  cases k with
  | zero =>
   simp only [b49, List.getElem?_cons_zero, iE9] at hp hr;subst hp; subst hr;exact ⟨⟨fun k x hx => by simp at hx, rfl⟩, Nat.le_refl _⟩
  | succ k => simp [b49] at hp
 | k + 1 => by
  have ih := r08 ha hb k;unfold b49;split
  ·rename_i p r hp hr; exact r2a ha hb _ (Nat.le_refl _) ih hp hr
  ·exact ih
theorem r21 (k : Nat) : (b49 a b c k).1 <+: (b49 a b c (k + 1)).1 /\ (b49 a b c k).2 <+: (b49 a b c (k + 1)).2 := by
 conv => rhs; rhs; unfold b49
 conv => lhs; rhs; unfold b49
 split
 ·exact r1e _
 ·exact ⟨List.prefix_refl _, List.prefix_refl _⟩
theorem r09 {j k : Nat} (h : j <= k) : (b49 a b c j).1 <+: (b49 a b c k).1 /\ (b49 a b c j).2 <+: (b49 a b c k).2 := by
 induction k with
 | zero =>
  have : j = 0 := by omega
  subst this; exact ⟨List.prefix_refl _, List.prefix_refl _⟩
 | succ k ih =>
  by_cases e : j = k + 1
  ·subst e; exact ⟨List.prefix_refl _, List.prefix_refl _⟩
  ·have := ih vh9; have h1 := r21 (a := a) (b := b) (c := c) k
   exact ⟨this.1.trans h1.1, this.2.trans h1.2⟩
theorem r2o {m : Machine} (hm : OkM m) {p : Place} (hp : OkP m p) : 0 <= p.State /\ p.State < 12 /\ 0 <= p.Values.1 /\ p.Values.1 <= 7 /\ 0 <= p.Values.2 /\ p.Values.2 <= 7 := by
 have hs := hm.z.s;have := hp.s; have := hp.a; have := hp.b; have := b57 hm.c 0; have := b57 hm.c 1
 unfold In at *
 omega
theorem r2h (ha : OkM a) (hb : OkM b) {s : S4} (h : G4 a b c s) : s.1.length <= 589824 := by
 have hc : ∀ p ∈ s.1, _ := fun p hp => And.intro (r2o ha (h.o p hp).1) (r2o hb (h.o p hp).2)
 have h1 := d4k 589824 (s.1.map fun p => (p.a.State * 64 + p.a.Values.1 * 8 + p.a.Values.2).toNat * 768 + (p.b.State * 64 + p.b.Values.1 * 8 + p.b.Values.2).toNat) (l1z h.n fun p hp q hq e => by
   have := hc p hp; have := hc q hq
   obtain ⟨⟨s1, a1, b1⟩, ⟨s2, a2, b2⟩⟩ := p; obtain ⟨⟨s3, a3, b3⟩, ⟨s4, a4, b4⟩⟩ := q;simp only at *
   have e1 : s1 = s3 := by omega
   have e2 : a1 = a3 := by omega
   have e3 : b1 = b3 := by omega
   have e4 : s2 = s4 := by omega
   have e5 : a2 = a4 := by omega
   have e6 : b2 = b4 := by omega
   subst e1; subst e2; subst e3; subst e4; subst e5; subst e6; rfl) (fun x hx => by
   obtain ⟨p, hp, rfl⟩ := List.mem_map.1 hx;have := hc p hp;omega)
 simpa using h1
def r14 (a b : Machine) (c : List (List Literal)) (K : Nat) : Prop := K <= 589824 /\ (∀ k, k < K -> k < (b49 a b c k).1.length) /\ (b49 a b c K).1.length <= K
theorem r4f (ha : OkM a) (hb : OkM b) : ∃ K, r14 a b c K := by
 have hbd : ∀ k, (b49 a b c k).1.length <= 589824 := fun k => r2h ha hb (r08 ha hb k)
 have key : ∀ d, (∃ K, K <= d /\ (∀ k, k < K -> k < (b49 a b c k).1.length) /\ (b49 a b c K).1.length <= K) \/ ∀ k, k <= d -> k < (b49 a b c k).1.length := by
  intro d;induction d with
  | zero =>
   by_cases h : (b49 a b c 0).1.length <= 0
   ·exact .inl ⟨0, Nat.le_refl _, fun k hk => by omega, h⟩
   ·refine .inr fun k hk => ?_;have : k = 0 := by omega
    subst this; omega
  | succ d ih =>
   rcases ih with ⟨K, h1, h2⟩ | h
   ·exact .inl ⟨K, by omega, h2⟩
   ·by_cases h' : (b49 a b c (d + 1)).1.length <= d + 1
    ·exact .inl ⟨d + 1, Nat.le_refl _, fun k hk => h k vh9, h'⟩
    ·refine .inr fun k hk => ?_;by_cases e : k = d + 1
     ·subst e; omega
     ·exact h k vh9
 rcases key 589824 with h | h
 ·exact h
 ·have := h 589824 (Nat.le_refl _); have := hbd 589824; omega
end
end Go.Nw.KM
namespace Go.Nw.KM
noncomputable section
def s3n (l : List control_pair) : List (control_pair × Int) := l.zipIdx.map fun p => (p.1, (p.2 : Int))
theorem r2u (l : List control_pair) : (s3n l).map (·.1) = l := by
 unfold s3n;rw [List.map_map];have : ((fun x : control_pair × Int => x.1) ∘ fun p : control_pair × Nat => (p.1, (p.2 : Int))) = Prod.fst := rfl;rw [this, List.zipIdx_map_fst]
theorem r3x (l : List control_pair) (q : control_pair) : s3n (l ++ [q]) = s3n l ++ [(q, (l.length : Int))] := by
 unfold s3n;rw [List.zipIdx_append];simp
theorem r2t {l : List control_pair} {q : control_pair} : b6m (s3n l) q = true ↔ q ∈ l := by rw [j78, r2u]
theorem r1l {α : Type} {w : Nat} {l m : List α} (hl : l.length <= 600000) (hm : m.length <= 600000) (hb : w <= 64) : ap w l m = some (l ++ m) := b9k (by
 have : (l.length + m.length) * w <= 1200000 * 64 := Nat.mul_le_mul vh9 hb
 omega)
theorem r4b {n : Nat} (h : n <= 600000) : n <= maxLen := by simp only [maxLen]; omega
theorem r3r {l : List Int} (h : l.length <= 600000) : r15 l = some l := by
 cases l with
 | nil => rfl
 | cons x l =>
  unfold r15 r1w;simp only [r1h, bS9, fT9, if_false];rw [r1l vj9 h vh9]; rfl
def sh (m : Machine) (p : Place) : Int := ((m.States[p.State.toNat]?).map (·.Shows)).getD 0
theorem r2i {m : Machine} {p : Place} (hp : OkP m p) : ∃ s, get m.States p.State = some s /\ s.Shows = sh m p := by
 obtain ⟨k, s, hk, hx, hg⟩ := d2l hp.s;refine ⟨s, hg, ?_⟩;unfold sh;rw [hk, Int.toNat_natCast, hx]; rfl
section
variable {a b : Machine} {c : List (List Literal)}
theorem r37 (ha : OkM a) (hb : OkM b) {ins : Bool} (hc : b2s a ins c) {i : Nat} {p : control_pair} {r : List Int} {s : S4} (h : G4 a b c s) (hp : s.1[i]? = some p) (hr : s.2[i]? = some r) :
  b0w (r03 a b c i p ((2 ^ a.Inputs.length : Nat) : Int)) (s.2, s.1, s3n s.1, 0) = some ((s8k a b c p r (2 ^ a.Inputs.length) s).2, (s8k a b c p r (2 ^ a.Inputs.length) s).1, s3n (s8k a b c p r (2 ^ a.Inputs.length) s).1) := by
 have hpow := p2a ha.z;have ho := h.o p (b1d.2 ⟨i, hp⟩);refine b4h (f := r03 a b c i p ((2 ^ a.Inputs.length : Nat) : Int)) (2 ^ a.Inputs.length) (fun (s : S4) k => (s.2, s.1, s3n s.1, k)) (fun k => s8k a b c p r k s) _ (s0 := s) rfl (fun k hk => ?_) ?_
 ·have hg' := r2a ha hb (p := p) (r := r) k vh9 h hp hr
  have hlen := r2h ha hb hg';have hpre := r1e (a := a) (b := b) (c := c) (p := p) (r := r) k (s := s);have hr' := c0r hpre.2 hr;have hrl := (hg'.g i p r (c0r hpre.1 hp) hr').2;have hil := b1k (c0r hpre.1 hp);have hl2 := hg'.l
  conv => rhs; unfold s8k
  unfold r03 r04;simp only [Int.ofNat_lt, hk, decide_true, if_true, show b3h a = ⟨⟨a⟩⟩ from rfl, show b3h b = ⟨⟨b⟩⟩ from rfl, c74, g5i ha.z ho.1.s hc, bS9, b2r hk (b1o vh9)]
  cases hal : b22 a p.a k c with
  | false => simp
  | true =>
   simp only [Bool.not_true, fT9, if_false, if_true];rw [g5u ha ho.1, bS9, g5u hb ho.2, bS9];unfold s3p;by_cases hq : nx2 a b p k ∈ (s8k a b c p r k s).1
   ·rw [if_pos hq, if_neg];rw [show control_pair.mk (nxt a p.a (k : Int)) (nxt b p.b (k : Int)) = nx2 a b p k from rfl, r2t.2 hq]; simp
   ·have hnh : b6m (s3n (s8k a b c p r k s).1) (nx2 a b p k) = false := s33 fun h => hq (r2t.1 h)
    rw [if_neg hq, if_pos (by rw [show control_pair.mk (nxt a p.a (k : Int)) (nxt b p.b (k : Int)) = nx2 a b p k from rfl, hnh]; rfl), r1l vh9 vj9 vh9, bS9, b1h hr', bS9, r3r vh9, bS9, r1l vh9 vj9 vh9, bS9, r1l vh9 vj9 vh9, bS9,
     g1w (by rw [r2u]; exact hq), <- r3x]
    rfl
 ·unfold r03;simp only [Int.lt_irrefl, decide_false, fT9, if_false]
def dif (a b : Machine) (c : List (List Literal)) (K k : Nat) : Bool := decide (sh a ((b49 a b c K).1.getD k ⟨zero, zero⟩).a ≠ sh b ((b49 a b c K).1.getD k ⟨zero, zero⟩).b)
theorem r4e (ha : OkM a) (hb : OkM b) {ins : Bool} (hc : b2s a ins c) {K : Nat} (hK : r14 a b c K) : ∀ d k : Nat, K - k = d -> k <= K -> (∀ j, j < k -> dif a b c K j = false) ->
  b0w (s3v a b c) ((b49 a b c k).2, (b49 a b c k).1, s3n (b49 a b c k).1, (k : Int)) = some (match b5q K (dif a b c K) with | some t => .inr ((b49 a b c K).2.getD t [], false, 0) | none => .inl ()) := by
 obtain ⟨hK0, hK1, hK2⟩ := hK;intro d;induction d with
 | zero =>
  intro k h1 h2 h3;obtain rfl : k = K := by omega
  rw [d72.2 h3];refine b3d ?_;unfold s3v;have : ¬ ((k : Int) < (((b49 a b c k).1.length : Nat) : Int)) := by omega
  simp only [this, decide_false, fT9, if_false]
 | succ d ih =>
  intro k h1 h2 h3;have hkK : k < K := by omega
  have hlt := hK1 k hkK;have hg := r08 (c := c) ha hb k;obtain ⟨p, hp⟩ := b3b hlt;obtain ⟨r, hr⟩ := b3b (l := (b49 a b c k).2) (k := k) (by rw [hg.l]; exact hlt);have ho := hg.o p (b1d.2 ⟨k, hp⟩);have hpK := c0r (r09 (a := a) (b := b) (c := c) (show k <= K by omega)).1 hp;have hrK := c0r (r09 (a := a) (b := b) (c := c) (show k <= K by omega)).2 hr;obtain ⟨s1, g1, e1⟩ := r2i ho.1;obtain ⟨s2, g2, e2⟩ := r2i ho.2;have hd : dif a b c K k = decide (s1.Shows ≠ s2.Shows) := by unfold dif; rw [o8p hpK, e1, e2]
  cases hdk : dif a b c K k with
  | true =>
   rw [j01 hkK hdk h3];refine b3d ?_;rw [hd] at hdk;unfold s3v;simp only [Int.ofNat_lt, hlt, decide_true, if_true, b1h hp, bS9, g1, g2];rw [if_pos hdk, b1h hr, bS9, o8p hrK]
  | false =>
   rw [<- ih (k + 1) vh9 vh9 (fun j hj => by
    by_cases e : j = k
    ·subst e; exact hdk
    ·exact h3 j vh9)]
   rw [hd] at hdk;refine b32 ?_;have hlen := r2h ha hb hg
   have hout : b49 a b c (k + 1) = s8k a b c p r (2 ^ a.Inputs.length) (b49 a b c k) := by
    conv => lhs; unfold b49
    rw [hp, hr]
   unfold s3v r1n;simp only [Int.ofNat_lt, hlt, decide_true, if_true, b1h hp, bS9, g1, g2];rw [if_neg (by rw [hdk]; simp), show b3h a = ⟨⟨a⟩⟩ from rfl];simp only;rw [o82 ha.z, bS9, r37 ha hb hc hg hp hr, bS9];simp only;rw [b2r hkK (r4b vh9), <- hout]; rfl
theorem r3a {l r : List ByteArray} (hl : l.length <= maxLen) : ∃ b : Bool, r1a l r = some b /\ (b = true ↔ l = r) := by
 unfold r1a r1x;by_cases h : (l.length : Int) = (r.length : Int)
 case neg => exact ⟨false, by rw [if_pos (by simpa using h)], by simp; intro e; rw [e] at h; exact h rfl⟩
 rw [if_neg (by simpa using h)];have hlr : l.length = r.length := by omega
 rcases b4j (f := r1k l r) (l := l) (p := fun k x => ¬ r[k]? = some x) (e := .inr false) (u := .inl ()) hl (fun k x hx => by
   have hk := b1k hx;obtain ⟨y, hy⟩ := b3b (l := r) (k := k) vh9;refine ⟨!(decide (x = y)), ?_, by rw [hy, iE9, Bool.not_eq_true', decide_eq_false_iff_not]; exact ⟨fun h e => h e.symm, fun h e => h e.symm⟩⟩;unfold r1k;simp only [Int.ofNat_lt, hk, decide_true, if_true, b1h hx, b1h hy, bS9]) (by unfold r1k; simp only [Int.lt_irrefl, decide_false, fT9, if_false]) with ⟨h1, h2⟩ | ⟨⟨k, x, h1, h2⟩, h3⟩
 ·rw [h2];refine ⟨true, rfl, ?_⟩;simp only [true_iff];apply List.ext_getElem?;intro k;by_cases hk : k < l.length
  ·obtain ⟨x, hx⟩ := b3b hk;rw [hx]; exact (Classical.not_not.1 (h1 k x hx)).symm
  ·rw [List.getElem?_eq_none vh9, List.getElem?_eq_none vh9]
 ·rw [h3];refine ⟨false, rfl, ?_⟩;simp only [fT9, false_iff];intro e; subst e; exact h2 h1
end
end
end Go.Nw.KM
namespace Go.Nw.KM
noncomputable section
structure Ln (L : Nat) (s : S4) : Prop where
 m : ∀ (j j' : Nat) r r', j <= j' -> s.2[j]? = some r -> s.2[j']? = some r' -> r.length <= r'.length
 u : ∀ (j : Nat) r, s.2[j]? = some r -> r.length <= L
section
variable {a b : Machine} {c : List (List Literal)}
def b70 (m : Machine) (l : List Int) : Int := sh m (plc m idn zero l l.length)
end
end
end Go.Nw.KM
namespace Go.Nw.KM
noncomputable section
def shw (m : Machine) (p : Place) : Int := ((m.States[p.State.toNat]?).map (·.Shows)).getD 0
theorem r87 {m : Machine} {p : Place} (hp : OkP m p) : ∃ s, get m.States p.State = some s /\ s.Shows = shw m p := by
 obtain ⟨k, s, hk, hx, hg⟩ := d2l hp.s;refine ⟨s, hg, ?_⟩;unfold shw;rw [hk, Int.toNat_natCast, hx]; rfl
theorem s00 {l r : List Int} (hl : l.length <= maxLen) : ∃ b : Bool, r8k l r = some b /\ (b = true ↔ l = r) := by
 unfold r8k r88;by_cases h : (l.length : Int) = (r.length : Int)
 case neg => exact ⟨false, by rw [if_pos (by simpa using h)], by simp; intro e; rw [e] at h; exact h rfl⟩
 rw [if_neg (by simpa using h)];have hlr : l.length = r.length := by omega
 rcases b4j (f := r8l l r) (l := l) (p := fun k x => ¬ r[k]? = some x) (e := .inr false) (u := .inl ()) hl (fun k x hx => by
   have hk := b1k hx;obtain ⟨y, hy⟩ := b3b (l := r) (k := k) vh9;refine ⟨!(decide (x = y)), ?_, by rw [hy, iE9, Bool.not_eq_true', decide_eq_false_iff_not]; exact ⟨fun h e => h e.symm, fun h e => h e.symm⟩⟩;unfold r8l;simp only [Int.ofNat_lt, hk, decide_true, if_true, b1h hx, b1h hy, bS9];by_cases e : x = y <;> simp [e]) (by unfold r8l; simp only [Int.lt_irrefl, decide_false, fT9, if_false]) with ⟨h1, h2⟩ | ⟨⟨k, x, h1, h2⟩, h3⟩
 ·rw [h2];refine ⟨true, rfl, ?_⟩;simp only [true_iff];apply List.ext_getElem?;intro k;by_cases hk : k < l.length
  ·obtain ⟨x, hx⟩ := b3b hk;rw [hx]; exact (Classical.not_not.1 (h1 k x hx)).symm
  ·rw [List.getElem?_eq_none vh9, List.getElem?_eq_none vh9]
 ·rw [h3];refine ⟨false, rfl, ?_⟩;simp only [fT9, false_iff];intro e; subst e; exact h2 h1
section
variable {n N : Nat} {fol : Nat -> Nat -> Nat} (hn : n <= 768) (hN : N <= 16) (hfol : ∀ i x, i < n -> x < N -> fol i x < n)
include hn hN hfol
theorem s04 {c : Nat -> Int} {keys : List (List Int)} {k : Nat} (hk : k < n) (hkeys : keys.length = n) :
  b0w (r70 (tab n c) (k : Int) (tab N fun x => (fol k x : Int))) (List.set keys k [c k], 0) = some (List.set keys k (s8g N fol c k)) := by
 refine b4h (f := r70 (tab n c) (k : Int) (tab N fun x => (fol k x : Int))) N (fun (s : List (List Int)) j => (s, j)) (fun j => List.set keys k (c k :: tab j fun x => c (fol k x))) _ rfl (fun j hj => ?_) ?_
 ·unfold r70;have e1 : get (tab N fun x => (fol k x : Int)) (j : Int) = some (fol k j : Int) := c2y hj;have e2 : get (List.set keys k (c k :: tab j fun x => c (fol k x))) (k : Int) = some (c k :: tab j fun x => c (fol k x)) := b1h (by rw [List.getElem?_set_self vh9]);have e3 : get (tab n c) (fol k j : Int) = some (c (fol k j)) := c2y (hfol k j hk hj);simp only [b3y, Int.ofNat_lt, hj, decide_true, if_true, e1, e2, e3, bS9];rw [b6d (by simp only [List.length_cons, b3y]; omega) vj9 vh9, bS9, Int.toNat_natCast, List.set_set, b2r hj (b1o vh9), List.cons_append, <- l5w]
 ·unfold r70;simp only [b3y, Int.lt_irrefl, decide_false, fT9, if_false];rfl
theorem s05 {c : Nat -> Int} (w : control_walk) (hw : w.next = tab n fun i => tab N fun x => (fol i x : Int)) :
  b0w (r71 w (tab n c)) (tab n (fun _ => []), 0) = some (tab n (s8g N fol c)) := by
 refine b4h (f := r71 w (tab n c)) n (fun (s : List (List Int)) j => (s, j)) (fun k => fill n (s8g N fol c) [] k) _ (by rw [<- p6y]; exact d1w) (fun k hk => ?_) ?_
 ·unfold r71 r8t;have e1 : get w.next (k : Int) = some (tab N fun x => (fol k x : Int)) := by rw [hw]; exact c2y hk
  have hl : w.next.length = n := by rw [hw, b3y]
  simp only [hl, Int.ofNat_lt, hk, decide_true, if_true, e1, c2y hk, d15 hk, bS9, Int.toNat_natCast];rw [s04 hn hN hfol hk d7z, bS9, c2r rfl, b2r hk (b1o vh9)]
 ·unfold r71;have hl : w.next.length = n := by rw [hw, b3y]
  simp only [hl, Int.lt_irrefl, decide_false, fT9, if_false, d1u (Nat.le_refl _)]
theorem s1x {c : Nat -> Int} {i j : Nat} (hi : i < n) (hj : j < n) : ∃ b : Bool, r7n (i : Int) (tab n (s8g N fol c)) (j : Int) = some b /\ (b = true ↔ s8g N fol c i = s8g N fol c j) := by
 obtain ⟨b, h1, h2⟩ := s00 (l := s8g N fol c i) (r := s8g N fol c j) (by unfold s8g; simp only [List.length_cons, b3y]; exact b1o vh9);refine ⟨b, ?_, h2⟩;unfold r7n;rw [c2y hi, bS9, c2y hj, bS9, h1]; rfl
theorem s1d {c : Nat -> Int} :
  b0w (r72 (tab n (s8g N fol c))) ([], tab n (fun _ => 0), 0) = some ((s8h (s8g N fol c) n).map fun f : Nat => (f : Int), tab n (c30 N fol c)) := by
 refine b4h (f := r72 (tab n (s8g N fol c))) n (fun (s : List Int × List Int) j => (s.1, s.2, j)) (fun k => ((s8h (s8g N fol c) k).map fun f : Nat => (f : Int), fill n (c30 N fol c) 0 k)) _ (s0 := ([], tab n fun _ => 0)) (by
  show _ = (List.map _ (s8h (s8g N fol c) 0), _)
  rw [show s8h (s8g N fol c) 0 = [] from rfl, <- p6y, <- d1w]; rfl) (fun k hk => ?_) ?_
 ·have hlen := r8u (key := s8g N fol c) k
  unfold r72 r8e;simp only [b3y, Int.ofNat_lt, hk, decide_true, if_true]
  rcases j40 (g := d5a ((s8h (s8g N fol c) k).map fun f : Nat => (f : Int)) (fun z33 => r7n z33 (tab n (s8g N fol c)) (k : Int))) (s := (s8h (s8g N fol c) k).map fun f : Nat => (f : Int)) (f := fun z33 => r7n z33 (tab n (s8g N fol c)) (k : Int)) (p := fun x => s8g N fol c x.toNat = s8g N fol c k) rfl (by rw [List.length_map]; exact b1o vh9) (fun x hx => by
    obtain ⟨f, hf, rfl⟩ := List.mem_map.1 hx;have := r73 hf;exact s1x hn hN hfol vh9 hk) with ⟨j, x, h1, h2, h3, h4⟩ | ⟨h1, h2⟩
  ·rw [h4, bS9];rw [if_neg vj9];rw [List.getElem?_map] at h1;obtain ⟨f, hf, rfl⟩ := mE9.1 h1;rw [Int.toNat_natCast] at h2;have hj := b1k hf;have hfm := mG9 hf
   have hcl : c30 N fol c k = (j : Int) := by
    unfold c30;congr 1;unfold cl;rw [List.findIdx_eq hj];refine ⟨by rw [decide_eq_true_eq, (gS9.1 hf).2]; exact h2, fun i hi => decide_eq_false fun he => ?_⟩;have := h3 i (((s8h (s8g N fol c) k)[i] : Nat) : Int) hi (by rw [List.getElem?_map, gG9 vh9]; rfl);rw [Int.toNat_natCast] at this;exact this he
   rw [(r8o (r73 hfm) h2).2, d15 hk, bS9, Int.toNat_natCast, <- hcl, c2r rfl, b2r hk (b1o vh9)]
  ·rw [h2, bS9];rw [if_pos (by decide)]
   have hnew : ∀ f, f < k -> s8g N fol c f ≠ s8g N fol c k := fun f hf e => by
    obtain ⟨g, hg, e1, _⟩ := r7s (key := s8g N fol c) hf;refine h1 (g : Int) (List.mem_map.2 ⟨g, hg, rfl⟩) ?_;rw [Int.toNat_natCast, e1, e]
   obtain ⟨c1, c2⟩ := r8b hnew;have hcl : c30 N fol c k = ((s8h (s8g N fol c) k).length : Int) := by unfold c30; rw [c1]
   rw [b6d (by rw [List.length_map]; omega) vj9 vh9, bS9, d15 hk, bS9, Int.toNat_natCast, List.length_map, <- hcl, c2r rfl, b2r hk (b1o vh9), c2, List.map_append]; rfl
 ·unfold r72;simp only [b3y, Int.lt_irrefl, decide_false, fT9, if_false, d1u (Nat.le_refl _)]
theorem s1m {c : Nat -> Int} {count : Int} (w : control_walk) (hw : w.next = tab n fun i => tab N fun x => (fol i x : Int)) :
  r8d w (tab n c, count) = some (if (s8l n N fol c : Int) = count then .br (tab n (c30 N fol c), 0) else .nx (tab n (c30 N fol c), (s8l n N fol c : Int))) := by
 unfold r8d r8r r8s r8q;simp only [b3y];rw [g1q vh9 vh9, bS9, s05 hn hN hfol w hw, bS9, g1q vh9 vh9, bS9, s1d hn hN hfol, bS9];simp only [List.length_map];unfold s8l;by_cases h : ((s8h (s8g N fol c) n).length : Int) = count
 ·rw [if_pos (by simpa using h), if_pos h]
 ·rw [if_neg (by simpa using h), if_neg h]
end
end
end Go.Nw.KM
namespace Go.Nw.KM
noncomputable section
section
variable {m : Machine} {K : Nat}
def pl (m : Machine) (K : Nat) : List Place := (b0h m [] idn K).1
def s8f (m : Machine) (K : Nat) (i x : Nat) : Nat := (pl m K).idxOf (nxt m ((pl m K).getD i zero) (idn x))
theorem r9n (p : Place) (x : Nat) : b22 m p x [] = true := rfl
variable (hm : OkM m) (hK : End m [] idn K)
include hm hK
theorem r7p : (pl m K).length <= 768 := s1g hm _ _ _
theorem s1i : 0 < (pl m K).length := Nat.lt_of_lt_of_le (by simp [b0h]) (d4g (m := m) (c := []) (hd := idn) (Nat.zero_le K)).length_le
theorem r9f {i x : Nat} (hi : i < (pl m K).length) (hx : x < 2 ^ m.Inputs.length) : nxt m ((pl m K).getD i zero) (idn x) ∈ pl m K := c6w hK i x hi hx (r9n _ _)
theorem r8w (i x : Nat) (hi : i < (pl m K).length) (hx : x < 2 ^ m.Inputs.length) : s8f m K i x < (pl m K).length := List.idxOf_lt_length_iff.2 (r9f hm hK hi hx)
theorem r7m {i : Nat} (hi : i < (pl m K).length) : get (pl m K) (i : Int) = some ((pl m K).getD i zero) /\ OkP m ((pl m K).getD i zero) := by
 obtain ⟨p, hp⟩ := b3b hi;have e : (pl m K).getD i zero = p := by rw [List.getD_eq_getElem?_getD, hp]; rfl
 rw [e];exact ⟨b1h hp, (s3t (c := []) (hd := idn) hm K).o p (b1d.2 ⟨i, hp⟩)⟩
theorem r99 {i x : Nat} (hi : i < (pl m K).length) (hx : x < 2 ^ m.Inputs.length) :
  (c0w m ((pl m K).getD i zero) (x : Int)).bind (fun y => c08 (pl m K) y) = some (s8f m K i x : Int) := by
 have h2 := r7p (m := m) (K := K) hm hK;have h3 := r9f hm hK hi hx;rw [d5u hm (r7m hm hK hi).2, bS9, g0i vh9];unfold idn at h3;rw [if_pos h3]; rfl
theorem s0i {g : r04_graph} (hg : g.places = pl m K) {c : Nat -> Int} {i k : Nat} (hi : i < (pl m K).length) (hk : k < (pl m K).length) :
  b0w (r7q m g (tab (pl m K).length c) (i : Int) (k : Int)) (decide (c i = c k), 0) = some (decide (s8g (2 ^ m.Inputs.length) (s8f m K) c i = s8g (2 ^ m.Inputs.length) (s8f m K) c k)) := by
 have hpow := p2a hm.z
 have hno : ∀ x : Nat, r7q m g (tab (pl m K).length c) (i : Int) (k : Int) (false, (x : Int)) = some (.br false) := fun x => by
  unfold r7q;simp only [b9j hm.z, bS9, Bool.and_false, fT9, if_false]
 have key : ∀ d x : Nat, 2 ^ m.Inputs.length - x = d -> x <= 2 ^ m.Inputs.length ->
   ∃ b : Bool, b0w (r7q m g (tab (pl m K).length c) (i : Int) (k : Int)) (true, (x : Int)) = some b /\ (b = true ↔ ∀ y, x <= y -> y < 2 ^ m.Inputs.length -> c (s8f m K i y) = c (s8f m K k y)) := by
  intro d;induction d with
  | zero =>
   intro x h1 h2;have : x = 2 ^ m.Inputs.length := by omega
   subst this;refine ⟨true, b3d ?_, by simp only [true_iff]; intro y a b; omega⟩;unfold r7q;simp only [b9j hm.z, bS9, Int.lt_irrefl, decide_false, Bool.false_and, fT9, if_false]
  | succ d ih =>
   intro x h1 h2;have hx : x < 2 ^ m.Inputs.length := by omega
   have h3 := r7m hm hK hi;have h4 := r7m hm hK hk;have e1 := r99 hm hK hi hx;have e2 := r99 hm hK hk hx;obtain ⟨y1, a1, a2⟩ := bE9.1 e1;obtain ⟨y2, b1, b2⟩ := bE9.1 e2
   rw [b32 (s' := (decide (c (s8f m K i x) = c (s8f m K k x)), ((x + 1 : Nat) : Int))) (by
    unfold r7q;simp only [b9j hm.z, bS9, Int.ofNat_lt, hx, decide_true, Bool.and_self, if_true, hg, h3.1, h4.1, a1, a2, b1, b2, c2y (r8w hm hK i x hi hx), c2y (r8w hm hK k x hk hx), b2r hx (b1o vh9)]; rfl)]
   by_cases e : c (s8f m K i x) = c (s8f m K k x)
   ·obtain ⟨b, q1, q2⟩ := ih (x + 1) vh9 vh9;rw [decide_eq_true e, q1];refine ⟨b, rfl, q2.trans ⟨fun h y h1 h2 => ?_, fun h y h1 h2 => h y vh9 h2⟩⟩;by_cases e2 : y = x
    ·subst e2; exact e
    ·exact h y vh9 h2
   ·rw [decide_eq_false e, b3d (hno (x + 1))];exact ⟨false, rfl, by simp only [fT9, false_iff]; exact fun h => e (h x (Nat.le_refl _) hx)⟩
 by_cases e : c i = c k
 ·rw [decide_eq_true e];obtain ⟨b, q1, q2⟩ := key _ 0 rfl (Nat.zero_le _);rw [Int.natCast_zero] at q1;rw [q1];congr 1;rw [Bool.eq_iff_iff, q2, decide_eq_true_eq, r74];exact ⟨fun h => ⟨e, fun x hx => h x (Nat.zero_le _) hx⟩, fun h y _ hy => h.2 y hy⟩
 ·rw [decide_eq_false e];have := b3d (f := r7q m g (tab (pl m K).length c) (i : Int) (k : Int)) (hno 0);rw [Int.natCast_zero] at this;rw [this];congr 1;exact (decide_eq_false fun h => e (r74.1 h).1).symm
theorem s1j {g : r04_graph} (hg : g.places = pl m K) {c : Nat -> Int} {i : Nat} (hi : i < (pl m K).length) :
  b0w (r7u m g (tab (pl m K).length c) (i : Int)) ((fill (pl m K).length (c30 (2 ^ m.Inputs.length) (s8f m K) c) 0 i).set i (-1), 0) =
   some ((fill (pl m K).length (c30 (2 ^ m.Inputs.length) (s8f m K) c) 0 i).set i (if ∃ k, k < i /\ s8g (2 ^ m.Inputs.length) (s8f m K) c k = s8g (2 ^ m.Inputs.length) (s8f m K) c i then c30 (2 ^ m.Inputs.length) (s8f m K) c i else -1)) := by
 have hfew := r7p (m := m) (K := K) hm hK
 have hat : ∀ (v : Int) (k : Nat), k < (pl m K).length -> get ((fill (pl m K).length (c30 (2 ^ m.Inputs.length) (s8f m K) c) 0 i).set i v) (k : Int) = some (if k = i then v else if k < i then c30 (2 ^ m.Inputs.length) (s8f m K) c k else 0) := fun v k hk => by
  unfold fill;rw [d5i];exact c2y hk
 have hbr : ∀ (v : Int) (k : Nat), (k = i \/ 0 <= v) -> r7u m g (tab (pl m K).length c) (i : Int) ((fill (pl m K).length (c30 (2 ^ m.Inputs.length) (s8f m K) c) 0 i).set i v, (k : Int)) = some (.br ((fill (pl m K).length (c30 (2 ^ m.Inputs.length) (s8f m K) c) 0 i).set i v)) := fun v k h => by
  unfold r7u;by_cases hk : k < i
  ·have hv : ¬ v < 0 := by omega
   simp only [Int.ofNat_lt, hk, decide_true, if_true, hat v i hi, bS9, hv, decide_false, fT9, if_false]
  ·simp only [Int.ofNat_lt, hk, decide_false, fT9, if_false, bS9]
 have key : ∀ d k : Nat, i - k = d -> k <= i -> (∀ j, j < k -> s8g (2 ^ m.Inputs.length) (s8f m K) c j ≠ s8g (2 ^ m.Inputs.length) (s8f m K) c i) ->
   b0w (r7u m g (tab (pl m K).length c) (i : Int)) ((fill (pl m K).length (c30 (2 ^ m.Inputs.length) (s8f m K) c) 0 i).set i (-1), (k : Int)) =
   some ((fill (pl m K).length (c30 (2 ^ m.Inputs.length) (s8f m K) c) 0 i).set i (if ∃ k, k < i /\ s8g (2 ^ m.Inputs.length) (s8f m K) c k = s8g (2 ^ m.Inputs.length) (s8f m K) c i then c30 (2 ^ m.Inputs.length) (s8f m K) c i else -1)) := by
  intro d;induction d with
  | zero =>
   intro k h1 h2 h3;have : k = i := by omega
   subst this;rw [if_neg fun ⟨j, hj, e⟩ => h3 j hj e];exact b3d (hbr _ _ (.inl rfl))
  | succ d ih =>
   intro k h1 h2 h3;have hk : k < i := by omega
   have hkn : k < (pl m K).length := by omega
   have hal := s0i hm hK hg (c := c) hi hkn;by_cases e : s8g (2 ^ m.Inputs.length) (s8f m K) c i = s8g (2 ^ m.Inputs.length) (s8f m K) c k
   ·have hr : c30 (2 ^ m.Inputs.length) (s8f m K) c k = c30 (2 ^ m.Inputs.length) (s8f m K) c i := r7v.2 e.symm
    have hr0 : 0 <= c30 (2 ^ m.Inputs.length) (s8f m K) c i := by unfold c30; omega
    rw [if_pos ⟨k, hk, e.symm⟩]
    rw [b32 (s' := ((fill (pl m K).length (c30 (2 ^ m.Inputs.length) (s8f m K) c) 0 i).set i (c30 (2 ^ m.Inputs.length) (s8f m K) c i), ((k + 1 : Nat) : Int))) (by
     unfold r7u r9l r85;rw [decide_eq_true e] at hal;have hne : ¬ k = i := by omega
     simp only [Int.ofNat_lt, hk, decide_true, if_true, hat (-1) i hi, hat (-1) k hkn, hne, if_false, bS9, c2y hi, c2y hkn, hal, show ((-1 : Int) < 0) by decide, List.set_set, Int.toNat_natCast, b2r hk (b1o vh9), hr]; rfl)]
    exact b3d (hbr _ _ (.inr hr0))
   ·rw [b32 (s' := ((fill (pl m K).length (c30 (2 ^ m.Inputs.length) (s8f m K) c) 0 i).set i (-1), ((k + 1 : Nat) : Int))) (by
     unfold r7u r9l r85;rw [decide_eq_false e] at hal;simp only [Int.ofNat_lt, hk, decide_true, if_true, hat (-1) i hi, bS9, c2y hi, c2y hkn, hal, show ((-1 : Int) < 0) by decide, fT9, if_false, b2r hk (b1o vh9)]; rfl)]
    exact ih (k + 1) vh9 vh9 fun j hj e2 => by
     by_cases ej : j = k
     ·subst ej; exact e e2.symm
     ·exact h3 j vh9 e2
 have := key _ 0 rfl (Nat.zero_le _) (fun j hj => by omega);rw [Int.natCast_zero] at this;exact this
theorem s1e {g : r04_graph} (hg : g.places = pl m K) {c : Nat -> Int} :
  b0w (r8i m g (tab (pl m K).length c)) (tab (pl m K).length (fun _ => 0), 0, 0) = some (tab (pl m K).length (c30 (2 ^ m.Inputs.length) (s8f m K) c), (s8l (pl m K).length (2 ^ m.Inputs.length) (s8f m K) c : Int)) := by
 have hfew := r7p (m := m) (K := K) hm hK
 refine b4h (f := r8i m g (tab (pl m K).length c)) (pl m K).length (fun (s : List Int × Int) j => (s.1, s.2, j)) (fun k => (fill (pl m K).length (c30 (2 ^ m.Inputs.length) (s8f m K) c) 0 k, ((s8h (s8g (2 ^ m.Inputs.length) (s8f m K) c) k).length : Int))) _ (s0 := (tab (pl m K).length fun _ => 0, 0)) (by
  rw [<- p6y, d1w]; rfl) (fun i hi => ?_) ?_
 ·unfold r8i r93 r9k;have hlen := r8u (key := s8g (2 ^ m.Inputs.length) (s8f m K) c) i;simp only [hg, Int.ofNat_lt, hi, decide_true, if_true, d15 hi, bS9, Int.toNat_natCast];rw [s1j hm hK hg hi, bS9];have hget : ∀ v : Int, get ((fill (pl m K).length (c30 (2 ^ m.Inputs.length) (s8f m K) c) 0 i).set i v) (i : Int) = some v := fun v => b1h (by rw [List.getElem?_set_self (by rw [d7z]; exact hi)]);rw [hget, bS9];by_cases h : ∃ k, k < i /\ s8g (2 ^ m.Inputs.length) (s8f m K) c k = s8g (2 ^ m.Inputs.length) (s8f m K) c i
  ·have hr0 : ¬ c30 (2 ^ m.Inputs.length) (s8f m K) c i < 0 := by unfold c30; omega
   rw [if_pos h];obtain ⟨k, hk, e⟩ := h;rw [if_neg (by simpa using hr0), c2r rfl, b2r hi (b1o vh9), (r8o hk e).2]
  ·rw [if_neg h, if_pos (by decide), List.set_set];obtain ⟨c1, c2⟩ := r8b (key := s8g (2 ^ m.Inputs.length) (s8f m K) c) (k := i) fun f hf e => h ⟨f, hf, e⟩;have hcl : c30 (2 ^ m.Inputs.length) (s8f m K) c i = ((s8h (s8g (2 ^ m.Inputs.length) (s8f m K) c) i).length : Int) := by unfold c30; rw [c1]
   rw [c2r hcl.symm, b2r hi (b1o vh9), b3t vh9 vh9, c2, List.length_append]; rfl
 ·unfold r8i;simp only [hg, Int.lt_irrefl, decide_false, fT9, if_false];rw [d1u (Nat.le_refl _)]; rfl
theorem s1n {g : r04_graph} (hg : g.places = pl m K) {c : Nat -> Int} {count : Int} :
  r84 m g (tab (pl m K).length c, count) = some (if (s8l (pl m K).length (2 ^ m.Inputs.length) (s8f m K) c : Int) = count then .br (tab (pl m K).length (c30 (2 ^ m.Inputs.length) (s8f m K) c), 0) else .nx (tab (pl m K).length (c30 (2 ^ m.Inputs.length) (s8f m K) c), (s8l (pl m K).length (2 ^ m.Inputs.length) (s8f m K) c : Int))) := by
 have hfew := r7p (m := m) (K := K) hm hK;unfold r84 r92 r91;simp only [hg];rw [g1q vh9 vh9, bS9, s1e hm hK hg, bS9];simp only;by_cases h : (s8l (pl m K).length (2 ^ m.Inputs.length) (s8f m K) c : Int) = count
 ·rw [if_pos (by simpa using h), if_pos h]
 ·rw [if_neg (by simpa using h), if_neg h]
end
theorem r95 {n N : Nat} {fol : Nat -> Nat -> Nat} {f : List Int × Int -> Option (Out (List Int × Int) (List Int × Int))} (hn : 0 < n)
  (hf : ∀ (c : Nat -> Int) (count : Int), f (tab n c, count) = some (if (s8l n N fol c : Int) = count then .br (tab n (c30 N fol c), 0) else .nx (tab n (c30 N fol c), (s8l n N fol c : Int))))
  {c0 : Nat -> Int} {z : Int} (hz : z <= 0) {T : Nat} (hT : ∀ t, t < T -> s8l n N fol (s8j N fol c0 t) ≠ s8l n N fol (s8j N fol c0 (t + 1))) (hT2 : s8l n N fol (s8j N fol c0 T) = s8l n N fol (s8j N fol c0 (T + 1))) :
  b0w f (tab n c0, z) = some (tab n (s8j N fol c0 (T + 2)), 0) := by
 have key : ∀ d t, T - t = d -> t <= T -> b0w f (tab n (s8j N fol c0 (t + 1)), (s8l n N fol (s8j N fol c0 t) : Int)) = some (tab n (s8j N fol c0 (T + 2)), 0) := by
  intro d;induction d with
  | zero =>
   intro t h1 h2;have : t = T := by omega
   subst this;refine b3d ?_;rw [hf, if_pos (by rw [hT2])]; rfl
  | succ d ih =>
   intro t h1 h2
   rw [b32 (s' := (tab n (s8j N fol c0 (t + 2)), (s8l n N fol (s8j N fol c0 (t + 1)) : Int))) (by
    rw [hf, if_neg]; rfl;intro e; exact hT t vh9 vh9)]
   exact ih (t + 1) vh9 vh9
 have h0 := s09 (N := N) (fol := fol) c0 hn
 rw [b32 (s' := (tab n (s8j N fol c0 1), (s8l n N fol (s8j N fol c0 0) : Int))) (by
  rw [hf, if_neg]; rfl;omega)]
 exact key _ 0 rfl (Nat.zero_le _)
end
end Go.Nw.KM
namespace Go.Nw.KM
noncomputable section
def s0g (m : Machine) (K T : Nat) (r : List Int) : Prop :=
 r = tab (pl m K).length (s8j (2 ^ m.Inputs.length) (s8f m K) (fun i => shw m ((pl m K).getD i zero)) (T + 2)) /\
 s8l (pl m K).length (2 ^ m.Inputs.length) (s8f m K) (s8j (2 ^ m.Inputs.length) (s8f m K) (fun i => shw m ((pl m K).getD i zero)) T) =
 s8l (pl m K).length (2 ^ m.Inputs.length) (s8f m K) (s8j (2 ^ m.Inputs.length) (s8f m K) (fun i => shw m ((pl m K).getD i zero)) (T + 1))
theorem s1p {m : Machine} {K : Nat} (hK : End m [] idn K) : (b4a m [] idn K).next = tab (pl m K).length fun i => tab (2 ^ m.Inputs.length) fun x => (s8f m K i x : Int) := by
 have hl : (pl m K).length = K := d1q hK;rw [hl];show tab K _ = _
 refine c1m fun i _ => c1m fun x _ => ?_;unfold rv;rw [if_pos (r9n _ _)]; rfl
theorem s0f {m : Machine} (hm : OkM m) (hf : ∀ n ∈ b3g m, n.size <= maxLen) {K : Nat} (hK : End m [] idn K) : ∃ r T, r8c m = some (r, 0) /\ r9z m = some (r, 0) /\ s0g m K T r := by
 obtain ⟨e1, h1, h1'⟩ := g5k hf;obtain ⟨e2, h2, h2'⟩ := d5t hf;have z1 : e1 = 0 := by rcases h1' with ⟨h, _⟩ | ⟨_, h⟩; exact h; exact absurd hm h
 have z2 : e2 = 0 := by rcases h2' with ⟨h, _⟩ | ⟨_, h⟩; exact h; exact absurd hm h
 subst z1 z2;have hfew := r7p (m := m) (K := K) hm hK;have hpos := s1i (m := m) (K := K) hm hK;have hpow := p2a hm.z
 have hcn : b2s m true [] := by
  refine ⟨by simp, fun t ht => by simp at ht⟩
 obtain ⟨T, hT, hT2⟩ := s1a (n := (pl m K).length) (N := 2 ^ m.Inputs.length) (fol := s8f m K) (fun i => shw m ((pl m K).getD i zero));refine ⟨_, T, ?_, ?_, rfl, hT2⟩
 ·unfold r8c;rw [h1, bS9, if_neg vj9, show b3h m = ⟨⟨m⟩⟩ from rfl, d7u (hd := idn) hm hcn (heard := fun z7 => some (b6f z7)) (fun x _ => rfl) hK, bS9];rw [show (b4a m [] idn K).places = pl m K from rfl, g1q vh9 vh9, bS9]
  have first : b0w (r7z m (b4a m [] idn K)) (tab (pl m K).length (fun _ => 0), 0) = some (tab (pl m K).length fun i => shw m ((pl m K).getD i zero)) := by
   refine b4h (f := r7z m (b4a m [] idn K)) (pl m K).length (fun (s : List Int) k => (s, k)) (fun k => fill (pl m K).length (fun i => shw m ((pl m K).getD i zero)) 0 k) _ (by rw [<- p6y]; exact d1w) (fun k hk => ?_) ?_
   ·obtain ⟨q1, q2⟩ := r7m hm hK hk;obtain ⟨s, g1, g2⟩ := r87 q2;unfold r7z;simp only [show (b4a m [] idn K).places = pl m K from rfl, Int.ofNat_lt, hk, decide_true, if_true, q1, g1, d15 hk, bS9, Int.toNat_natCast, b2r hk (b1o vh9)];rw [c2r g2]
   ·unfold r7z;simp only [show (b4a m [] idn K).places = pl m K from rfl, Int.lt_irrefl, decide_false, fT9, if_false, d1u (Nat.le_refl _)]
  rw [first, bS9];unfold r8p;rw [r95 (f := r8d (b4a m [] idn K)) hpos (fun c count => s1m hfew hpow (r8w hm hK) (b4a m [] idn K) (s1p hK)) (Int.le_refl 0) hT hT2]; rfl
 ·unfold r9z;rw [h2, bS9, if_neg vj9, d7v hm hcn (inp := -1) (val := 0) (fun x _ => d9s x) hK, bS9];simp only [show (b0h m [] idn K).1 = pl m K from rfl];rw [g1q vh9 vh9, bS9]
  have first : b0w (r8h m ⟨pl m K, (b0h m [] idn K).2.1, (b0h m [] idn K).2.2⟩) (tab (pl m K).length (fun _ => 0), 0) = some (tab (pl m K).length fun i => shw m ((pl m K).getD i zero)) := by
   refine b4h (f := r8h m ⟨pl m K, (b0h m [] idn K).2.1, (b0h m [] idn K).2.2⟩) (pl m K).length (fun (s : List Int) k => (s, k)) (fun k => fill (pl m K).length (fun i => shw m ((pl m K).getD i zero)) 0 k) _ (by rw [<- p6y]; exact d1w) (fun k hk => ?_) ?_
   ·obtain ⟨q1, q2⟩ := r7m hm hK hk;obtain ⟨s, g1, g2⟩ := r87 q2;unfold r8h;simp only [Int.ofNat_lt, hk, decide_true, if_true, q1, g1, d15 hk, bS9, Int.toNat_natCast, b2r hk (b1o vh9)];rw [c2r g2]
   ·unfold r8h;simp only [Int.lt_irrefl, decide_false, fT9, if_false, d1u (Nat.le_refl _)]
  rw [first, bS9];unfold r90;rw [r95 (f := r84 m ⟨pl m K, (b0h m [] idn K).2.1, (b0h m [] idn K).2.2⟩) hpos (fun c count => s1n hm hK rfl) (by decide) hT hT2]; rfl
theorem s4y {m : Machine} (hf : ∀ n ∈ b3g m, n.size <= maxLen) : ∃ r, r8c m = some r /\ r9z m = some r /\ r.1.length <= 768 := by
 by_cases hm : OkM m
 ·obtain ⟨K, hK⟩ := g2u (c := []) (hd := idn) hm;obtain ⟨r, T, h1, h2, h3⟩ := s0f hm hf hK;refine ⟨_, h1, h2, ?_⟩;rw [h3.1]; simp only [b3y]; exact r7p hm hK
 ·obtain ⟨e1, h1, h1'⟩ := g5k hf;obtain ⟨e2, h2, h2'⟩ := d5t hf
  have z1 : e1 = e2 := by
   rcases h1' with ⟨_, h⟩ | ⟨a, _⟩
   ·exact absurd h hm
   ·rcases h2' with ⟨_, h⟩ | ⟨b, _⟩
    ·exact absurd h hm
    ·rw [a, b]
  have z0 : ¬ e2 = 0 := by
   rcases h2' with ⟨_, h⟩ | ⟨b, _⟩
   ·exact absurd h hm
   ·rw [b]; decide
  subst z1;refine ⟨([], e1), ?_, ?_, by simp⟩
  ·unfold r8c;rw [h1, bS9, if_pos (by simpa using z0)]
  ·unfold r9z;rw [h2, bS9, if_pos (by simpa using z0)]
section
variable {m : Machine} {K T : Nat} (hm : OkM m) (hf : ∀ n ∈ b3g m, n.size <= maxLen) (hK : End m [] idn K)
include hm hf hK
variable {C : Nat -> Int} (hC : ∀ i, 0 <= C i)
include hC
end
section
variable [Bd]
end
end
end Go.Nw.KM
namespace Go.Nw.KM
noncomputable section
def rp (p : control_pair) : r04_pair := ⟨p.a, p.b⟩
theorem s5m {p q : control_pair} : rp p = rp q ↔ p = q := by
 obtain ⟨p1, p2⟩ := p; obtain ⟨q1, q2⟩ := q;simp [rp]
section
variable {a b : Machine} {c : List (List Literal)}
structure D4 (s : S4) (B X : List Int) : Prop where
 b : B.length = s.1.length
 x : X.length = s.1.length
 z : s.2[0]? = some []
 t : ∀ (k : Nat) r, 0 < k -> s.2[k]? = some r -> ∃ (j : Nat) (x : Int) (r' : List Int), j < k /\ B[k]? = some (j : Int) /\ X[k]? = some x /\ s.2[j]? = some r' /\ r = r' ++ [x]
theorem s8q {s : S4} (hg : s.2.length = s.1.length) {B X : List Int} (h : D4 s B X) {i x : Nat} {r : List Int} {q : control_pair} (hr : s.2[i]? = some r) (hq : ¬ q ∈ s.1) :
  D4 (s.1 ++ [q], s.2 ++ [r ++ [(x : Int)]]) (B ++ [(i : Int)]) (X ++ [(x : Int)]) := by
 have hil := b1k hr;refine ⟨by simp [h.b], by simp [h.x], b99 h.z, fun k r' hk hr' => ?_⟩;by_cases e : k < s.2.length
 ·rw [List.getElem?_append_left e] at hr';obtain ⟨j, y, r2, h1, h2, h3, h4, h5⟩ := h.t k r' hk hr';exact ⟨j, y, r2, h1, b99 h2, b99 h3, b99 h4, h5⟩
 ·have := b1k hr'
  simp only [List.length_append, List.length_singleton] at this;have e2 : k = s.2.length := by omega
  subst e2;simp only [List.getElem?_append_right (Nat.le_refl _), Nat.sub_self, List.getElem?_cons_zero, iE9] at hr';refine ⟨i, x, r, hil, ?_, ?_, b99 hr, hr'.symm⟩
  ·rw [hg, <- h.b]; simp
  ·rw [hg, <- h.x]; simp
theorem s5n {s : S4} (hl : s.1.length <= 600000) (hg : s.2.length = s.1.length) {B X : List Int} (h : D4 s B X) {k : Nat} {r : List Int} (hr : s.2[k]? = some r) :
  b4c ⟨[], B, X⟩ (k : Int) = some r := by
 have key : ∀ d k : Nat, k <= d -> ∀ r, s.2[k]? = some r -> r.length <= k /\ ∀ l : List Int, l.length + k <= 600000 -> b0w (b73 ⟨[], B, X⟩) ((k : Int), l) = some (r ++ l) := by
  intro d;induction d with
  | zero =>
   intro k h1 r hr;obtain rfl : k = 0 := by omega
   rw [h.z] at hr; cases hr;refine ⟨Nat.le_refl _, fun l hl => b3d ?_⟩;unfold b73; simp
  | succ d ih =>
   intro k h1 r hr;by_cases hz : k = 0
   ·exact ih k vh9 r hr
   obtain ⟨j, x, r', e1, e2, e3, e4, rfl⟩ := h.t k r vh9 hr;obtain ⟨p1, p2⟩ := ih j vh9 r' e4;refine ⟨by simp; omega, fun l hl => ?_⟩
   have : b0w (b73 ⟨[], B, X⟩) ((k : Int), l) = b0w (b73 ⟨[], B, X⟩) ((j : Int), x :: l) := b32 (by
    unfold b73;have : 0 < (k : Int) := by omega
    simp only [b1h e2, b1h e3, bS9, this, decide_true, if_true];rw [r1l vj9 vh9 vh9, bS9]; rfl)
   rw [this, p2 _ (by simp; omega)]; simp
 obtain ⟨p1, p2⟩ := key k k (Nat.le_refl _) r hr;have := b1k hr;unfold b4c c6e;rw [p2 [] (by simp; omega), bS9, List.append_nil]
theorem s4m {l : List control_pair} (hl : l.length <= maxLen) (y z : Place) :
  b0w (s3z (l.map rp) y z) (true, 0) = some (decide (control_pair.mk y z ∉ l)) := by
 have h0 : (true : Bool) = decide (control_pair.mk y z ∉ l.take 0) := by simp
 refine b4h (f := s3z (l.map rp) y z) l.length (fun (s : Bool) k => (s, k)) (fun k => decide (control_pair.mk y z ∉ l.take k)) _ h0 (fun k hk => ?_) ?_
 ·obtain ⟨p, hp⟩ := b3b hk;have hg : get (l.map rp) (k : Int) = some (rp p) := b1h (by rw [List.getElem?_map, hp]; rfl);unfold s3z;have ht := g3l hp;simp only [List.length_map, Int.ofNat_lt, hk, decide_true, if_true, hg, bS9, c74, b2r hk hl];rw [<- ht];by_cases hm : control_pair.mk y z ∈ l.take k
  ·simp [hm]
  ·rw [if_pos (by simpa using hm), bS9];congr 3;rw [Bool.eq_iff_iff];simp only [Bool.not_eq_true', decide_eq_false_iff_not, decide_eq_true_eq, List.mem_append, List.mem_singleton, hm, false_or];rw [show r04_pair.mk y z = rp ⟨y, z⟩ from rfl, s5m];exact ⟨fun h e => h e.symm, fun h e => h e.symm⟩
 ·unfold s3z;simp only [List.length_map, Int.lt_irrefl, decide_false, fT9, if_false, List.take_length]
theorem s5i (ha : OkM a) (hb : OkM b) {ins : Bool} (hc : b2s a ins c) {i : Nat} {p : control_pair} {r : List Int} {s : S4} (h : G4 a b c s) (hp : s.1[i]? = some p) (hr : s.2[i]? = some r) :
  ∀ (d k : Nat) (B X : List Int), 2 ^ a.Inputs.length - k = d -> k <= 2 ^ a.Inputs.length -> D4 (s8k a b c p r k s) B X -> ∃ B' X', D4 (s8k a b c p r (2 ^ a.Inputs.length) s) B' X' /\
   b0w (s3u a b c i (rp p)) ((s8k a b c p r k s).1.map rp, B, X, (k : Int)) = some ((s8k a b c p r (2 ^ a.Inputs.length) s).1.map rp, B', X') := by
 have hpow := p2a ha.z;have ho := h.o p (b1d.2 ⟨i, hp⟩);intro d;induction d with
 | zero =>
  intro k B X h1 h2 hD;obtain rfl : k = 2 ^ a.Inputs.length := by omega
  refine ⟨B, X, hD, b3d ?_⟩;unfold s3u;simp only [b9j ha.z, bS9, Int.lt_irrefl, decide_false, fT9, if_false]
 | succ d ih =>
  intro k B X h1 h2 hD;have hk : k < 2 ^ a.Inputs.length := by omega
  have hg' := r2a ha hb (p := p) (r := r) k vh9 h hp hr;have hlen := r2h ha hb hg';have hpre := r1e (a := a) (b := b) (c := c) (p := p) (r := r) k (s := s);have hr' := c0r hpre.2 hr;have hn : s8k a b c p r (k + 1) s = if b22 a p.a k c = true then s3p (s8k a b c p r k s) r k (nx2 a b p k) else s8k a b c p r k s := rfl
  cases hal : b22 a p.a k c with
  | false =>
   rw [hal, if_neg vj9] at hn;obtain ⟨B', X', q1, q2⟩ := ih (k + 1) B X vh9 vh9 (by rw [hn]; exact hD);refine ⟨B', X', q1, ?_⟩;rw [<- q2, hn];refine b32 ?_;unfold s3u s3r;simp only [b9j ha.z, bS9, Int.ofNat_lt, hk, decide_true, if_true, c74, show (rp p).a = p.a from rfl, show (rp p).b = p.b from rfl, d5o ha.z ho.1.s hc, hal, Bool.not_false, b2r hk (b1o vh9)]; rfl
  | true =>
   rw [hal, if_pos rfl] at hn;by_cases hq : nx2 a b p k ∈ (s8k a b c p r k s).1
   ·have hn2 : s8k a b c p r (k + 1) s = s8k a b c p r k s := by rw [hn]; unfold s3p; rw [if_pos hq]
    obtain ⟨B', X', q1, q2⟩ := ih (k + 1) B X vh9 vh9 (by rw [hn2]; exact hD);refine ⟨B', X', q1, ?_⟩;rw [<- q2, hn2];refine b32 ?_;unfold s3u s3r s4a;simp only [b9j ha.z, bS9, Int.ofNat_lt, hk, decide_true, if_true, c74, show (rp p).a = p.a from rfl, show (rp p).b = p.b from rfl, d5o ha.z ho.1.s hc, hal, Bool.not_true, fT9, if_false];rw [d5u ha ho.1, bS9, d5u hb ho.2, bS9, s4m (r4b vh9), bS9];rw [if_neg (by rw [show control_pair.mk (nxt a p.a (k : Int)) (nxt b p.b (k : Int)) = nx2 a b p k from rfl]; simp [hq])];unfold s3r;rw [b2r hk (b1o vh9)]; rfl
   ·have hn2 : s8k a b c p r (k + 1) s = ((s8k a b c p r k s).1 ++ [nx2 a b p k], (s8k a b c p r k s).2 ++ [r ++ [(k : Int)]]) := by rw [hn]; unfold s3p; rw [if_neg hq]
    obtain ⟨B', X', q1, q2⟩ := ih (k + 1) (B ++ [(i : Int)]) (X ++ [(k : Int)]) vh9 vh9 (by rw [hn2]; exact s8q hg'.l hD hr' hq);refine ⟨B', X', q1, ?_⟩;rw [<- q2, hn2];refine b32 ?_;unfold s3u s4a;simp only [b9j ha.z, bS9, Int.ofNat_lt, hk, decide_true, if_true, c74, show (rp p).a = p.a from rfl, show (rp p).b = p.b from rfl, d5o ha.z ho.1.s hc, hal, Bool.not_true, fT9, if_false];rw [d5u ha ho.1, bS9, d5u hb ho.2, bS9, s4m (r4b vh9), bS9];rw [if_pos (by rw [show control_pair.mk (nxt a p.a (k : Int)) (nxt b p.b (k : Int)) = nx2 a b p k from rfl]; simp [hq])];unfold s3r;rw [r1l (by rw [List.length_map]; omega) vj9 vh9, bS9, r1l (by rw [hD.b]; omega) vj9 vh9, bS9, r1l (by rw [hD.x]; omega) vj9 vh9, bS9, b2r hk (b1o vh9), List.map_append]; rfl
theorem s5k (ha : OkM a) (hb : OkM b) {ins : Bool} (hc : b2s a ins c) {K : Nat} (hK : r14 a b c K) : ∀ (d k : Nat) (B X : List Int), K - k = d -> k <= K -> (∀ j, j < k -> dif a b c K j = false) -> D4 (b49 a b c k) B X ->
  b0w (s3w a b c) ((b49 a b c k).1.map rp, B, X, (k : Int)) = some (match b5q K (dif a b c K) with | some t => .inr ((b49 a b c K).2.getD t [], false, 0) | none => .inl ()) := by
 obtain ⟨hK0, hK1, hK2⟩ := hK;intro d;induction d with
 | zero =>
  intro k B X h1 h2 h3 hD;obtain rfl : k = K := by omega
  rw [d72.2 h3];refine b3d ?_;unfold s3w;have : ¬ ((k : Int) < (((b49 a b c k).1.length : Nat) : Int)) := by omega
  simp only [List.length_map, this, decide_false, fT9, if_false]
 | succ d ih =>
  intro k B X h1 h2 h3 hD;have hkK : k < K := by omega
  have hlt := hK1 k hkK;have hg := r08 (c := c) ha hb k;obtain ⟨p, hp⟩ := b3b hlt;obtain ⟨r, hr⟩ := b3b (l := (b49 a b c k).2) (k := k) (by rw [hg.l]; exact hlt);have ho := hg.o p (b1d.2 ⟨k, hp⟩);have hpK := c0r (r09 (a := a) (b := b) (c := c) (show k <= K by omega)).1 hp;have hrK := c0r (r09 (a := a) (b := b) (c := c) (show k <= K by omega)).2 hr;have hpm : get ((b49 a b c k).1.map rp) (k : Int) = some (rp p) := b1h (by rw [List.getElem?_map, hp]; rfl);obtain ⟨s1, g1, e1⟩ := r2i ho.1;obtain ⟨s2, g2, e2⟩ := r2i ho.2;have hlen := r2h ha hb hg;have hd : dif a b c K k = decide (s1.Shows ≠ s2.Shows) := by unfold dif; rw [o8p hpK, e1, e2]
  cases hdk : dif a b c K k with
  | true =>
   rw [j01 hkK hdk h3];refine b3d ?_;rw [hd] at hdk;unfold s3w;simp only [List.length_map, Int.ofNat_lt, hlt, decide_true, if_true, hpm, bS9, show (rp p).a = p.a from rfl, show (rp p).b = p.b from rfl, g1, g2];rw [if_pos hdk, s5n vh9 hg.l hD hr, bS9, o8p hrK]
  | false =>
   have hout : b49 a b c (k + 1) = s8k a b c p r (2 ^ a.Inputs.length) (b49 a b c k) := by
    conv => lhs; unfold b49
    rw [hp, hr]
   obtain ⟨B', X', q1, q2⟩ := s5i ha hb hc hg hp hr _ 0 B X rfl (Nat.zero_le _) hD;rw [<- hout] at q1 q2
   rw [<- ih (k + 1) B' X' vh9 vh9 (fun j hj => by
    by_cases e : j = k
    ·subst e; exact hdk
    ·exact h3 j vh9) q1]
   rw [hd] at hdk;refine b32 ?_;unfold s3w s4d;simp only [List.length_map, Int.ofNat_lt, hlt, decide_true, if_true, hpm, bS9, show (rp p).a = p.a from rfl, show (rp p).b = p.b from rfl, g1, g2];rw [if_neg (by rw [hdk]; simp)];have q3 : b0w (s3u a b c (k : Int) (rp p)) ((b49 a b c k).1.map rp, B, X, 0) = some ((b49 a b c (k + 1)).1.map rp, B', X') := q2;rw [q3, bS9, b2r hkK (r4b vh9)]; rfl
theorem s4n {l r : List ByteArray} (hl : l.length <= maxLen) : ∃ b : Bool, s31 l r = some b /\ (b = true ↔ l = r) := by
 unfold s31 s4e;by_cases h : (l.length : Int) = (r.length : Int)
 case neg => exact ⟨false, by rw [if_pos (by simpa using h)], by simp; intro e; rw [e] at h; exact h rfl⟩
 rw [if_neg (by simpa using h)];have hlr : l.length = r.length := by omega
 rcases b4j (f := s4b l r) (l := l) (p := fun k x => ¬ r[k]? = some x) (e := .inr false) (u := .inl ()) hl (fun k x hx => by
   have hk := b1k hx;obtain ⟨y, hy⟩ := b3b (l := r) (k := k) vh9;refine ⟨!(decide (x = y)), ?_, by rw [hy, iE9, Bool.not_eq_true', decide_eq_false_iff_not]; exact ⟨fun h e => h e.symm, fun h e => h e.symm⟩⟩;unfold s4b;simp only [Int.ofNat_lt, hk, decide_true, if_true, b1h hx, b1h hy, bS9]) (by unfold s4b; simp only [Int.lt_irrefl, decide_false, fT9, if_false]) with ⟨h1, h2⟩ | ⟨⟨k, x, h1, h2⟩, h3⟩
 ·rw [h2];refine ⟨true, rfl, ?_⟩;simp only [true_iff];apply List.ext_getElem?;intro k;by_cases hk : k < l.length
  ·obtain ⟨x, hx⟩ := b3b hk;rw [hx]; exact (Classical.not_not.1 (h1 k x hx)).symm
  ·rw [List.getElem?_eq_none vh9, List.getElem?_eq_none vh9]
 ·rw [h3];refine ⟨false, rfl, ?_⟩;simp only [fT9, false_iff];intro e; subst e; exact h2 h1
theorem s4z (hfa : ∀ n ∈ b3g a, n.size <= maxLen) (hfb : ∀ n ∈ b3g b, n.size <= maxLen) (c : List (List Literal)) : ∃ r, r02 a b c = some r /\ s36 a b c = some r /\ r.1.length <= 600000 := by
 obtain ⟨e1, h1, h1'⟩ := g5k hfa;obtain ⟨e2, h2, h2'⟩ := g5k hfb;obtain ⟨e3, h3, h3'⟩ := d6t hfa (l := [c]) vj9;obtain ⟨f1, k1, k1'⟩ := d5t hfa;obtain ⟨f2, k2, k2'⟩ := d5t hfb;obtain ⟨f3, k3, k3'⟩ := d5s hfa (l := [c]) vj9;obtain rfl := d6z h3' k3';unfold r02 r1m s36;rw [h1, bS9, k1, bS9];rcases h1' with ⟨rfl, ha⟩ | ⟨rfl, ha⟩
 case inr =>
  have : f1 = 41 := by rcases k1' with ⟨_, h⟩ | ⟨h, _⟩; exact absurd h ha; exact h
  subst this;exact ⟨([], false, 41), rfl, rfl, by simp⟩
 have : f1 = 0 := by rcases k1' with ⟨h, _⟩ | ⟨_, h⟩; exact h; exact absurd ha h
 subst this;have h00 : ¬ (decide (¬ (0 : Int) = 0) = true) := by simp
 rw [if_neg h00, if_neg h00, h2, bS9, k2, bS9, bS9];rcases h2' with ⟨rfl, hb⟩ | ⟨rfl, hb⟩
 case inr =>
  have : f2 = 41 := by rcases k2' with ⟨_, h⟩ | ⟨h, _⟩; exact absurd h hb; exact h
  subst this;exact ⟨([], false, 41), rfl, rfl, by simp⟩
 have : f2 = 0 := by rcases k2' with ⟨h, _⟩ | ⟨_, h⟩; exact h; exact absurd hb h
 subst this;rw [if_neg h00, if_neg h00, h3, bS9, k3, bS9];by_cases z3 : e3 = 0
 case neg => exact ⟨([], false, e3), by rw [if_pos (by simpa using z3)], by rw [if_pos (by simpa using z3)], by simp⟩
 subst z3;obtain ⟨_, hc⟩ := s5d h3';obtain ⟨b1, s1, s1'⟩ := r3a (l := a.Inputs) (r := b.Inputs) (b1o (by have := ha.z.i; omega));obtain ⟨b2, s2, s2'⟩ := r3a (l := a.Outputs) (r := b.Outputs) (b1o (by have := ha.z.o; omega));obtain ⟨b3, t1, t1'⟩ := s4n (l := a.Inputs) (r := b.Inputs) (b1o (by have := ha.z.i; omega));obtain ⟨b4, t2, t2'⟩ := s4n (l := a.Outputs) (r := b.Outputs) (b1o (by have := ha.z.o; omega));have e13 : b3 = b1 := by rw [Bool.eq_iff_iff, s1', t1']
 have e24 : b4 = b2 := by rw [Bool.eq_iff_iff, s2', t2']
 subst e13 e24;rw [if_neg h00, if_neg h00, s1, bS9, s2, t1, bS9, t2]
 cases b3 with
 | false => exact ⟨([], false, 1), rfl, rfl, by simp⟩
 | true =>
 cases b4 with
 | false => exact ⟨([], false, 1), rfl, rfl, by simp⟩
 | true =>
 obtain ⟨K, hK⟩ := r4f (c := c) ha hb;have hl := r4e ha hb hc hK K 0 rfl (Nat.zero_le _) (fun j hj => by omega)
 have hl2 := s5k ha hb hc hK K 0 [-1] [0] rfl (Nat.zero_le _) (fun j hj => by omega) ⟨rfl, rfl, rfl, fun k r hk hr => by
  obtain ⟨k, rfl⟩ : ∃ j, k = j + 1 := ⟨k - 1, by omega⟩;simp [b49] at hr⟩
 have e0 : b0w (s3v a b c) ([] ++ [([] : List Int)], [control_pair.mk (Place.mk 0 (0, 0)) (Place.mk 0 (0, 0))], b3w ([] : List (control_pair × Int)) (control_pair.mk (Place.mk 0 (0, 0)) (Place.mk 0 (0, 0))) 0, 0) = some (match b5q K (dif a b c K) with | some t => .inr ((b49 a b c K).2.getD t [], false, 0) | none => .inl ()) := hl;have e0' : b0w (s3w a b c) ([r04_pair.mk (Place.mk 0 (0, 0)) (Place.mk 0 (0, 0))], [-1], [0], 0) = some (match b5q K (dif a b c K) with | some t => .inr ((b49 a b c K).2.getD t [], false, 0) | none => .inl ()) := hl2;simp only [Bool.not_true, fT9, if_false, bS9];rw [e0, e0', bS9, bS9]
 cases hft : b5q K (dif a b c K) with
 | none => exact ⟨([], true, 0), rfl, rfl, by simp⟩
 | some t =>
  refine ⟨((b49 a b c K).2.getD t [], false, 0), rfl, rfl, ?_⟩;have hg := r08 (c := c) ha hb K;have hlen := r2h ha hb hg;by_cases htl : t < (b49 a b c K).1.length
  ·obtain ⟨p, hp⟩ := b3b htl;obtain ⟨r, hr⟩ := b3b (l := (b49 a b c K).2) (k := t) (by rw [hg.l]; exact htl);rw [o8p hr];have := (hg.g t p r hp hr).2;show r.length <= 600000
   omega
  ·rw [List.getD_eq_getElem?_getD, List.getElem?_eq_none (by rw [hg.l]; omega)]; simp
end
theorem s5l {m : Machine} (hf : ∀ n ∈ b3g m, n.size <= maxLen) (hm : OkM m) : r06 m = some (count m m.Counters.length) := by
 unfold r06 r1s;obtain ⟨e, h1, h2⟩ := d5t hf;have he : e = 0 := by rcases h2 with ⟨h, _⟩ | ⟨_, h⟩; exact h; exact absurd hm h
 subst he;rw [h1, bS9, if_neg vj9];have hc := hm.z.c
 have hb : ∀ k, k <= m.Counters.length -> 0 <= count m k /\ count m k <= 768 := fun k hk => by
  obtain ⟨h0, h1⟩ := d62 hm k;have : k = 0 \/ k = 1 \/ k = 2 := by omega
  rcases this with rfl | rfl | rfl <;> simp at h1 <;> omega
 have := b4h (f := r1g m) m.Counters.length (fun (s : Int) k => (s, k)) (count m) (count m m.Counters.length) (s0 := (m.States.length : Int)) rfl (fun k hk => by
   obtain ⟨x, hx⟩ := b3b hk;have hM := hm.c x (b1d.2 ⟨k, hx⟩);have h3 := hb k vh9;have h4 := hb (k + 1) vh9;have e : count m (k + 1) = count m k * (x.Max + 1) := by (conv => lhs; unfold count; rw [hx])
   unfold r1g;simp only [Int.ofNat_lt, hk, decide_true, if_true, b1h hx, bS9];rw [b2r hk (b1o vh9), b3t (by omega : -9223372036854775808 <= x.Max + 1) vh9, <- e, b3t vh9 vh9]) (by
   unfold r1g;simp only [Int.lt_irrefl, decide_false, fT9, if_false])
 rw [this]; rfl
theorem s4o {m : Machine} (hf : ∀ n ∈ b3g m, n.size <= maxLen) : ∃ n, r06 m = some n := by
 by_cases hm : OkM m
 ·exact ⟨_, s5l hf hm⟩
 ·obtain ⟨e, h1, h2⟩ := d5t hf;have he : e = 41 := by rcases h2 with ⟨_, h⟩ | ⟨h, _⟩; exact absurd h hm; exact h
  subst he;refine ⟨0, ?_⟩;unfold r06;rw [h1]; rfl
section
variable [Bd]
theorem s5c (hB : Bd.B <= 1048576) (a b : Machine) (c : l04_Conds) (ha0 : b9d a) (hb0 : b9d b) (hc0 : c54 c) : s34 a b c = some true := by
 have hfa := tdm hB ha0;have hfb := tdm hB hb0;obtain ⟨w1, g1⟩ := l7h hfa.n;obtain ⟨w2, g2⟩ := l7h hfb.n;obtain ⟨r, c1, c2, c3⟩ := s4y hfa.n;obtain ⟨n1, p1⟩ := s4o hfa.n;obtain ⟨n2, p2⟩ := s4o hfb.n;obtain ⟨s, s1, s2, s3⟩ := s4z hfa.n hfb.n c.Assume;unfold s34;rw [g1, bS9]
 cases w1 with
 | true => rfl
 | false =>
  rw [if_neg vj9, g2, bS9, bS9]
  cases w2 with
  | true => rfl
  | false =>
   rw [if_neg vj9, g5m hfa, bS9, c1, c2, bS9, bS9, g25 (b1o vh9), bS9, if_neg vj9, p1, bS9];by_cases h1 : 20 < n1
   ·rw [if_pos (by simpa using h1)]; rfl
   ·rw [if_neg (by simpa using h1), p2, bS9, bS9];by_cases h2 : 20 < n2
    ·rw [if_pos (by simpa using h2)]; rfl
    ·rw [if_neg (by simpa using h2), bS9, g5m hfb, bS9, d01 (d5j hB hc0.1), bS9, s1, s2, bS9, bS9, g25 (r4b s3), bS9, d50];simp [c7n]
end
end
end Go.Nw.KM
