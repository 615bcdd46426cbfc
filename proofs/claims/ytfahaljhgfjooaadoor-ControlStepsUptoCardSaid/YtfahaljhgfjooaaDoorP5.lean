/- Plain laws on the models. -/
import Derived.Test.YtfahaljhgfjooaaDoorP4
import Derived.Test.YtfahaljhgfjooaaDoorNwMapL
import Derived.Test.YtfahaljhgfjooaaDoorNwPlain
import Derived.Test.YtfahaljhgfjooaaDoorP3
set_option linter.all false
namespace Go.Nw.KM
def In (n : Int) (k : Nat) : Prop := 0 <= n /\ n < (k : Int)
def b4k (m : Machine) (inside : Bool) (l : Literal) : Prop :=
 (l.Kind = 1 /\ In l.Number m.Inputs.length /\ l.Value = 0) \/ (l.Kind = 2 /\ ∃ (n : Nat) (c : Counter), l.Number = n /\ m.Counters[n]? = some c /\ 0 <= l.Value /\ l.Value <= c.Max) \/
 (l.Kind = 3 /\ inside = true /\ In l.Number m.States.length /\ l.Value = 0) \/ (l.Kind = 4 /\ In l.Number m.Outputs.length /\ l.Value = 0)
def b4u (m : Machine) (inside : Bool) (c : List (List Literal)) : Prop := c.length <= 6 /\ ∀ t ∈ c, t.length <= 6 /\ ∀ l ∈ t, b4k m inside l
theorem c8i {α : Type} {l : List α} {n : Int} (h : In n l.length) : ∃ (k : Nat) (x : α), n = k /\ l[k]? = some x /\ get l n = some x := by
 obtain ⟨h0, h1⟩ := h
 obtain ⟨k, rfl⟩ := Int.eq_ofNat_of_zero_le h0
 obtain ⟨x, hx⟩ := b3z (l := l) (k := k) (by omega)
 exact ⟨k, x, rfl, hx, b1e hx⟩
theorem c0f {n : Int} {k : Nat} (hk : k <= maxLen) : (decide (0 <= n) && decide (n <= wr ((k : Int) - 1))) = true ↔ In n k := by
 rw [b64 hk]
 simp only [Bool.and_eq_true, decide_eq_true_eq, In]
 constructor <;> exact fun h => ⟨by omega, by omega⟩
theorem b1q {n : Nat} (h : n <= 1000) : n <= maxLen := by simp only [maxLen]; omega
theorem d54 {m : Machine} (hs : SizesOk m) {l : Literal} {inside : Bool} {β : Type} {g : Bool -> Option β} :
  ∃ b : Bool, (if decide (l.Kind = 1) then g ((b1k l.Number 0 (wr ((List.length m.Inputs : Int) - 1))) && (decide (l.Value = 0)))
   else if decide (l.Kind = 2) then (if (b1k l.Number 0 (wr ((List.length m.Counters : Int) - 1))) then (get m.Counters l.Number).bind fun x30 => some (b1k l.Value 0 x30.Max) else some false).bind fun c31 => g c31
   else if decide (l.Kind = 3) then g ((inside && (b1k l.Number 0 (wr ((List.length m.States : Int) - 1)))) && (decide (l.Value = 0)))
   else if decide (l.Kind = 4) then g ((b1k l.Number 0 (wr ((List.length m.Outputs : Int) - 1))) && (decide (l.Value = 0)))
   else g false) = g b /\ (b = true ↔ b4k m inside l) := by
 have hi := b1q (Nat.le_trans hs.i (by omega)); have ho := b1q (Nat.le_trans hs.o (by omega)); have hc := b1q (Nat.le_trans hs.c (by omega)); have hst := b1q (Nat.le_trans hs.s.2 (by omega))
 unfold b1k b4k
 by_cases h1 : l.Kind = 1
 ·refine ⟨_, by rw [if_pos (by simpa using h1)], ?_⟩
  rw [Bool.and_eq_true, c0f hi]
  simp [h1]
 by_cases h2 : l.Kind = 2
 ·rw [if_neg (by simpa using h1), if_pos (by simpa using h2)]
  by_cases hin : In l.Number m.Counters.length
  ·obtain ⟨k, c, hk, hx, hg⟩ := c8i hin
   rw [if_pos ((c0f hc).2 hin), hg]
   refine ⟨_, rfl, ?_⟩
   simp only [h2, Int.reduceEq, false_and, true_and, false_or, or_false, Bool.and_eq_true, decide_eq_true_eq]
   constructor
   ·exact fun h => ⟨k, c, hk, hx, h⟩
   ·rintro ⟨n, c', hn, hx', h⟩
    have : n = k := by omega
    subst this
    rw [hx] at hx'; cases hx'; exact h
  ·rw [if_neg (fun h => hin ((c0f hc).1 h))]
   refine ⟨_, rfl, ?_⟩
   simp only [h2, Int.reduceEq, false_and, true_and, false_or, or_false, fT9, false_iff, not_exists]
   rintro n c ⟨hn, hx, _⟩
   exact hin ⟨by omega, by have := b1m hx; omega⟩
 by_cases h3 : l.Kind = 3
 ·refine ⟨_, by rw [if_neg (by simpa using h1), if_neg (by simpa using h2), if_pos (by simpa using h3)], ?_⟩
  rw [Bool.and_eq_true, Bool.and_eq_true, c0f hst]
  simp [h3, and_assoc]
 by_cases h4 : l.Kind = 4
 ·refine ⟨_, by rw [if_neg (by simpa using h1), if_neg (by simpa using h2), if_neg (by simpa using h3), if_pos (by simpa using h4)], ?_⟩
  rw [Bool.and_eq_true, c0f ho]
  simp [h4]
 ·refine ⟨false, by rw [if_neg (by simpa using h1), if_neg (by simpa using h2), if_neg (by simpa using h3), if_neg (by simpa using h4)], ?_⟩
  simp [h1, h2, h3, h4]
theorem d55 {m : Machine} (hs : SizesOk m) {c : List (List Literal)} {i : Nat} {t : List Literal} (ht : c[i]? = some t) (inside : Bool) (hl : t.length <= 6) :
  ((∀ l ∈ t, b4k m inside l) /\ b0w (b7v m c inside i) 0 = some (.inl ())) \/ ((∃ l ∈ t, ¬ b4k m inside l) /\ b0w (b7v m c inside i) 0 = some (.inr false)) := by
 rcases b32 (f := b7v m c inside i) (l := t) (p := fun _ l => ¬ b4k m inside l) (e := .inr false) (u := .inl ()) (b1q (by omega)) (fun k x hx => by
   have hk := b1m hx
   obtain ⟨b, h1, h2⟩ := d54 hs (l := x) (inside := inside) (g := b6u k)
   refine ⟨!b, ?_, by rw [<- h2]; simp⟩
   unfold b7v
   simp only [b1e ht, b1e hx, bS9, Int.ofNat_lt, hk, decide_true, if_true]
   rw [h1]
   rfl) (by unfold b7v; simp only [b1e ht, bS9, Int.lt_irrefl, decide_false, fT9, if_false]) with ⟨h1, h2⟩ | ⟨⟨k, x, h1, h2⟩, h3⟩
 ·exact .inl ⟨fun l hl => by obtain ⟨k, hk⟩ := b1f.1 hl; exact Classical.not_not.1 (h1 k l hk), h2⟩
 ·exact .inr ⟨⟨x, b1f.2 ⟨k, h1⟩, h2⟩, h3⟩
theorem g25 {m : Machine} (hs : SizesOk m) (c : List (List Literal)) (inside : Bool) : ∃ b, c1o m c inside = some b /\ (b = true ↔ b4u m inside c) := by
 unfold c1o
 by_cases h6 : c.length <= 6
 case neg => exact ⟨false, by rw [if_pos (by simp; omega)], by simp [b4u]; intro h; omega⟩
 rw [if_neg (by simp; omega)]
 rcases c0y (f := b9b m c inside) c (fun _ t => ¬ (t.length <= 6 /\ ∀ l ∈ t, b4k m inside l)) (.inr false) (.inl ()) (fun k t ht hb => by
   have hk := b1m ht
   unfold b9b
   simp only [b1e ht, bS9, Int.ofNat_lt, hk, decide_true, if_true]
   by_cases hl : t.length <= 6
   ·rw [if_neg (by simp; omega)]
    rcases d55 hs ht inside hl with ⟨h1, _⟩ | ⟨_, h2⟩
    ·exact absurd ⟨hl, h1⟩ hb
    ·rw [h2]; rfl
   ·rw [if_pos (by simp; omega)]) (fun k t ht hb => by
   have hk := b1m ht
   obtain ⟨hl, h0⟩ := Classical.not_not.1 hb
   unfold b9b
   simp only [b1e ht, bS9, Int.ofNat_lt, hk, decide_true, if_true]
   rw [if_neg (by simp; omega)]
   rcases d55 hs ht inside hl with ⟨_, h2⟩ | ⟨⟨l, h1, h2⟩, _⟩
   ·rw [h2]; simp only [bS9, c47]; rw [b21 hk (b1q (by omega))]
   ·exact absurd (h0 l h1) h2) (by unfold b9b; simp only [Int.lt_irrefl, decide_false, fT9, if_false]) with ⟨h1, h2⟩ | ⟨⟨k, t, h1, h2⟩, h3⟩
 ·rw [h2]
  exact ⟨true, rfl, by simp only [true_iff]; exact ⟨h6, fun t ht => by obtain ⟨k, hk⟩ := b1f.1 ht; exact Classical.not_not.1 (h1 k t hk)⟩⟩
 ·rw [h3]
  exact ⟨false, rfl, by simp only [fT9, false_iff]; exact fun h => h2 (h.2 t (b1f.2 ⟨k, h1⟩))⟩
theorem g0a {m : Machine} (hs : SizesOk m) (l : Literal) : ∃ b, c19 m l = some b /\ (b = true ↔ b4k m true l) := by
 obtain ⟨b, h1, h2⟩ := d54 hs (l := l) (inside := true) (g := fun b => some b)
 refine ⟨b, ?_, h2⟩
 rw [<- h1]
 unfold c19 b1o b1k
 simp only [Bool.true_and]
theorem d9n {m : Machine} (hs : SizesOk m) (c : List (List Literal)) : ∃ b, c1x m c = some b /\ (b = true ↔ b4u m true c) := by
 unfold c1x
 by_cases h6 : c.length <= 6
 case neg => exact ⟨false, by rw [if_pos (by simp; omega)], by simp [b4u]; intro h; omega⟩
 rw [if_neg (by simp; omega)]
 rcases b32 (f := c1y m c) (l := c) (p := fun _ t => ¬ (t.length <= 6 /\ ∀ l ∈ t, b4k m true l)) (e := .inr false) (u := .inl ()) (b1q (by omega)) (fun k t ht => by
   have hk := b1m ht
   unfold c1y
   simp only [b1e ht, bS9, Int.ofNat_lt, hk, decide_true, if_true]
   by_cases hl : t.length <= 6
   ·rw [if_neg (by simp; omega)]
    obtain ⟨b, h1, h2⟩ := c3w (g := b60 t (fun z14 => b7y z14 m)) (s := t) (f := fun z14 => b7y z14 m) (p := fun l => ¬ b4k m true l) rfl (b1q (by omega)) (fun x hx => by
     obtain ⟨b, h1, h2⟩ := g0a hs x
     exact ⟨!b, by unfold b7y; rw [h1]; rfl, by rw [<- h2]; simp⟩)
    rw [h1]
    refine ⟨b, rfl, ?_⟩
    rw [h2]
    constructor
    ·rintro ⟨x, hx, h⟩ hh; exact h (hh.2 x hx)
    ·intro h
     exact Classical.byContradiction fun hn => h ⟨hl, fun l hl' => Classical.byContradiction fun h' => hn ⟨l, hl', h'⟩⟩
   ·rw [if_pos (by simp; omega)]
    exact ⟨true, rfl, by simp; intro h; omega⟩) (by unfold c1y; simp only [Int.lt_irrefl, decide_false, fT9, if_false]) with ⟨h1, h2⟩ | ⟨⟨k, t, h1, h2⟩, h3⟩
 ·rw [h2]
  exact ⟨true, rfl, by simp only [true_iff]; exact ⟨h6, fun t ht => by obtain ⟨k, hk⟩ := b1f.1 ht; exact Classical.not_not.1 (h1 k t hk)⟩⟩
 ·rw [h3]
  exact ⟨false, rfl, by simp only [fT9, false_iff]; exact fun h => h2 (h.2 t (b1f.2 ⟨k, h1⟩))⟩
end Go.Nw.KM
namespace Go.Nw.KM
def b74 (l : List ByteArray) (k : Nat) (x : ByteArray) : Prop := ¬ c00 x \/ x ∈ l.take k
def c2f (l : List ByteArray) : Prop := ∃ k x, l[k]? = some x /\ b74 l k x
structure OkRule (m : Machine) (r : Rule) : Prop where
 f : -1 <= r.From /\ r.From < (m.States.length : Int)
 t : In r.To m.States.length
 w : b4u m false r.When
 n : r.Sets.length <= 4
 s : ∀ s ∈ r.Sets, (1 <= s.Kind /\ s.Kind <= 3) /\ In s.Counter m.Counters.length
structure OkM (m : Machine) : Prop where
 z : SizesOk m
 n : ¬ c2f (b3e m)
 c : ∀ c ∈ m.Counters, 1 <= c.Max /\ c.Max <= 7
 s : ∀ s ∈ m.States, 0 <= s.Shows /\ s.Shows < 2 ^ m.Outputs.length
 r : ∀ r ∈ m.Rules, OkRule m r
theorem d6t {m : Machine} (h : SizesOk m) : (b3e m).length <= 24 := by
 have := h.i; have := h.o; have := h.c; have := h.s
 simp [b3e]; omega
theorem d6s {s : ByteArray} (hs : s.size <= maxLen) : ∃ b, (if decide (8 < (ByteArray.size s : Int)) then some true else (b89 s).bind fun y70 => some (!y70)) = some b /\ (b = true ↔ ¬ c00 s) := by
 by_cases h8 : s.size <= 8
 ·obtain ⟨b, h1, h2⟩ := d93 s hs
  rw [if_neg (by simp; omega), h1]
  exact ⟨!b, rfl, by simp [c00, h8, <- h2]⟩
 ·rw [if_pos (by simp; omega)]
  exact ⟨true, rfl, by simp [c00]; intro h; omega⟩
theorem j1s {l : List ByteArray} (hl : l.length <= 24) (hf : ∀ n ∈ l, n.size <= maxLen) : (¬ c2f l /\ b0w (b6t l) 0 = some (.inl ())) \/ (c2f l /\ b0w (b6t l) 0 = some (.inr 41)) := by
 have inner : ∀ (i : Nat) x, l[i]? = some x -> (x ∉ l.take i /\ b0w (b7s l i) 0 = some (.inl ())) \/ (x ∈ l.take i /\ b0w (b7s l i) 0 = some (.inr 41)) := fun i x hx => by
  have hi := b1m hx
  have htl : (l.take i).length = i := by rw [List.length_take]; omega
  rcases b32 (f := b7s l i) (l := l.take i) (p := fun _ y => y = x) (e := .inr 41) (u := .inl ()) (b1q (by omega)) (fun k y hy => by
    have hk := b1m hy
    rw [htl] at hk
    rw [List.getElem?_take, if_pos hk] at hy
    refine ⟨decide (y = x), ?_, by simp⟩
    unfold b7s
    simp only [b1e hx, b1e hy, bS9, Int.ofNat_lt, hk, decide_true, if_true]) (by rw [htl]; unfold b7s; simp only [Int.lt_irrefl, decide_false, fT9, if_false]) with ⟨h1, h2⟩ | ⟨⟨k, y, h1, h2⟩, h3⟩
  ·exact .inl ⟨fun h => by obtain ⟨k, hk⟩ := b1f.1 h; exact h1 k x hk rfl, h2⟩
  ·exact .inr ⟨b1f.2 ⟨k, h2 ▸ h1⟩, h3⟩
 rcases c0y (f := b6t l) l (b74 l) (.inr 41) (.inl ()) (fun k x hx hb => by
   have hk := b1m hx
   obtain ⟨b, h1, h2⟩ := d6s (hf x (b1f.2 ⟨k, hx⟩))
   unfold b6t
   simp only [b1e hx, bS9, Int.ofNat_lt, hk, decide_true, if_true]
   rw [h1, bS9]
   cases b with
   | true => rfl
   | false =>
    rw [if_neg (by simp)]
    rcases inner k x hx with ⟨h3, _⟩ | ⟨_, h4⟩
    ·rcases hb with hb | hb
     ·exact absurd (h2.2 hb) (by simp)
     ·exact absurd hb h3
    ·rw [h4]; rfl) (fun k x hx hb => by
   have hk := b1m hx
   obtain ⟨b, h1, h2⟩ := d6s (hf x (b1f.2 ⟨k, hx⟩))
   unfold b6t
   simp only [b1e hx, bS9, Int.ofNat_lt, hk, decide_true, if_true]
   rw [h1, bS9]
   have hbf : b = false := c3b fun h => hb (.inl (h2.1 h))
   subst hbf
   rw [if_neg (by simp)]
   rcases inner k x hx with ⟨_, h4⟩ | ⟨h3, _⟩
   ·rw [h4]; simp only [bS9, c4u]; rw [b21 hk (b1q (by omega))]
   ·exact absurd (.inr h3) hb) (by unfold b6t; simp only [Int.lt_irrefl, decide_false, fT9, if_false]) with ⟨h1, h2⟩ | ⟨h1, h2⟩
 ·exact .inl ⟨fun ⟨k, x, a, b⟩ => h1 k x a b, h2⟩
 ·exact .inr ⟨h1, h2⟩
theorem b4p {n a b : Int} : b1k n a b = true ↔ a <= n /\ n <= b := by unfold b1k; simp
theorem b3p {n a b : Int} : b1o n a b = true ↔ a <= n /\ n <= b := by unfold b1o; simp
theorem c5k {n : Nat} (h : n <= 6) : shl .i64 1 (n : Int) = some (2 ^ n) := by
 rw [j73 (by omega) (by omega)]; simp
theorem d8j {n : Nat} (h : n <= 6) : wr ((2 : Int) ^ n - 1) = 2 ^ n - 1 := by
 have h2 : (2 : Int) ^ n <= 64 := by
  have := Nat.pow_le_pow_right (n := 2) (by omega) h
  have e : ((2 ^ n : Nat) : Int) = (2 : Int) ^ n := by simp
  omega
 have h1 : (0 : Int) < 2 ^ n := Int.pow_pos (by omega)
 exact b34 (by omega) (by omega)
theorem d1a {m : Machine} (hf : ∀ n ∈ b3e m, n.size <= maxLen) : ∃ e, b87 m = some e /\ ((e = 0 /\ OkM m) \/ (e = 41 /\ ¬ OkM m)) := by
 unfold b87
 by_cases hz : SizesOk m
 case neg =>
  refine ⟨41, ?_, .inr ⟨rfl, fun h => hz h.z⟩⟩
  rw [if_pos]
  refine Classical.byContradiction fun hc => hz ?_
  simp only [Bool.or_eq_true, decide_eq_true_eq, Bool.not_eq_true', not_or, Bool.not_eq_false, b4p] at hc
  obtain ⟨⟨⟨⟨h1, h2⟩, h3⟩, h4⟩, h5⟩ := hc
  exact ⟨by omega, by omega, by omega, by omega, by omega⟩
 have hi := hz.i; have ho := hz.o; have hc := hz.c; have hs := hz.s; have hr := hz.r
 rw [if_neg (by
  simp only [Bool.or_eq_true, decide_eq_true_eq, Bool.not_eq_true', not_or, Bool.not_eq_false, b4p]
  omega), j1u hz, bS9]
 rcases j1s (d6t hz) hf with ⟨hn, h2⟩ | ⟨hn, h2⟩
 case inr => rw [h2]; exact ⟨41, rfl, .inr ⟨rfl, fun h => h.n hn⟩⟩
 rw [h2, bS9]
 simp only
 unfold c4q
 rcases b32 (f := c04 m) (l := m.Counters) (p := fun _ c => ¬ (1 <= c.Max /\ c.Max <= 7)) (e := .inr 41) (u := .inl ()) (b1q (by omega)) (fun k x hx => by
   have hk := b1m hx
   refine ⟨!(b1k x.Max 1 7), ?_, by rw [<- b4p]; simp⟩
   unfold c04
   simp only [b1e hx, bS9, Int.ofNat_lt, hk, decide_true, if_true]) (by unfold c04; simp only [Int.lt_irrefl, decide_false, fT9, if_false]) with ⟨h1, h2⟩ | ⟨⟨k, x, h1, h2⟩, h3⟩
 case inr => rw [h3]; exact ⟨41, rfl, .inr ⟨rfl, fun h => h2 (h.c x (b1f.2 ⟨k, h1⟩))⟩⟩
 have hC : ∀ c ∈ m.Counters, 1 <= c.Max /\ c.Max <= 7 := fun c hc => by obtain ⟨k, hk⟩ := b1f.1 hc; exact Classical.not_not.1 (h1 k c hk)
 rw [h2, bS9]
 simp only
 unfold c4r
 rcases b32 (f := c05 m) (l := m.States) (p := fun _ s => ¬ (0 <= s.Shows /\ s.Shows < 2 ^ m.Outputs.length)) (e := .inr 41) (u := .inl ()) (b1q (by omega)) (fun k x hx => by
   have hk := b1m hx
   refine ⟨!(b1k x.Shows 0 (2 ^ m.Outputs.length - 1)), ?_, by simp only [Bool.not_eq_true', <- Bool.not_eq_true, b4p]; omega⟩
   unfold c05
   simp only [b1e hx, bS9, Int.ofNat_lt, hk, decide_true, if_true]
   rw [c55 (by omega) (by omega), c5k ho, bS9, d8j ho]) (by unfold c05; simp only [Int.lt_irrefl, decide_false, fT9, if_false]) with ⟨h1, h2⟩ | ⟨⟨k, x, h1, h2⟩, h3⟩
 case inr => rw [h3]; exact ⟨41, rfl, .inr ⟨rfl, fun h => h2 (h.s x (b1f.2 ⟨k, h1⟩))⟩⟩
 have hS : ∀ s ∈ m.States, 0 <= s.Shows /\ s.Shows < 2 ^ m.Outputs.length := fun c hc => by obtain ⟨k, hk⟩ := b1f.1 hc; exact Classical.not_not.1 (h1 k c hk)
 rw [h2, bS9]
 simp only
 unfold c4s
 have wrs : wr ((m.States.length : Int) - 1) = (m.States.length : Int) - 1 := b64 (b1q (by omega))
 have wrc : wr ((m.Counters.length : Int) - 1) = (m.Counters.length : Int) - 1 := b64 (b1q (by omega))
 have rule : ∀ (k : Nat) x, m.Rules[k]? = some x -> (OkRule m x /\ b7t m k = some (.nx ((k : Int) + 1))) \/ (¬ OkRule m x /\ b7t m k = some (.br (.inr 41))) := fun k x hx => by
  have hk := b1m hx
  unfold b7t
  simp only [b1e hx, bS9, Int.ofNat_lt, hk, decide_true, if_true, wrs]
  by_cases hft : b1k x.From (-1) ((m.States.length : Int) - 1) = true /\ b1k x.To 0 ((m.States.length : Int) - 1) = true
  case neg =>
   rw [if_pos (by simp only [Bool.or_eq_true, Bool.not_eq_true', <- Bool.not_eq_true]; exact Classical.not_and_iff_not_or_not.1 hft), bS9, Bool.true_or]
   refine .inr ⟨fun h => hft ?_, rfl⟩
   rw [b4p, b4p]
   have := h.f; have := h.t
   unfold In at this
   exact ⟨by omega, by omega⟩
  rw [if_neg (by simp only [Bool.or_eq_true, Bool.not_eq_true', <- Bool.not_eq_true]; exact fun h => h.elim (fun h => h hft.1) fun h => h hft.2)]
  rw [b4p, b4p] at hft
  obtain ⟨b, h1, h2⟩ := g25 hz x.When false
  rw [h1, bS9, bS9]
  by_cases hb : b = true /\ x.Sets.length <= 4
  case neg =>
   rw [if_pos (by
    simp only [Bool.or_eq_true, Bool.not_eq_true', decide_eq_true_eq]
    rcases Classical.not_and_iff_not_or_not.1 hb with h | h
    ·exact .inl (c3b h)
    ·exact .inr (by omega))]
   exact .inr ⟨fun h => hb ⟨h2.2 h.w, h.n⟩, rfl⟩
  rw [if_neg (by
    simp only [Bool.or_eq_true, Bool.not_eq_true', decide_eq_true_eq, hb.1]
    have := hb.2
    simp; omega)]
  rcases b32 (f := c06 m x) (l := x.Sets) (p := fun _ s => ¬ ((1 <= s.Kind /\ s.Kind <= 3) /\ In s.Counter m.Counters.length)) (e := .inr 41) (u := .inl ()) (b1q (by omega)) (fun k s hs => by
    have hk := b1m hs
    refine ⟨!(b1k s.Kind 1 3) || !(b1k s.Counter 0 ((m.Counters.length : Int) - 1)), ?_, ?_⟩
    ·unfold c06
     simp only [b1e hs, bS9, Int.ofNat_lt, hk, decide_true, if_true, wrc]
    ·simp only [Bool.or_eq_true, Bool.not_eq_true', <- Bool.not_eq_true, b4p, In]; omega) (by unfold c06; simp only [Int.lt_irrefl, decide_false, fT9, if_false]) with ⟨h3, h4⟩ | ⟨⟨j, s, h3, h4⟩, h5⟩
  ·rw [h4]
   refine .inl ⟨⟨by omega, by unfold In; omega, h2.1 hb.1, hb.2, fun s hs => by obtain ⟨k, hk⟩ := b1f.1 hs; exact Classical.not_not.1 (h3 k s hk)⟩, ?_⟩
   simp only [bS9, c4t]; rw [b21 hk (b1q (by omega))]
  ·rw [h5]
   exact .inr ⟨fun h => h4 (h.s s (b1f.2 ⟨j, h3⟩)), rfl⟩
 rcases c0y (f := b7t m) m.Rules (fun _ r => ¬ OkRule m r) (.inr 41) (.inl ()) (fun k x hx hb => (rule k x hx).elim (fun h => absurd h.1 hb) fun h => h.2) (fun k x hx hb => (rule k x hx).elim (fun h => h.2) fun h => absurd h.1 hb)
   (by unfold b7t; simp only [Int.lt_irrefl, decide_false, fT9, if_false]) with ⟨h1, h2⟩ | ⟨⟨k, x, h1, h2⟩, h3⟩
 ·rw [h2]
  exact ⟨0, rfl, .inl ⟨rfl, hz, hn, hC, hS, fun r hr => by obtain ⟨k, hk⟩ := b1f.1 hr; exact Classical.not_not.1 (h1 k r hk)⟩⟩
 ·rw [h3]
  exact ⟨41, rfl, .inr ⟨rfl, fun h => h2 (h.r x (b1f.2 ⟨k, h1⟩))⟩⟩
end Go.Nw.KM
namespace Go.Nw.KM
theorem j1r {m : Machine} (hz : SizesOk m) (hf : ∀ n ∈ b3e m, n.size <= maxLen) : ∃ b, c2a m = some b /\ (b = true ↔ ¬ c2f (b3e m)) := by
 unfold c2a
 rw [j1t hz, bS9]
 have hl := d6t hz
 generalize b3e m = l at hf hl
 have keys : ∀ k, (((l.take k).map fun n => (n, (1 : Int))).map (·.1)) = l.take k := fun k => by rw [List.map_map]; simp [Function.comp_def]
 have stepb : ∀ (k : Nat) x, l[k]? = some x -> ∃ b, b9h l ((l.take k).map fun n => (n, (1 : Int)), (k : Int)) = (if b = true then some (.br (.inr false)) else some (.nx ((b4c ((l.take k).map fun n => (n, (1 : Int))) x (wr ((b2x ((l.take k).map fun n => (n, (1 : Int))) x 0) + 1))), (k : Int) + 1))) /\ (b = true ↔ b74 l k x) := fun k x hx => by
  have hk := b1m hx
  obtain ⟨b, h1, h2⟩ := d9y x (hf x (b1f.2 ⟨k, hx⟩))
  refine ⟨_, by
   unfold b9h
   simp only [b1e hx, bS9, Int.ofNat_lt, hk, decide_true, if_true, h1]
   rw [b21 hk (b1q (by omega))], ?_⟩
  rw [j1b]
  by_cases hin : x ∈ l.take k
  ·obtain ⟨d, hd⟩ := j1a (z := (0 : Int)) (l := (l.take k).map fun n => (n, (1 : Int))) (k := x) (by rw [keys]; exact hin)
   rw [List.getElem?_map] at hd
   obtain ⟨y, _, hy⟩ := mE9.1 hd
   simp only [Prod.mk.injEq] at hy
   rw [<- hy.2, show wr ((1 : Int) + 1) = 2 from by decide]
   simp [b74, hin]
  ·rw [d6h (by rw [keys]; exact hin), show wr ((0 : Int) + 1) = 1 from by decide]
   simp only [Bool.or_eq_true, Bool.not_eq_true', <- Bool.not_eq_true, h2, d9z, decide_eq_true_eq, b74, hin, or_false, c00, b84, Int.lt_irrefl]
   have e8 : ¬ (8 : Int) < (x.size : Int) ↔ x.size <= 8 := by omega
   rw [<- e8]
   exact ⟨fun h hh => h.elim (fun h => h.elim (fun h => h hh.2.2) fun h => hh.1 h) fun h => hh.2.1 h, fun h => by
    refine Classical.byContradiction fun hn => h ?_
    simp only [not_or, Classical.not_not] at hn
    exact ⟨hn.1.2, hn.2, hn.1.1⟩⟩
 rcases d6e (f := b9h l) l (fun s k => (s, k)) (fun k => (l.take k).map fun n => (n, (1 : Int))) (b74 l) (.inr false) (.inl ()) (fun k x _ hx hb => by
   obtain ⟨b, h1, h2⟩ := stepb k x hx
   rw [h1, if_pos (h2.2 hb)]) (fun k x _ hx hb => by
   obtain ⟨b, h1, h2⟩ := stepb k x hx
   rw [h1, if_neg (fun h => hb (h2.1 h))]
   have hin : x ∉ l.take k := fun h => hb (.inr h)
   rw [j1e (by rw [keys]; exact hin), d6h (by rw [keys]; exact hin), show wr ((0 : Int) + 1) = 1 from by decide, List.take_add_one, hx]
   simp) (by unfold b9h; simp only [Int.lt_irrefl, decide_false, fT9, if_false]) (s0 := []) (by simp) with ⟨h1, h2⟩ | ⟨h1, h2⟩
 ·rw [h2]
  exact ⟨true, rfl, by simp only [true_iff]; exact fun ⟨k, x, a, b⟩ => h1 k x a b⟩
 ·rw [h2]
  exact ⟨false, rfl, by simp only [fT9, false_iff, Classical.not_not]; exact h1⟩
theorem c7p {m : Machine} {c : List (List Literal)} : b4u m false c ↔ b4u m true c /\ ∀ t ∈ c, ¬ ∃ l ∈ t, l.Kind = 3 := by
 unfold b4u b4k
 constructor
 ·intro h
  refine ⟨⟨h.1, fun t ht => ⟨(h.2 t ht).1, fun l hl => ?_⟩⟩, fun t ht ⟨l, hl, h3⟩ => ?_⟩
  ·rcases (h.2 t ht).2 l hl with h | h | h | h
   ·exact .inl h
   ·exact .inr (.inl h)
   ·simp at h
   ·exact .inr (.inr (.inr h))
  ·rcases (h.2 t ht).2 l hl with h | h | h | h
   ·omega
   ·omega
   ·simp at h
   ·omega
 ·rintro ⟨h, h3⟩
  refine ⟨h.1, fun t ht => ⟨(h.2 t ht).1, fun l hl => ?_⟩⟩
  rcases (h.2 t ht).2 l hl with h | h | h | h
  ·exact .inl h
  ·exact .inr (.inl h)
  ·exact absurd ⟨l, hl, h.1⟩ (h3 t ht)
  ·exact .inr (.inr (.inr h))
theorem d9o {m : Machine} (hf : ∀ n ∈ b3e m, n.size <= maxLen) : ∃ e, c1z m = some e /\ ((e = 0 /\ OkM m) \/ (e = 41 /\ ¬ OkM m)) := by
 unfold c1z
 by_cases hz : SizesOk m
 case neg =>
  refine ⟨41, ?_, .inr ⟨rfl, fun h => hz h.z⟩⟩
  rw [if_pos, bS9, if_pos rfl]
  refine Classical.byContradiction fun hc => hz ?_
  simp only [Bool.or_eq_true, decide_eq_true_eq, Bool.not_eq_true', not_or, Bool.not_eq_false, b3p] at hc
  obtain ⟨⟨⟨⟨h1, h2⟩, h3⟩, h4⟩, h5⟩ := hc
  exact ⟨by omega, by omega, by omega, by omega, by omega⟩
 have hi := hz.i; have ho := hz.o; have hc := hz.c; have hs := hz.s; have hr := hz.r
 obtain ⟨b, h1, h2⟩ := j1r hz hf
 rw [if_neg (by
  simp only [Bool.or_eq_true, decide_eq_true_eq, Bool.not_eq_true', not_or, Bool.not_eq_false, b3p]
  omega), h1, bS9, bS9]
 cases b with
 | false => exact ⟨41, rfl, .inr ⟨rfl, fun h => absurd (h2.2 h.n) (by simp)⟩⟩
 | true =>
 have hn := h2.1 rfl
 rw [if_neg (by simp)]
 clear h1 h2
 rcases b32 (f := c15 m) (l := m.Counters) (p := fun _ c => ¬ (1 <= c.Max /\ c.Max <= 7)) (e := .inr 41) (u := .inl ()) (b1q (by omega)) (fun k x hx => by
   have hk := b1m hx
   refine ⟨!(b1o x.Max 1 7), ?_, by rw [<- b3p]; simp⟩
   unfold c15
   simp only [b1e hx, bS9, Int.ofNat_lt, hk, decide_true, if_true]) (by unfold c15; simp only [Int.lt_irrefl, decide_false, fT9, if_false]) with ⟨h1, h2⟩ | ⟨⟨k, x, h1, h2⟩, h3⟩
 case inr => rw [h3]; exact ⟨41, rfl, .inr ⟨rfl, fun h => h2 (h.c x (b1f.2 ⟨k, h1⟩))⟩⟩
 have hC : ∀ c ∈ m.Counters, 1 <= c.Max /\ c.Max <= 7 := fun c hc => by obtain ⟨k, hk⟩ := b1f.1 hc; exact Classical.not_not.1 (h1 k c hk)
 rw [h2, bS9]
 simp only
 unfold c5l
 rcases b32 (f := c11 m) (l := m.States) (p := fun _ s => ¬ (0 <= s.Shows /\ s.Shows < 2 ^ m.Outputs.length)) (e := .inr 41) (u := .inl ()) (b1q (by omega)) (fun k x hx => by
   have hk := b1m hx
   refine ⟨!(b1o x.Shows 0 (2 ^ m.Outputs.length - 1)), ?_, by simp only [Bool.not_eq_true', <- Bool.not_eq_true, b3p]; omega⟩
   unfold c11
   simp only [b1e hx, bS9, Int.ofNat_lt, hk, decide_true, if_true]
   rw [c5k ho, bS9, d8j ho]) (by unfold c11; simp only [Int.lt_irrefl, decide_false, fT9, if_false]) with ⟨h1, h2⟩ | ⟨⟨k, x, h1, h2⟩, h3⟩
 case inr => rw [h3]; exact ⟨41, rfl, .inr ⟨rfl, fun h => h2 (h.s x (b1f.2 ⟨k, h1⟩))⟩⟩
 have hS : ∀ s ∈ m.States, 0 <= s.Shows /\ s.Shows < 2 ^ m.Outputs.length := fun c hc => by obtain ⟨k, hk⟩ := b1f.1 hc; exact Classical.not_not.1 (h1 k c hk)
 rw [h2, bS9]
 simp only
 unfold c5m
 have wrs : wr ((m.States.length : Int) - 1) = (m.States.length : Int) - 1 := b64 (b1q (by omega))
 have wrc : wr ((m.Counters.length : Int) - 1) = (m.Counters.length : Int) - 1 := b64 (b1q (by omega))
 have rule : ∀ (k : Nat) x, m.Rules[k]? = some x -> (OkRule m x /\ b7z m k = some (.nx ((k : Int) + 1))) \/ (¬ OkRule m x /\ b7z m k = some (.br (.inr 41))) := fun k x hx => by
  have hk := b1m hx
  unfold b7z
  simp only [b1e hx, bS9, Int.ofNat_lt, hk, decide_true, if_true, wrs]
  by_cases hft : b1o x.From (-1) ((m.States.length : Int) - 1) = true /\ b1o x.To 0 ((m.States.length : Int) - 1) = true
  case neg =>
   rw [if_pos (by simp only [Bool.or_eq_true, Bool.not_eq_true', <- Bool.not_eq_true]; exact Classical.not_and_iff_not_or_not.1 hft), bS9, Bool.true_or]
   refine .inr ⟨fun h => hft ?_, rfl⟩
   rw [b3p, b3p]
   have := h.f; have := h.t
   unfold In at this
   exact ⟨by omega, by omega⟩
  rw [if_neg (by simp only [Bool.or_eq_true, Bool.not_eq_true', <- Bool.not_eq_true]; exact fun h => h.elim (fun h => h hft.1) fun h => h hft.2)]
  rw [b3p, b3p] at hft
  obtain ⟨b, h1, h2⟩ := d9n hz x.When
  rw [h1, bS9, bS9]
  by_cases hb : b = true /\ x.Sets.length <= 4
  case neg =>
   rw [if_pos (by
    simp only [Bool.or_eq_true, Bool.not_eq_true', decide_eq_true_eq]
    rcases Classical.not_and_iff_not_or_not.1 hb with h | h
    ·exact .inl (c3b h)
    ·exact .inr (by omega))]
   exact .inr ⟨fun h => hb ⟨h2.2 (c7p.1 h.w).1, h.n⟩, rfl⟩
  rw [if_neg (by
    simp only [Bool.or_eq_true, Bool.not_eq_true', decide_eq_true_eq, hb.1]
    have := hb.2
    simp; omega)]
  have hw := h2.1 hb.1
  rcases b32 (f := c12 x) (l := x.When) (p := fun _ t => ∃ l ∈ t, l.Kind = 3) (e := .inr 41) (u := .inl ()) (b1q (by have := hw.1; omega)) (fun k t ht => by
    have hk := b1m ht
    obtain ⟨b, h1, h2⟩ := c3w (g := b60 t (fun z53 => some (b6z z53))) (s := t) (f := fun z53 => some (b6z z53)) (p := fun l => l.Kind = 3) rfl (b1q (by have := (hw.2 t (b1f.2 ⟨k, ht⟩)).1; omega)) (fun x hx => ⟨_, rfl, by unfold b6z; simp⟩)
    refine ⟨b, ?_, h2⟩
    unfold c12
    simp only [b1e ht, bS9, Int.ofNat_lt, hk, decide_true, if_true]
    rw [h1]; rfl) (by unfold c12; simp only [Int.lt_irrefl, decide_false, fT9, if_false]) with ⟨h3, h4⟩ | ⟨⟨j, s, h3, h4⟩, h5⟩
  case inr =>
   rw [h5]
   exact .inr ⟨fun h => (c7p.1 h.w).2 s (b1f.2 ⟨j, h3⟩) h4, rfl⟩
  have hw' : b4u m false x.When := c7p.2 ⟨hw, fun t ht => by obtain ⟨k, hk⟩ := b1f.1 ht; exact h3 k t hk⟩
  rw [h4]
  simp only [bS9]
  unfold c5o
  clear h3 h4
  rcases b32 (f := c14 m x) (l := x.Sets) (p := fun _ s => ¬ ((1 <= s.Kind /\ s.Kind <= 3) /\ In s.Counter m.Counters.length)) (e := .inr 41) (u := .inl ()) (b1q (by omega)) (fun k s hs => by
    have hk := b1m hs
    refine ⟨!(b1o s.Kind 1 3) || !(b1o s.Counter 0 ((m.Counters.length : Int) - 1)), ?_, ?_⟩
    ·unfold c14
     simp only [b1e hs, bS9, Int.ofNat_lt, hk, decide_true, if_true, wrc]
    ·simp only [Bool.or_eq_true, Bool.not_eq_true', <- Bool.not_eq_true, b3p, In]; omega) (by unfold c14; simp only [Int.lt_irrefl, decide_false, fT9, if_false]) with ⟨h3, h4⟩ | ⟨⟨j, s, h3, h4⟩, h5⟩
  ·rw [h4]
   refine .inl ⟨⟨by omega, by unfold In; omega, hw', hb.2, fun s hs => by obtain ⟨k, hk⟩ := b1f.1 hs; exact Classical.not_not.1 (h3 k s hk)⟩, ?_⟩
   simp only [bS9, c5n]; rw [b21 hk (b1q (by omega))]
  ·rw [h5]
   exact .inr ⟨fun h => h4 (h.s s (b1f.2 ⟨j, h3⟩)), rfl⟩
 rcases c0y (f := b7z m) m.Rules (fun _ r => ¬ OkRule m r) (.inr 41) (.inl ()) (fun k x hx hb => (rule k x hx).elim (fun h => absurd h.1 hb) fun h => h.2) (fun k x hx hb => (rule k x hx).elim (fun h => h.2) fun h => absurd h.1 hb)
   (by unfold b7z; simp only [Int.lt_irrefl, decide_false, fT9, if_false]) with ⟨h1, h2⟩ | ⟨⟨k, x, h1, h2⟩, h3⟩
 ·rw [h2]
  exact ⟨0, rfl, .inl ⟨rfl, hz, hn, hC, hS, fun r hr => by obtain ⟨k, hk⟩ := b1f.1 hr; exact Classical.not_not.1 (h1 k r hk)⟩⟩
 ·rw [h3]
  exact ⟨41, rfl, .inr ⟨rfl, fun h => h2 (h.r x (b1f.2 ⟨k, h1⟩))⟩⟩
theorem d09 {m : Machine} (hf : ∀ n ∈ b3e m, n.size <= maxLen) : ∃ e, b8l m = some e /\ ((e = 0 /\ OkM m) \/ (e = 41 /\ ¬ OkM m)) := by
 obtain ⟨e, h1, h2⟩ := d9o hf
 exact ⟨e, by unfold b8l; rw [h1]; rfl, h2⟩
end Go.Nw.KM
namespace Go.Nw.KM
noncomputable section
def b2y (m : Machine) (i : Nat) : Int := match m.Counters[i]? with | some c => c.Max | none => 0
structure OkP (m : Machine) (p : Place) : Prop where
 s : In p.State m.States.length
 a : 0 <= p.Values.1 /\ p.Values.1 <= b2y m 0
 b : 0 <= p.Values.2 /\ p.Values.2 <= b2y m 1
def OkX (m : Machine) (x : Int) : Prop := In x (2 ^ m.Inputs.length)
def lit (m : Machine) (p : Place) (x : Int) (l : Literal) : Bool := (b7d ⟨m⟩ l p x).getD false
def b4r (m : Machine) (p : Place) (x : Int) (c : List (List Literal)) : Bool := c.any fun t => t.all (lit m p x)
def c24 (m : Machine) (p : Place) (x : Int) (c : List (List Literal)) : Bool := c.isEmpty || b4r m p x c
theorem c98 (p : Place) : Place.mk p.State (p.Values.1, p.Values.2) = p := rfl
theorem b7l {a b n : Int} (h : In n 2) : get [a, b] n = some (if n = 0 then a else b) := by
 obtain ⟨h0, h1⟩ := h
 have : n = 0 \/ n = 1 := by omega
 rcases this with rfl | rfl <;> rfl
theorem d53 {m : Machine} (hs : SizesOk m) {p : Place} (hp : In p.State m.States.length) {x : Int} {l : Literal} {ins : Bool} (hl : b4k m ins l) :
  b7d ⟨m⟩ l p x = some (lit m p x l) /\ b9c m p x l = some (lit m p x l) := by
 have key : ∃ b, b7d ⟨m⟩ l p x = some b /\ b9c m p x l = some b := by
  have hi := hs.i; have ho := hs.o; have hc := hs.c
  unfold b7d b9c b5v b6v
  rcases hl with ⟨hk, hn, _⟩ | ⟨hk, n, c, hn, hx, _⟩ | ⟨hk, _⟩ | ⟨hk, hn, _⟩
  ·obtain ⟨h0, h1⟩ := hn
   simp only [hk, decide_true, if_true]
   rw [c55 h0 (by omega), d7w h0]
   exact ⟨_, rfl, rfl⟩
  ·have hlt := b1m hx
   simp only [hk, Int.reduceEq, decide_false, fT9, if_false, decide_true, if_true]
   rw [b7l ⟨by omega, by omega⟩]
   exact ⟨_, rfl, rfl⟩
  ·simp only [hk, Int.reduceEq, decide_false, fT9, if_false, decide_true, if_true]
   exact ⟨_, rfl, rfl⟩
  ·obtain ⟨h0, h1⟩ := hn
   obtain ⟨k, s, _, _, hg⟩ := c8i hp
   simp only [hk, Int.reduceEq, decide_false, fT9, if_false, decide_true, if_true]
   rw [hg, bS9, bS9, c55 h0 (by omega), d7w h0]
   exact ⟨_, rfl, rfl⟩
 obtain ⟨b, h1, h2⟩ := key
 have : lit m p x l = b := by unfold lit; rw [h1]; rfl
 rw [this]; exact ⟨h1, h2⟩
theorem d9t {m : Machine} (hs : SizesOk m) {p : Place} (hp : In p.State m.States.length) {x : Int} {c : List (List Literal)} {ins : Bool} (hc : b4u m ins c) : b9p ⟨m⟩ c p x = some (b4r m p x c) := by
 unfold b9p
 obtain ⟨b, h1, h2⟩ := c3w (g := c51 c (fun z3 => b7b z3 ⟨m⟩ p x)) (s := c) (f := fun z3 => b7b z3 ⟨m⟩ p x) (p := fun t => t.all (lit m p x) = true) rfl (b1q (by have := hc.1; omega)) (fun t ht => by
  obtain ⟨b, h1, h2⟩ := c3w (g := b60 t (fun z3 => b7c z3 ⟨m⟩ p x)) (s := t) (f := fun z3 => b7c z3 ⟨m⟩ p x) (p := fun l => lit m p x l = false) rfl (b1q (by have := (hc.2 t ht).1; omega)) (fun l hl => by
   refine ⟨!(lit m p x l), ?_, by simp⟩
   unfold b7c
   rw [(d53 hs hp ((hc.2 t ht).2 l hl)).1]; rfl)
  refine ⟨!b, by unfold b7b; rw [h1]; rfl, ?_⟩
  rw [List.all_eq_true, Bool.not_eq_true', <- Bool.not_eq_true, h2]
  constructor
  ·exact fun h l hl => by
    cases hq : lit m p x l with
    | true => rfl
    | false => exact absurd ⟨l, hl, hq⟩ h
  ·rintro h ⟨l, hl, hq⟩; rw [h l hl] at hq; cases hq)
 rw [h1, bS9]
 congr 1
 rw [Bool.eq_iff_iff, h2]
 unfold b4r
 rw [List.any_eq_true]
theorem d9u {m : Machine} (hs : SizesOk m) {p : Place} (hp : In p.State m.States.length) {x : Int} {c : List (List Literal)} {ins : Bool} (hc : b4u m ins c) : c1b m p x c = some (b4r m p x c) := by
 have inner : ∀ (i : Nat) t, c[i]? = some t -> b0w (c1d m p x c i) (true, 0) = some (t.all (lit m p x)) := fun i t ht => by
  have htm := hc.2 t (b1f.2 ⟨i, ht⟩)
  refine b6i t.length (fun s k => (s, k)) (fun k => (t.take k).all (lit m p x)) _ (by simp) (fun k hk => ?_) ?_
  ·obtain ⟨l, hl⟩ := b3z hk
   unfold c1d
   simp only [b1e ht, b1e hl, bS9, Int.ofNat_lt, hk, decide_true, if_true]
   rw [(d53 hs hp (htm.2 l (b1f.2 ⟨k, hl⟩))).2, b21 hk (b1q (by omega)), List.take_add_one, hl]
   simp only [Option.toList_some, List.all_append, List.all_cons, List.all_nil, Bool.and_true]
   cases (t.take k).all (lit m p x) <;> simp
  ·unfold c1d
   simp only [b1e ht, bS9, Int.lt_irrefl, decide_false, fT9, if_false, List.take_length]
 unfold c1b
 rcases b32 (f := c1c m p x c) (l := c) (p := fun _ t => t.all (lit m p x) = true) (e := .inr true) (u := .inl ()) (b1q (by have := hc.1; omega)) (fun k t ht => by
   have hk := b1m ht
   refine ⟨t.all (lit m p x), ?_, Iff.rfl⟩
   unfold c1c c4y c4x
   simp only [Int.ofNat_lt, hk, decide_true, if_true]
   rw [inner k t ht]; rfl) (by unfold c1c; simp only [Int.lt_irrefl, decide_false, fT9, if_false]) with ⟨h1, h2⟩ | ⟨⟨k, t, h1, h2⟩, h3⟩
 ·rw [h2, bS9]
  show some false = _
  congr 1
  symm
  unfold b4r
  rw [List.any_eq_false]
  intro t ht
  obtain ⟨k, hk⟩ := b1f.1 ht
  exact h1 k t hk
 ·rw [h3, bS9]
  show some true = _
  congr 1
  symm
  unfold b4r
  exact List.any_eq_true.2 ⟨t, b1f.2 ⟨k, h1⟩, h2⟩
theorem d21 {α β : Type} {f : Int -> Option (Out Int β)} {l : List α} {p : α -> Bool} {e : α -> β} {u : β} (hl : l.length <= maxLen)
  (h : ∀ (k : Nat) x, l[k]? = some x -> f k = (if p x = true then some (.br (e x)) else some (.nx (wr ((k : Int) + 1))))) (fin : f (l.length : Int) = some (.br u)) :
  b0w f 0 = some (match l.find? p with | some x => e x | none => u) := by
 refine j0y (σ := Unit) l (fun _ k => k) (fun r _ => match r.find? p with | some x => e x | none => u) (fun _ _ => True) (fun _ k x r hd hx hlt hm _ => ?_) (fun _ _ => fin) (s := ()) trivial
 have hxk : l[k]? = some x := by
  have := b6c hx; simpa using this
 rw [h k x hxk]
 cases hp : p x with
 | true => exact .inr (by simp [List.find?, hp])
 | false => exact .inl ⟨(), by rw [if_neg (by simp), b21 (b1m hxk) hl], trivial, by simp [List.find?, hp]⟩
def b6j (m : Machine) (p : Place) (x : Int) (r : Rule) : Bool := (decide (r.From = -1) || decide (r.From = p.State)) && b4r m p x r.When
def b47 (m : Machine) (s : Set) (old : Int) : Int := if s.Kind = 1 then 0 else if s.Kind = 2 then mn (old + 1) (b2y m s.Counter.toNat) else mx (old - 1) 0
def b3m (m : Machine) (v : Int × Int) (s : Set) : Int × Int := if s.Counter = 0 then (b47 m s v.1, v.2) else (v.1, b47 m s v.2)
def nxt (m : Machine) (p : Place) (x : Int) : Place := match m.Rules.find? (b6j m p x) with
 | some r => ⟨r.To, r.Sets.foldl (b3m m) p.Values⟩
 | none => p
def OkV (m : Machine) (v : Int × Int) : Prop := (0 <= v.1 /\ v.1 <= b2y m 0) /\ (0 <= v.2 /\ v.2 <= b2y m 1)
theorem b6m {m : Machine} (hc : ∀ c ∈ m.Counters, 1 <= c.Max /\ c.Max <= 7) (i : Nat) : 0 <= b2y m i /\ b2y m i <= 7 := by
 unfold b2y
 cases h : m.Counters[i]? with
 | none => simp
 | some c => have := hc c (b1f.2 ⟨i, h⟩); simp only; omega
def b9n (m : Machine) (s : Set) : Prop := (1 <= s.Kind /\ s.Kind <= 3) /\ In s.Counter m.Counters.length
theorem j7x {m : Machine} (hm : OkM m) {s : Set} (hs : b9n m s) {v : Int × Int} (hv : OkV m v) : OkV m (b3m m v s) := by
 obtain ⟨⟨h1, h2⟩, h3⟩ := hv
 have m0 := b6m hm.c 0; have m1 := b6m hm.c 1
 have hc := hm.z.c
 obtain ⟨⟨k1, k2⟩, c0, c1⟩ := hs
 unfold b3m
 have hcn : s.Counter = 0 \/ s.Counter = 1 := by omega
 rcases hcn with e | e
 ·rw [if_pos e]
  refine ⟨?_, h3⟩
  unfold b47
  rw [e, d6k, d6r]
  simp only [Int.toNat_zero]
  split
  ·omega
  ·split <;> omega
 ·rw [if_neg (by omega)]
  refine ⟨⟨h1, h2⟩, ?_⟩
  unfold b47
  rw [e, d6k, d6r]
  simp only [show Int.toNat 1 = 1 from rfl]
  split
  ·omega
  ·split <;> omega
theorem c3p {m : Machine} (hm : OkM m) : ∀ (l : List Set), (∀ s ∈ l, b9n m s) -> ∀ {v : Int × Int}, OkV m v -> OkV m (l.foldl (b3m m) v)
 | [], _, v, hv => hv
 | s :: l, hl, v, hv => c3p hm l (fun x hx => hl x (List.mem_cons_of_mem _ hx)) (j7x hm (hl s List.mem_cons_self) hv)
theorem j41 {m : Machine} (hm : OkM m) {p : Place} (hp : OkP m p) (x : Int) : OkP m (nxt m p x) := by
 unfold nxt
 cases h : m.Rules.find? (b6j m p x) with
 | none => exact hp
 | some r =>
  have hr := hm.r r (List.mem_of_find?_eq_some h)
  have hv := c3p hm r.Sets hr.s (v := p.Values) ⟨hp.a, hp.b⟩
  exact ⟨hr.t, hv.1, hv.2⟩
theorem d7t {m : Machine} (hm : OkM m) {s : Set} (hs : b9n m s) {v : Int × Int} (hv : OkV m v) (w : Int) (hw : w = b47 m s (if s.Counter = 0 then v.1 else v.2)) : (b09 s.Counter 0 w v.1, b09 s.Counter 1 w v.2) = b3m m v s := by
 have hc := hm.z.c
 obtain ⟨_, c0, c1⟩ := hs
 have hcn : s.Counter = 0 \/ s.Counter = 1 := by omega
 subst hw
 unfold b3m b09
 rcases hcn with e | e <;> simp [e]
theorem d15 {m : Machine} {s : Set} (hs : b9n m s) : ∃ c, get m.Counters s.Counter = some c /\ b2y m s.Counter.toNat = c.Max := by
 obtain ⟨k, c, hk, hx, hg⟩ := c8i hs.2
 refine ⟨c, hg, ?_⟩
 rw [hk]; unfold b2y
 simp [hx]
theorem j72 {m : Machine} (hm : OkM m) {s : Set} (hs : b9n m s) {p : Place} (hv : OkV m p.Values) : b9u ⟨m⟩ s p = some ⟨p.State, b3m m p.Values s⟩ := by
 have hc := hm.z.c
 obtain ⟨⟨h1, h2⟩, h3, h4⟩ := hv
 have m0 := b6m hm.c 0; have m1 := b6m hm.c 1
 have hin : In s.Counter 2 := by have := hs.2; unfold In at *; omega
 have hold : -1 < (if s.Counter = 0 then p.Values.1 else p.Values.2) /\ (if s.Counter = 0 then p.Values.1 else p.Values.2) < 8 := by split <;> omega
 have key := fun w hw => d7t hm hs (v := p.Values) ⟨⟨h1, h2⟩, h3, h4⟩ w hw
 unfold b9u
 rw [b7l hin, bS9]
 obtain ⟨c, hg, hmx⟩ := d15 hs
 obtain ⟨⟨k1, k2⟩, _⟩ := hs
 have hk : s.Kind = 1 \/ s.Kind = 2 \/ s.Kind = 3 := by omega
 rcases hk with e | e | e
 ·simp only [e, decide_true, if_true]
  rw [key 0 (by unfold b47; rw [if_pos e])]
 ·simp only [e, Int.reduceEq, decide_false, fT9, if_false, decide_true, if_true]
  rw [hg, bS9, b34 (by omega) (by omega), key _ (by unfold b47; rw [if_neg (show ¬ s.Kind = 1 by omega), if_pos e, hmx])]
 ·simp only [e, Int.reduceEq, decide_false, fT9, if_false, decide_true, if_true]
  rw [b34 (by omega) (by omega), key _ (by unfold b47; rw [if_neg (show ¬ s.Kind = 1 by omega), if_neg (show ¬ s.Kind = 2 by omega)])]
theorem g4q {m : Machine} {r : Rule} (hr : OkRule m r) {p : Place} : (decide (¬r.From = (-1)) && decide (¬r.From = p.State)) = !(decide (r.From = -1) || decide (r.From = p.State)) := by
 by_cases h1 : r.From = -1 <;> by_cases h2 : r.From = p.State <;> simp [h1, h2]
theorem d1e {m : Machine} (hm : OkM m) {p : Place} (hp : OkP m p) (x : Int) : b8b ⟨m⟩ p x = some (nxt m p x) := by
 have hr := hm.z.r
 have inner : ∀ r ∈ m.Rules, b0w (b9t ⟨m⟩ r) (p.State, p.Values.1, p.Values.2, 0) = some (p.State, (r.Sets.foldl (b3m m) p.Values).1, (r.Sets.foldl (b3m m) p.Values).2) := fun r hrm => by
  have ho := hm.r r hrm
  refine b6i r.Sets.length (fun (s : Int × Int) k => (p.State, s.1, s.2, k)) (fun k => (r.Sets.take k).foldl (b3m m) p.Values) _ (by simp) (fun k hk => ?_) ?_
  ·obtain ⟨s, hs⟩ := b3z hk
   have hv := c3p hm (r.Sets.take k) (fun s hs => ho.s s (List.mem_of_mem_take hs)) (v := p.Values) ⟨hp.a, hp.b⟩
   unfold b9t
   simp only [b1e hs, bS9, Int.ofNat_lt, hk, decide_true, if_true]
   rw [j72 hm (ho.s s (b1f.2 ⟨k, hs⟩)) hv, bS9, b21 hk (b1q (by have := ho.n; omega)), List.take_add_one, hs]
   simp
  ·unfold b9t
   simp only [Int.lt_irrefl, decide_false, fT9, if_false, List.take_length]
 unfold b8b c2z
 rw [d21 (l := m.Rules) (p := b6j m p x) (e := fun r => (r.To, (r.Sets.foldl (b3m m) p.Values).1, (r.Sets.foldl (b3m m) p.Values).2)) (u := (p.State, p.Values.1, p.Values.2)) (b1q (by omega)) (fun k r hrk => by
   have hk := b1m hrk
   have hrm := b1f.2 ⟨k, hrk⟩
   unfold c2x c20 c2y
   simp only [b1e hrk, bS9, Int.ofNat_lt, hk, decide_true, if_true]
   rw [g4q (hm.r r hrm), c98, d9t hm.z hp.s (hm.r r hrm).w]
   unfold b6j
   cases hfr : (decide (r.From = -1) || decide (r.From = p.State)) with
   | false => simp
   | true =>
    cases hh : b4r m p x r.When with
    | false => simp
    | true => simp [inner r hrm]) (by unfold c2x; simp only [Int.lt_irrefl, decide_false, fT9, if_false])]
 unfold nxt
 cases m.Rules.find? (b6j m p x) <;> rfl
theorem d1b {m : Machine} (hm : OkM m) {p : Place} (hp : OkP m p) (x : Int) : b88 m p x = some (nxt m p x) := by
 have hr := hm.z.r
 have inner : ∀ r ∈ m.Rules, b0w (c1h m r) (p.Values.1, p.Values.2, 0) = some ((r.Sets.foldl (b3m m) p.Values).1, (r.Sets.foldl (b3m m) p.Values).2) := fun r hrm => by
  have ho := hm.r r hrm
  refine b6i r.Sets.length (fun (s : Int × Int) k => (s.1, s.2, k)) (fun k => (r.Sets.take k).foldl (b3m m) p.Values) _ (by simp) (fun k hk => ?_) ?_
  ·obtain ⟨s, hs⟩ := b3z hk
   have hv := c3p hm (r.Sets.take k) (fun s hs => ho.s s (List.mem_of_mem_take hs)) (v := p.Values) ⟨hp.a, hp.b⟩
   have hso := ho.s s (b1f.2 ⟨k, hs⟩)
   have hin : In s.Counter 2 := by have := hso.2; have := hm.z.c; unfold In at *; omega
   rw [List.take_add_one, hs]
   simp only [Option.toList_some, List.foldl_append, List.foldl_cons, List.foldl_nil]
   generalize (r.Sets.take k).foldl (b3m m) p.Values = v at hv
   have m0 := b6m hm.c 0; have m1 := b6m hm.c 1
   have key := fun w hw => d7t hm hso hv w hw
   obtain ⟨⟨h1, h2⟩, h3, h4⟩ := hv
   have hold : -1 < (if s.Counter = 0 then v.1 else v.2) /\ (if s.Counter = 0 then v.1 else v.2) < 8 := by split <;> omega
   obtain ⟨c, hg, hmx⟩ := d15 hso
   obtain ⟨⟨k1, k2⟩, _⟩ := hso
   have hk3 : s.Kind = 1 \/ s.Kind = 2 \/ s.Kind = 3 := by omega
   unfold c1h b7u
   simp only [b1e hs, bS9, Int.ofNat_lt, hk, decide_true, if_true]
   rw [b21 hk (b1q (by have := ho.n; omega))]
   rcases hk3 with e | e | e
   ·simp only [e, decide_true, if_true]
    rw [b7l hin, bS9, <- key 0 (by unfold b47; rw [if_pos e])]
   ·simp only [e, Int.reduceEq, decide_false, fT9, if_false, decide_true, if_true]
    rw [b7l hin, bS9, hg, bS9, b34 (by omega) (by omega), <- key _ (by unfold b47; rw [if_neg (show ¬ s.Kind = 1 by omega), if_pos e, hmx])]
   ·simp only [e, Int.reduceEq, decide_false, fT9, if_false, decide_true, if_true]
    rw [b7l hin, bS9, b34 (by omega) (by omega), <- key _ (by unfold b47; rw [if_neg (show ¬ s.Kind = 1 by omega), if_neg (show ¬ s.Kind = 2 by omega)])]
  ·unfold c1h
   simp only [Int.lt_irrefl, decide_false, fT9, if_false, List.take_length]
 unfold b88 c42
 rw [d21 (l := m.Rules) (p := b6j m p x) (e := fun r => .inr ⟨r.To, r.Sets.foldl (b3m m) p.Values⟩) (u := .inl ()) (b1q (by omega)) (fun k r hrk => by
   have hk := b1m hrk
   have hrm := b1f.2 ⟨k, hrk⟩
   have hfr0 := (hm.r r hrm).f
   unfold c40 c43 c41
   simp only [b1e hrk, bS9, Int.ofNat_lt, hk, decide_true, if_true]
   have e0 : (decide (0 <= r.From) && decide (¬r.From = p.State)) = !(decide (r.From = -1) || decide (r.From = p.State)) := by
    by_cases h1 : r.From = -1
    ·simp [h1]
    ·by_cases h2 : r.From = p.State
     ·simp [h2]
     ·have : 0 <= r.From := by omega
      simp [h1, h2, this]
   rw [e0, d9u hm.z hp.s (hm.r r hrm).w]
   unfold b6j
   cases hfr : (decide (r.From = -1) || decide (r.From = p.State)) with
   | false => simp
   | true =>
    cases hh : b4r m p x r.When with
    | false => simp
    | true => simp [inner r hrm]) (by unfold c40; simp only [Int.lt_irrefl, decide_false, fT9, if_false])]
 unfold nxt
 cases m.Rules.find? (b6j m p x) <;> rfl
end
end Go.Nw.KM
namespace Go.Nw.KM
noncomputable section
def zero : Place := ⟨0, (0, 0)⟩
theorem m67 {m : Machine} (hm : OkM m) : OkP m zero := by
 have := hm.z.s
 exact ⟨⟨by simp [zero], by simp [zero]; omega⟩, ⟨Int.le_refl _, (b6m hm.c 0).1⟩, ⟨Int.le_refl _, (b6m hm.c 1).1⟩⟩
abbrev S3 := List Place × List Int × List Int
def b9v (s : S3) (i x : Nat) (q : Place) : S3 := if q ∈ s.1 then s else (s.1 ++ [q], s.2.1 ++ [(i : Int)], s.2.2 ++ [(x : Int)])
section
variable (m : Machine) (c : List (List Literal)) (hd : Nat -> Int)
def inn (i : Nat) (p : Place) : Nat -> S3 -> S3
 | 0, s => s
 | x + 1, s => if c24 m p x c = true then b9v (inn i p x s) i x (nxt m p (hd x)) else inn i p x s
def b3k : Nat -> S3
 | 0 => ([zero], [-1], [0])
 | k + 1 => match (b3k k).1[k]? with | some p => inn m c hd k p (2 ^ m.Inputs.length) (b3k k) | none => b3k k
end
variable {m : Machine} {c : List (List Literal)} {hd : Nat -> Int}
structure Good (m : Machine) (s : S3) : Prop where
 n : s.1.Nodup
 o : ∀ p ∈ s.1, OkP m p
 b : s.2.1.length = s.1.length
 i : s.2.2.length = s.1.length
theorem d1f (s : S3) (i x : Nat) (q : Place) : s.1 <+: (b9v s i x q).1 := by
 unfold b9v; split
 ·exact List.prefix_refl _
 ·exact List.prefix_append _ _
theorem d94 (s : S3) (i x : Nat) (q : Place) : q ∈ (b9v s i x q).1 := by
 unfold b9v; split
 ·assumption
 ·simp
theorem c8j {i : Nat} {p : Place} : ∀ (x : Nat) {s : S3}, s.1 <+: (inn m c hd i p x s).1
 | 0, s => List.prefix_refl _
 | x + 1, s => by
  unfold inn; split
  ·exact (c8j x).trans (d1f _ _ _ _)
  ·exact c8j x
theorem d5h {i : Nat} {p : Place} {j : Nat} (ha : c24 m p j c = true) : ∀ (x : Nat) {s : S3}, j < x -> nxt m p (hd j) ∈ (inn m c hd i p x s).1
 | 0, s, h => by omega
 | x + 1, s, h => by
  by_cases e : j = x
  ·subst e; unfold inn; rw [if_pos ha]; exact d94 _ _ _ _
  ·have ih := d5h (i := i) ha x (s := s) (by omega)
   unfold inn; split
   ·exact (d1f _ _ _ _).subset ih
   ·exact ih
theorem j5x (k : Nat) : (b3k m c hd k).1 <+: (b3k m c hd (k + 1)).1 := by
 conv => rhs; unfold b3k
 split
 ·exact c8j _
 ·exact List.prefix_refl _
theorem d7e {α : Type} {l r : List α} (h : l <+: r) {k : Nat} {x : α} (hx : l[k]? = some x) : r[k]? = some x := by
 obtain ⟨t, rfl⟩ := h
 rw [List.getElem?_append_left (b1m hx)]; exact hx
theorem d1g {m : Machine} (hs : SizesOk m) : b9a m = some ((2 ^ m.Inputs.length : Nat) : Int) := by
 have := hs.i
 unfold b9a
 rw [c55 (by omega) (by omega), c5k (by omega)]
 simp
theorem d7d {m : Machine} (hs : SizesOk m) : 2 ^ m.Inputs.length <= 16 := Nat.pow_le_pow_right (n := 2) (by omega) hs.i
theorem d1h {α : Type} {b : Nat} {l m : List α} (hl : l.length <= 1000) (hm : m.length <= 1000) (hb : b <= 1000) : ap b l m = some (l ++ m) := b8c (by
 have : (l.length + m.length) * b <= 2000 * 1000 := Nat.mul_le_mul (by omega) hb
 omega)
end
end Go.Nw.KM
namespace Go.Nw.KM
noncomputable section
section
variable (m : Machine) (c : List (List Literal)) (hd : Nat -> Int)
def rv (P : List Place) (p : Place) (j : Nat) : Int := if c24 m p j c = true then (P.idxOf (nxt m p (hd j)) : Int) else -1
end
variable {m : Machine} {c : List (List Literal)} {hd : Nat -> Int}
theorem closed {k i j : Nat} {p : Place} (hp : (b3k m c hd k).1[i]? = some p) (hi : i < k) (ha : c24 m p j c = true) (hj : j < 2 ^ m.Inputs.length) : nxt m p (hd j) ∈ (b3k m c hd k).1 := by
 induction k with
 | zero => omega
 | succ k ih =>
  have hpre := j5x (m := m) (c := c) (hd := hd) k
  by_cases e : i = k
  ·subst e
   conv at hp => lhs; unfold b3k
   cases hq : (b3k m c hd i).1[i]? with
   | none =>
    simp only [hq] at hp
    cases hp
   | some q =>
    have : p = q := by
     have h1 := d7e hpre hq
     conv at h1 => lhs; unfold b3k
     rw [h1] at hp; exact (Option.some.inj hp).symm
    subst this
    have hout : b3k m c hd (i + 1) = inn m c hd i p (2 ^ m.Inputs.length) (b3k m c hd i) := by
     conv => lhs; unfold b3k
     rw [hq]
    rw [hout]
    exact d5h ha _ hj
  ·by_cases hlt : i < (b3k m c hd k).1.length
   ·obtain ⟨q, hq⟩ := b3z hlt
    have h1 := d7e hpre hq
    rw [h1] at hp
    have : p = q := (Option.some.inj hp).symm
    subst this
    exact hpre.subset (ih hq (by omega))
   ·have hn : (b3k m c hd k).1[k]? = none := List.getElem?_eq_none (by omega)
    conv at hp => lhs; unfold b3k
    simp only [hn] at hp
    exact absurd (b1m hp) hlt
end
end Go.Nw.KM
namespace Go.Nw.KM
noncomputable section
def Few {α : Type} (l : List α) : Prop := l.length <= 1048576
def c7a (c : List (List Literal)) : Prop := Few c /\ ∀ t ∈ c, Few t
structure FewM (m : Machine) : Prop where
 i : Few m.Inputs
 o : Few m.Outputs
 c : Few m.Counters
 s : Few m.States
 r : Few m.Rules
 w : ∀ r ∈ m.Rules, c7a r.When /\ Few r.Sets
 n : ∀ n ∈ b3e m, n.size <= maxLen
theorem b5w {α : Type} {b : Nat} {l m : List α} (hl : l.length <= 1048576) (hm : m.length <= 1048576) (hb : b <= 64) : ap b l m = some (l ++ m) := b8c (by
 have : (l.length + m.length) * b <= 2097152 * 64 := Nat.mul_le_mul (by omega) hb
 omega)
theorem d2z {n : Nat} (h : n <= 1048576) : n <= maxLen := by simp only [maxLen]; omega
theorem d76 {α : Type} {l : List α} {k : Nat} {x : α} (hx : l[k]? = some x) : l.take k ++ [x] = l.take (k + 1) := by
 rw [List.take_add_one, hx]; rfl
theorem d9p {c : List (List Literal)} (h : c7a c) : c08 c = some c := by
 have h1 := h.1
 unfold Few at h1
 unfold c08 c4v
 have := b6i (f := c09 c) c.length (fun (s : List (List Literal)) k => (s, k)) (fun k => c.take k) c (s0 := []) rfl (fun k hk => by
   obtain ⟨x, hx⟩ := b3z hk
   have hf : x.length <= 1048576 := h.2 x (b1f.2 ⟨k, hx⟩)
   unfold c09
   simp only [Int.ofNat_lt, hk, decide_true, if_true, b1e hx, bS9]
   rw [b5w (by simp) hf (by omega), bS9, List.nil_append, b5w (by rw [List.length_take]; omega) (by simp) (by omega), bS9, b21 hk (d2z h1), d76 hx]) (by
   unfold c09
   simp only [Int.lt_irrefl, decide_false, fT9, if_false, List.take_length])
 rw [this]; rfl
theorem j7g (r : Rule) : Rule.mk r.From r.To r.When r.Sets = r := rfl
theorem d9q {m : Machine} (h : FewM m) : c07 m = some m := by
 have hi := h.i; have ho := h.o; have hc := h.c; have hs := h.s; have hr := h.r
 unfold Few at hi ho hc hs hr
 unfold c07 c4w
 rw [b5w (by simp) hi (by omega), bS9, b5w (by simp) ho (by omega), bS9, b5w (by simp) hc (by omega), bS9, b5w (by simp) hs (by omega), bS9]
 have := b6i (f := c1a m) m.Rules.length (fun (s : List Rule) k => (s, k)) (fun k => m.Rules.take k) m.Rules (s0 := []) rfl (fun k hk => by
   obtain ⟨x, hx⟩ := b3z hk
   obtain ⟨h1, h2⟩ := h.w x (b1f.2 ⟨k, hx⟩)
   unfold c1a
   simp only [Int.ofNat_lt, hk, decide_true, if_true, b1e hx, bS9]
   rw [d9p h1, bS9, b5w (by simp) h2 (by omega), bS9, List.nil_append, j7g, b5w (by rw [List.length_take]; omega) (by simp) (by omega), bS9, b21 hk (d2z hr), d76 hx]) (by
   unfold c1a
   simp only [Int.lt_irrefl, decide_false, fT9, if_false, List.take_length])
 rw [this]; rfl
theorem j7w {a : List Place} (h : a.length <= maxLen) : c0v a a = some true := by
 unfold c0v c4d
 rw [if_neg (by simp)]
 have := b6i (f := c0w a a) a.length (fun (_ : Unit) k => k) (fun _ => ()) (.inl ()) (s0 := ()) rfl (fun k hk => by
   obtain ⟨x, hx⟩ := b3z hk
   unfold c0w
   simp only [Int.ofNat_lt, hk, decide_true, if_true, b1e hx, bS9, Bool.not_true, fT9, if_false, b21 hk h]) (by
   unfold c0w
   simp only [Int.lt_irrefl, decide_false, fT9, if_false])
 rw [this]; rfl
end
end Go.Nw.KM
namespace Go.Nw.KM
section
variable [Bd]
theorem j8h {c : List (List Literal)} (hB : Bd.B <= 1048576) (h : OkL (OkL b5u) c) : c7a c := ⟨Nat.le_trans h.1 hB, fun t ht => Nat.le_trans (h.2 t ht).1 hB⟩
theorem j8g {m : Machine} (h : b79 m) : ∀ n ∈ b3e m, n.size <= maxLen := by
 obtain ⟨h1, h2, h3, h4, h5⟩ := h
 intro n hn
 have hB := Bd.le
 simp only [b3e, List.mem_append, List.mem_map] at hn
 rcases hn with ((hn | hn) | ⟨c, hc, rfl⟩) | ⟨c, hc, rfl⟩
 ·exact Nat.le_trans (h1.2 n hn) hB
 ·exact Nat.le_trans (h2.2 n hn) hB
 ·exact Nat.le_trans (h3.2 c hc).1 hB
 ·exact Nat.le_trans (h4.2 c hc).1 hB
theorem tdm {m : Machine} (hB : Bd.B <= 1048576) (h : b79 m) : FewM m := by
 have hn := j8g h
 obtain ⟨h1, h2, h3, h4, h5⟩ := h
 exact ⟨Nat.le_trans h1.1 hB, Nat.le_trans h2.1 hB, Nat.le_trans h3.1 hB, Nat.le_trans h4.1 hB, Nat.le_trans h5.1 hB, fun r hr => ⟨j8h hB (h5.2 r hr).2.2.1, Nat.le_trans (h5.2 r hr).2.2.2.1 hB⟩, hn⟩
end
end Go.Nw.KM
