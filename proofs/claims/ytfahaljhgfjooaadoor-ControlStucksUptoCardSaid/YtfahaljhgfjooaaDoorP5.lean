/- Plain laws on the models. -/
import Derived.Test.YtfahaljhgfjooaaDoorP4
import Derived.Test.YtfahaljhgfjooaaDoorNwMapL
import Derived.Test.YtfahaljhgfjooaaDoorNwPlain
import Derived.Test.YtfahaljhgfjooaaDoorP3
set_option linter.all false
namespace Go.Nw.KM
def In (n : Int) (k : Nat) : Prop := 0 <= n /\ n < (k : Int)
def b4x (m : Machine) (inside : Bool) (l : Literal) : Prop :=
 (l.Kind = 1 /\ In l.Number m.Inputs.length /\ l.Value = 0) \/ (l.Kind = 2 /\ ∃ (n : Nat) (c : Counter), l.Number = n /\ m.Counters[n]? = some c /\ 0 <= l.Value /\ l.Value <= c.Max) \/
 (l.Kind = 3 /\ inside = true /\ In l.Number m.States.length /\ l.Value = 0) \/ (l.Kind = 4 /\ In l.Number m.Outputs.length /\ l.Value = 0)
def b2w (m : Machine) (inside : Bool) (c : List (List Literal)) : Prop := c.length <= 6 /\ ∀ t ∈ c, t.length <= 6 /\ ∀ l ∈ t, b4x m inside l
theorem d01 {α : Type} {l : List α} {n : Int} (h : In n l.length) : ∃ (k : Nat) (x : α), n = k /\ l[k]? = some x /\ get l n = some x := by
 obtain ⟨h0, h1⟩ := h
 obtain ⟨k, rfl⟩ := Int.eq_ofNat_of_zero_le h0
 obtain ⟨x, hx⟩ := b3m (l := l) (k := k) (by omega)
 exact ⟨k, x, rfl, hx, b1g hx⟩
theorem c11 {n : Int} {k : Nat} (hk : k <= maxLen) : (decide (0 <= n) && decide (n <= wr ((k : Int) - 1))) = true ↔ In n k := by
 rw [c0w hk]
 simp only [Bool.and_eq_true, decide_eq_true_eq, In]
 constructor <;> exact fun h => ⟨by omega, by omega⟩
theorem b1p {n : Nat} (h : n <= 1000) : n <= maxLen := by simp only [maxLen]; omega
theorem d9a {m : Machine} (hs : SizesOk m) {l : Literal} {inside : Bool} {β : Type} {g : Bool -> Option β} :
  ∃ b : Bool, (if decide (l.Kind = 1) then g ((b15 l.Number 0 (wr ((List.length m.Inputs : Int) - 1))) && (decide (l.Value = 0)))
   else if decide (l.Kind = 2) then (if (b15 l.Number 0 (wr ((List.length m.Counters : Int) - 1))) then (get m.Counters l.Number).bind fun x30 => some (b15 l.Value 0 x30.Max) else some false).bind fun c31 => g c31
   else if decide (l.Kind = 3) then g ((inside && (b15 l.Number 0 (wr ((List.length m.States : Int) - 1)))) && (decide (l.Value = 0)))
   else if decide (l.Kind = 4) then g ((b15 l.Number 0 (wr ((List.length m.Outputs : Int) - 1))) && (decide (l.Value = 0)))
   else g false) = g b /\ (b = true ↔ b4x m inside l) := by
 have hi := b1p (Nat.le_trans hs.i (by omega)); have ho := b1p (Nat.le_trans hs.o (by omega)); have hc := b1p (Nat.le_trans hs.c (by omega)); have hst := b1p (Nat.le_trans hs.s.2 (by omega))
 unfold b15 b4x
 by_cases h1 : l.Kind = 1
 ·refine ⟨_, by rw [if_pos (by simpa using h1)], ?_⟩
  rw [Bool.and_eq_true, c11 hi]
  simp [h1]
 by_cases h2 : l.Kind = 2
 ·rw [if_neg (by simpa using h1), if_pos (by simpa using h2)]
  by_cases hin : In l.Number m.Counters.length
  ·obtain ⟨k, c, hk, hx, hg⟩ := d01 hin
   rw [if_pos ((c11 hc).2 hin), hg]
   refine ⟨_, rfl, ?_⟩
   simp only [h2, Int.reduceEq, false_and, true_and, false_or, or_false, Bool.and_eq_true, decide_eq_true_eq]
   constructor
   ·exact fun h => ⟨k, c, hk, hx, h⟩
   ·rintro ⟨n, c', hn, hx', h⟩
    have : n = k := by omega
    subst this
    rw [hx] at hx'; cases hx'; exact h
  ·rw [if_neg (fun h => hin ((c11 hc).1 h))]
   refine ⟨_, rfl, ?_⟩
   simp only [h2, Int.reduceEq, false_and, true_and, false_or, or_false, Bool.false_eq_true, false_iff, not_exists]
   rintro n c ⟨hn, hx, _⟩
   exact hin ⟨by omega, by have := b1m hx; omega⟩
 by_cases h3 : l.Kind = 3
 ·refine ⟨_, by rw [if_neg (by simpa using h1), if_neg (by simpa using h2), if_pos (by simpa using h3)], ?_⟩
  rw [Bool.and_eq_true, Bool.and_eq_true, c11 hst]
  simp [h3, and_assoc]
 by_cases h4 : l.Kind = 4
 ·refine ⟨_, by rw [if_neg (by simpa using h1), if_neg (by simpa using h2), if_neg (by simpa using h3), if_pos (by simpa using h4)], ?_⟩
  rw [Bool.and_eq_true, c11 ho]
  simp [h4]
 ·refine ⟨false, by rw [if_neg (by simpa using h1), if_neg (by simpa using h2), if_neg (by simpa using h3), if_neg (by simpa using h4)], ?_⟩
  simp [h1, h2, h3, h4]
theorem d9b {m : Machine} (hs : SizesOk m) {c : List (List Literal)} {i : Nat} {t : List Literal} (ht : c[i]? = some t) (inside : Bool) (hl : t.length <= 6) :
  ((∀ l ∈ t, b4x m inside l) /\ b0w (b8v m c inside i) 0 = some (.inl ())) \/ ((∃ l ∈ t, ¬ b4x m inside l) /\ b0w (b8v m c inside i) 0 = some (.inr false)) := by
 rcases b38 (f := b8v m c inside i) (l := t) (p := fun _ l => ¬ b4x m inside l) (e := .inr false) (u := .inl ()) (b1p (by omega)) (fun k x hx => by
   have hk := b1m hx
   obtain ⟨b, h1, h2⟩ := d9a hs (l := x) (inside := inside) (g := b7g k)
   refine ⟨!b, ?_, by rw [<- h2]; simp⟩
   unfold b8v
   simp only [b1g ht, b1g hx, Option.bind_some, Int.ofNat_lt, hk, decide_true, if_true]
   rw [h1]
   rfl) (by unfold b8v; simp only [b1g ht, Option.bind_some, Int.lt_irrefl, decide_false, Bool.false_eq_true, if_false]) with ⟨h1, h2⟩ | ⟨⟨k, x, h1, h2⟩, h3⟩
 ·exact .inl ⟨fun l hl => by obtain ⟨k, hk⟩ := b1c.1 hl; exact Classical.not_not.1 (h1 k l hk), h2⟩
 ·exact .inr ⟨⟨x, b1c.2 ⟨k, h1⟩, h2⟩, h3⟩
theorem d42 {m : Machine} (hs : SizesOk m) (c : List (List Literal)) (inside : Bool) : ∃ b, c0e m c inside = some b /\ (b = true ↔ b2w m inside c) := by
 unfold c0e
 by_cases h6 : c.length <= 6
 case neg => exact ⟨false, by rw [if_pos (by simp; omega)], by simp [b2w]; intro h; omega⟩
 rw [if_neg (by simp; omega)]
 rcases c2k (f := c0f m c inside) c (fun _ t => ¬ (t.length <= 6 /\ ∀ l ∈ t, b4x m inside l)) (.inr false) (.inl ()) (fun k t ht hb => by
   have hk := b1m ht
   unfold c0f
   simp only [b1g ht, Option.bind_some, Int.ofNat_lt, hk, decide_true, if_true]
   by_cases hl : t.length <= 6
   ·rw [if_neg (by simp; omega)]
    rcases d9b hs ht inside hl with ⟨h1, _⟩ | ⟨_, h2⟩
    ·exact absurd ⟨hl, h1⟩ hb
    ·rw [h2]; rfl
   ·rw [if_pos (by simp; omega)]) (fun k t ht hb => by
   have hk := b1m ht
   obtain ⟨hl, h0⟩ := Classical.not_not.1 hb
   unfold c0f
   simp only [b1g ht, Option.bind_some, Int.ofNat_lt, hk, decide_true, if_true]
   rw [if_neg (by simp; omega)]
   rcases d9b hs ht inside hl with ⟨_, h2⟩ | ⟨⟨l, h1, h2⟩, _⟩
   ·rw [h2]; simp only [Option.bind_some, c6z]; rw [b2t hk (b1p (by omega))]
   ·exact absurd (h0 l h1) h2) (by unfold c0f; simp only [Int.lt_irrefl, decide_false, Bool.false_eq_true, if_false]) with ⟨h1, h2⟩ | ⟨⟨k, t, h1, h2⟩, h3⟩
 ·rw [h2]
  exact ⟨true, rfl, by simp only [true_iff]; exact ⟨h6, fun t ht => by obtain ⟨k, hk⟩ := b1c.1 ht; exact Classical.not_not.1 (h1 k t hk)⟩⟩
 ·rw [h3]
  exact ⟨false, rfl, by simp only [Bool.false_eq_true, false_iff]; exact fun h => h2 (h.2 t (b1c.2 ⟨k, h1⟩))⟩
theorem g3x {m : Machine} (hs : SizesOk m) (l : Literal) : ∃ b, c3t m l = some b /\ (b = true ↔ b4x m true l) := by
 obtain ⟨b, h1, h2⟩ := d9a hs (l := l) (inside := true) (g := fun b => some b)
 refine ⟨b, ?_, h2⟩
 rw [<- h1]
 unfold c3t b2m b15
 simp only [Bool.true_and]
theorem d39 {m : Machine} (hs : SizesOk m) (c : List (List Literal)) : ∃ b, c0q m c = some b /\ (b = true ↔ b2w m true c) := by
 unfold c0q
 by_cases h6 : c.length <= 6
 case neg => exact ⟨false, by rw [if_pos (by simp; omega)], by simp [b2w]; intro h; omega⟩
 rw [if_neg (by simp; omega)]
 rcases b38 (f := c3l m c) (l := c) (p := fun _ t => ¬ (t.length <= 6 /\ ∀ l ∈ t, b4x m true l)) (e := .inr false) (u := .inl ()) (b1p (by omega)) (fun k t ht => by
   have hk := b1m ht
   unfold c3l
   simp only [b1g ht, Option.bind_some, Int.ofNat_lt, hk, decide_true, if_true]
   by_cases hl : t.length <= 6
   ·rw [if_neg (by simp; omega)]
    obtain ⟨b, h1, h2⟩ := c5l (g := b7l t (fun z14 => b8y z14 m)) (s := t) (f := fun z14 => b8y z14 m) (p := fun l => ¬ b4x m true l) rfl (b1p (by omega)) (fun x hx => by
     obtain ⟨b, h1, h2⟩ := g3x hs x
     exact ⟨!b, by unfold b8y; rw [h1]; rfl, by rw [<- h2]; simp⟩)
    rw [h1]
    refine ⟨b, rfl, ?_⟩
    rw [h2]
    constructor
    ·rintro ⟨x, hx, h⟩ hh; exact h (hh.2 x hx)
    ·intro h
     exact Classical.byContradiction fun hn => h ⟨hl, fun l hl' => Classical.byContradiction fun h' => hn ⟨l, hl', h'⟩⟩
   ·rw [if_pos (by simp; omega)]
    exact ⟨true, rfl, by simp; intro h; omega⟩) (by unfold c3l; simp only [Int.lt_irrefl, decide_false, Bool.false_eq_true, if_false]) with ⟨h1, h2⟩ | ⟨⟨k, t, h1, h2⟩, h3⟩
 ·rw [h2]
  exact ⟨true, rfl, by simp only [true_iff]; exact ⟨h6, fun t ht => by obtain ⟨k, hk⟩ := b1c.1 ht; exact Classical.not_not.1 (h1 k t hk)⟩⟩
 ·rw [h3]
  exact ⟨false, rfl, by simp only [Bool.false_eq_true, false_iff]; exact fun h => h2 (h.2 t (b1c.2 ⟨k, h1⟩))⟩
end Go.Nw.KM
namespace Go.Nw.KM
def b84 (l : List ByteArray) (k : Nat) (x : ByteArray) : Prop := ¬ c2l x \/ x ∈ l.take k
def c30 (l : List ByteArray) : Prop := ∃ k x, l[k]? = some x /\ b84 l k x
structure OkRule (m : Machine) (r : Rule) : Prop where
 f : -1 <= r.From /\ r.From < (m.States.length : Int)
 t : In r.To m.States.length
 w : b2w m false r.When
 n : r.Sets.length <= 4
 s : ∀ s ∈ r.Sets, (1 <= s.Kind /\ s.Kind <= 3) /\ In s.Counter m.Counters.length
structure OkM (m : Machine) : Prop where
 z : SizesOk m
 n : ¬ c30 (b29 m)
 c : ∀ c ∈ m.Counters, 1 <= c.Max /\ c.Max <= 7
 s : ∀ s ∈ m.States, 0 <= s.Shows /\ s.Shows < 2 ^ m.Outputs.length
 r : ∀ r ∈ m.Rules, OkRule m r
theorem d92 {m : Machine} (h : SizesOk m) : (b29 m).length <= 24 := by
 have := h.i; have := h.o; have := h.c; have := h.s
 simp [b29]; omega
theorem d91 {s : ByteArray} (hs : s.size <= maxLen) : ∃ b, (if decide (8 < (ByteArray.size s : Int)) then some true else (c0d s).bind fun y70 => some (!y70)) = some b /\ (b = true ↔ ¬ c2l s) := by
 by_cases h8 : s.size <= 8
 ·obtain ⟨b, h1, h2⟩ := g3o s hs
  rw [if_neg (by simp; omega), h1]
  exact ⟨!b, rfl, by simp [c2l, h8, <- h2]⟩
 ·rw [if_pos (by simp; omega)]
  exact ⟨true, rfl, by simp [c2l]; intro h; omega⟩
theorem j6j {l : List ByteArray} (hl : l.length <= 24) (hf : ∀ n ∈ l, n.size <= maxLen) : (¬ c30 l /\ b0w (b7f l) 0 = some (.inl ())) \/ (c30 l /\ b0w (b7f l) 0 = some (.inr 41)) := by
 have inner : ∀ (i : Nat) x, l[i]? = some x -> (x ∉ l.take i /\ b0w (b8p l i) 0 = some (.inl ())) \/ (x ∈ l.take i /\ b0w (b8p l i) 0 = some (.inr 41)) := fun i x hx => by
  have hi := b1m hx
  have htl : (l.take i).length = i := by rw [List.length_take]; omega
  rcases b38 (f := b8p l i) (l := l.take i) (p := fun _ y => y = x) (e := .inr 41) (u := .inl ()) (b1p (by omega)) (fun k y hy => by
    have hk := b1m hy
    rw [htl] at hk
    rw [List.getElem?_take, if_pos hk] at hy
    refine ⟨decide (y = x), ?_, by simp⟩
    unfold b8p
    simp only [b1g hx, b1g hy, Option.bind_some, Int.ofNat_lt, hk, decide_true, if_true]) (by rw [htl]; unfold b8p; simp only [Int.lt_irrefl, decide_false, Bool.false_eq_true, if_false]) with ⟨h1, h2⟩ | ⟨⟨k, y, h1, h2⟩, h3⟩
  ·exact .inl ⟨fun h => by obtain ⟨k, hk⟩ := b1c.1 h; exact h1 k x hk rfl, h2⟩
  ·exact .inr ⟨b1c.2 ⟨k, h2 ▸ h1⟩, h3⟩
 rcases c2k (f := b7f l) l (b84 l) (.inr 41) (.inl ()) (fun k x hx hb => by
   have hk := b1m hx
   obtain ⟨b, h1, h2⟩ := d91 (hf x (b1c.2 ⟨k, hx⟩))
   unfold b7f
   simp only [b1g hx, Option.bind_some, Int.ofNat_lt, hk, decide_true, if_true]
   rw [h1, Option.bind_some]
   cases b with
   | true => rfl
   | false =>
    rw [if_neg (by simp)]
    rcases inner k x hx with ⟨h3, _⟩ | ⟨_, h4⟩
    ·rcases hb with hb | hb
     ·exact absurd (h2.2 hb) (by simp)
     ·exact absurd hb h3
    ·rw [h4]; rfl) (fun k x hx hb => by
   have hk := b1m hx
   obtain ⟨b, h1, h2⟩ := d91 (hf x (b1c.2 ⟨k, hx⟩))
   unfold b7f
   simp only [b1g hx, Option.bind_some, Int.ofNat_lt, hk, decide_true, if_true]
   rw [h1, Option.bind_some]
   have hbf : b = false := c4w fun h => hb (.inl (h2.1 h))
   subst hbf
   rw [if_neg (by simp)]
   rcases inner k x hx with ⟨_, h4⟩ | ⟨h3, _⟩
   ·rw [h4]; simp only [Option.bind_some, c6n]; rw [b2t hk (b1p (by omega))]
   ·exact absurd (.inr h3) hb) (by unfold b7f; simp only [Int.lt_irrefl, decide_false, Bool.false_eq_true, if_false]) with ⟨h1, h2⟩ | ⟨h1, h2⟩
 ·exact .inl ⟨fun ⟨k, x, a, b⟩ => h1 k x a b, h2⟩
 ·exact .inr ⟨h1, h2⟩
theorem b54 {n a b : Int} : b15 n a b = true ↔ a <= n /\ n <= b := by unfold b15; simp
theorem b6j {n a b : Int} : b2m n a b = true ↔ a <= n /\ n <= b := by unfold b2m; simp
theorem c7e {n : Nat} (h : n <= 6) : shl .i64 1 (n : Int) = some (2 ^ n) := by
 rw [l3j (by omega) (by omega)]; simp
theorem g1t {n : Nat} (h : n <= 6) : wr ((2 : Int) ^ n - 1) = 2 ^ n - 1 := by
 have h2 : (2 : Int) ^ n <= 64 := by
  have := Nat.pow_le_pow_right (n := 2) (by omega) h
  have e : ((2 ^ n : Nat) : Int) = (2 : Int) ^ n := by simp
  omega
 have h1 : (0 : Int) < 2 ^ n := Int.pow_pos (by omega)
 exact b3l (by omega) (by omega)
theorem d4c {m : Machine} (hf : ∀ n ∈ b29 m, n.size <= maxLen) : ∃ e, c0b m = some e /\ ((e = 0 /\ OkM m) \/ (e = 41 /\ ¬ OkM m)) := by
 unfold c0b
 by_cases hz : SizesOk m
 case neg =>
  refine ⟨41, ?_, .inr ⟨rfl, fun h => hz h.z⟩⟩
  rw [if_pos]
  refine Classical.byContradiction fun hc => hz ?_
  simp only [Bool.or_eq_true, decide_eq_true_eq, Bool.not_eq_true', not_or, Bool.not_eq_false, b54] at hc
  obtain ⟨⟨⟨⟨h1, h2⟩, h3⟩, h4⟩, h5⟩ := hc
  exact ⟨by omega, by omega, by omega, by omega, by omega⟩
 have hi := hz.i; have ho := hz.o; have hc := hz.c; have hs := hz.s; have hr := hz.r
 rw [if_neg (by
  simp only [Bool.or_eq_true, decide_eq_true_eq, Bool.not_eq_true', not_or, Bool.not_eq_false, b54]
  omega), j6l hz, Option.bind_some]
 rcases j6j (d92 hz) hf with ⟨hn, h2⟩ | ⟨hn, h2⟩
 case inr => rw [h2]; exact ⟨41, rfl, .inr ⟨rfl, fun h => h.n hn⟩⟩
 rw [h2, Option.bind_some]
 simp only
 unfold c6j
 rcases b38 (f := c2s m) (l := m.Counters) (p := fun _ c => ¬ (1 <= c.Max /\ c.Max <= 7)) (e := .inr 41) (u := .inl ()) (b1p (by omega)) (fun k x hx => by
   have hk := b1m hx
   refine ⟨!(b15 x.Max 1 7), ?_, by rw [<- b54]; simp⟩
   unfold c2s
   simp only [b1g hx, Option.bind_some, Int.ofNat_lt, hk, decide_true, if_true]) (by unfold c2s; simp only [Int.lt_irrefl, decide_false, Bool.false_eq_true, if_false]) with ⟨h1, h2⟩ | ⟨⟨k, x, h1, h2⟩, h3⟩
 case inr => rw [h3]; exact ⟨41, rfl, .inr ⟨rfl, fun h => h2 (h.c x (b1c.2 ⟨k, h1⟩))⟩⟩
 have hC : ∀ c ∈ m.Counters, 1 <= c.Max /\ c.Max <= 7 := fun c hc => by obtain ⟨k, hk⟩ := b1c.1 hc; exact Classical.not_not.1 (h1 k c hk)
 rw [h2, Option.bind_some]
 simp only
 unfold c6k
 rcases b38 (f := c2t m) (l := m.States) (p := fun _ s => ¬ (0 <= s.Shows /\ s.Shows < 2 ^ m.Outputs.length)) (e := .inr 41) (u := .inl ()) (b1p (by omega)) (fun k x hx => by
   have hk := b1m hx
   refine ⟨!(b15 x.Shows 0 (2 ^ m.Outputs.length - 1)), ?_, by simp only [Bool.not_eq_true', <- Bool.not_eq_true, b54]; omega⟩
   unfold c2t
   simp only [b1g hx, Option.bind_some, Int.ofNat_lt, hk, decide_true, if_true]
   rw [c72 (by omega) (by omega), c7e ho, Option.bind_some, g1t ho]) (by unfold c2t; simp only [Int.lt_irrefl, decide_false, Bool.false_eq_true, if_false]) with ⟨h1, h2⟩ | ⟨⟨k, x, h1, h2⟩, h3⟩
 case inr => rw [h3]; exact ⟨41, rfl, .inr ⟨rfl, fun h => h2 (h.s x (b1c.2 ⟨k, h1⟩))⟩⟩
 have hS : ∀ s ∈ m.States, 0 <= s.Shows /\ s.Shows < 2 ^ m.Outputs.length := fun c hc => by obtain ⟨k, hk⟩ := b1c.1 hc; exact Classical.not_not.1 (h1 k c hk)
 rw [h2, Option.bind_some]
 simp only
 unfold c6l
 have wrs : wr ((m.States.length : Int) - 1) = (m.States.length : Int) - 1 := c0w (b1p (by omega))
 have wrc : wr ((m.Counters.length : Int) - 1) = (m.Counters.length : Int) - 1 := c0w (b1p (by omega))
 have rule : ∀ (k : Nat) x, m.Rules[k]? = some x -> (OkRule m x /\ b8q m k = some (.nx ((k : Int) + 1))) \/ (¬ OkRule m x /\ b8q m k = some (.br (.inr 41))) := fun k x hx => by
  have hk := b1m hx
  unfold b8q
  simp only [b1g hx, Option.bind_some, Int.ofNat_lt, hk, decide_true, if_true, wrs]
  by_cases hft : b15 x.From (-1) ((m.States.length : Int) - 1) = true /\ b15 x.To 0 ((m.States.length : Int) - 1) = true
  case neg =>
   rw [if_pos (by simp only [Bool.or_eq_true, Bool.not_eq_true', <- Bool.not_eq_true]; exact Classical.not_and_iff_not_or_not.1 hft), Option.bind_some, Bool.true_or]
   refine .inr ⟨fun h => hft ?_, rfl⟩
   rw [b54, b54]
   have := h.f; have := h.t
   unfold In at this
   exact ⟨by omega, by omega⟩
  rw [if_neg (by simp only [Bool.or_eq_true, Bool.not_eq_true', <- Bool.not_eq_true]; exact fun h => h.elim (fun h => h hft.1) fun h => h hft.2)]
  rw [b54, b54] at hft
  obtain ⟨b, h1, h2⟩ := d42 hz x.When false
  rw [h1, Option.bind_some, Option.bind_some]
  by_cases hb : b = true /\ x.Sets.length <= 4
  case neg =>
   rw [if_pos (by
    simp only [Bool.or_eq_true, Bool.not_eq_true', decide_eq_true_eq]
    rcases Classical.not_and_iff_not_or_not.1 hb with h | h
    ·exact .inl (c4w h)
    ·exact .inr (by omega))]
   exact .inr ⟨fun h => hb ⟨h2.2 h.w, h.n⟩, rfl⟩
  rw [if_neg (by
    simp only [Bool.or_eq_true, Bool.not_eq_true', decide_eq_true_eq, hb.1]
    have := hb.2
    simp; omega)]
  rcases b38 (f := c2u m x) (l := x.Sets) (p := fun _ s => ¬ ((1 <= s.Kind /\ s.Kind <= 3) /\ In s.Counter m.Counters.length)) (e := .inr 41) (u := .inl ()) (b1p (by omega)) (fun k s hs => by
    have hk := b1m hs
    refine ⟨!(b15 s.Kind 1 3) || !(b15 s.Counter 0 ((m.Counters.length : Int) - 1)), ?_, ?_⟩
    ·unfold c2u
     simp only [b1g hs, Option.bind_some, Int.ofNat_lt, hk, decide_true, if_true, wrc]
    ·simp only [Bool.or_eq_true, Bool.not_eq_true', <- Bool.not_eq_true, b54, In]; omega) (by unfold c2u; simp only [Int.lt_irrefl, decide_false, Bool.false_eq_true, if_false]) with ⟨h3, h4⟩ | ⟨⟨j, s, h3, h4⟩, h5⟩
  ·rw [h4]
   refine .inl ⟨⟨by omega, by unfold In; omega, h2.1 hb.1, hb.2, fun s hs => by obtain ⟨k, hk⟩ := b1c.1 hs; exact Classical.not_not.1 (h3 k s hk)⟩, ?_⟩
   simp only [Option.bind_some, c6m]; rw [b2t hk (b1p (by omega))]
  ·rw [h5]
   exact .inr ⟨fun h => h4 (h.s s (b1c.2 ⟨j, h3⟩)), rfl⟩
 rcases c2k (f := b8q m) m.Rules (fun _ r => ¬ OkRule m r) (.inr 41) (.inl ()) (fun k x hx hb => (rule k x hx).elim (fun h => absurd h.1 hb) fun h => h.2) (fun k x hx hb => (rule k x hx).elim (fun h => h.2) fun h => absurd h.1 hb)
   (by unfold b8q; simp only [Int.lt_irrefl, decide_false, Bool.false_eq_true, if_false]) with ⟨h1, h2⟩ | ⟨⟨k, x, h1, h2⟩, h3⟩
 ·rw [h2]
  exact ⟨0, rfl, .inl ⟨rfl, hz, hn, hC, hS, fun r hr => by obtain ⟨k, hk⟩ := b1c.1 hr; exact Classical.not_not.1 (h1 k r hk)⟩⟩
 ·rw [h3]
  exact ⟨41, rfl, .inr ⟨rfl, fun h => h2 (h.r x (b1c.2 ⟨k, h1⟩))⟩⟩
end Go.Nw.KM
namespace Go.Nw.KM
theorem j6i {m : Machine} (hz : SizesOk m) (hf : ∀ n ∈ b29 m, n.size <= maxLen) : ∃ b, c3u m = some b /\ (b = true ↔ ¬ c30 (b29 m)) := by
 unfold c3u
 rw [j6k hz, Option.bind_some]
 have hl := d92 hz
 generalize b29 m = l at hf hl
 have keys : ∀ k, (((l.take k).map fun n => (n, (1 : Int))).map (·.1)) = l.take k := fun k => by rw [List.map_map]; simp [Function.comp_def]
 have stepb : ∀ (k : Nat) x, l[k]? = some x -> ∃ b, c0r l ((l.take k).map fun n => (n, (1 : Int)), (k : Int)) = (if b = true then some (.br (.inr false)) else some (.nx ((b3p ((l.take k).map fun n => (n, (1 : Int))) x (wr ((b2q ((l.take k).map fun n => (n, (1 : Int))) x 0) + 1))), (k : Int) + 1))) /\ (b = true ↔ b84 l k x) := fun k x hx => by
  have hk := b1m hx
  obtain ⟨b, h1, h2⟩ := g3i x (hf x (b1c.2 ⟨k, hx⟩))
  refine ⟨_, by
   unfold c0r
   simp only [b1g hx, Option.bind_some, Int.ofNat_lt, hk, decide_true, if_true, h1]
   rw [b2t hk (b1p (by omega))], ?_⟩
  rw [j53]
  by_cases hin : x ∈ l.take k
  ·obtain ⟨d, hd⟩ := d9n (z := (0 : Int)) (l := (l.take k).map fun n => (n, (1 : Int))) (k := x) (by rw [keys]; exact hin)
   rw [List.getElem?_map] at hd
   obtain ⟨y, _, hy⟩ := Option.map_eq_some_iff.1 hd
   simp only [Prod.mk.injEq] at hy
   rw [<- hy.2, show wr ((1 : Int) + 1) = 2 from by decide]
   simp [b84, hin]
  ·rw [d9o (by rw [keys]; exact hin), show wr ((0 : Int) + 1) = 1 from by decide]
   simp only [Bool.or_eq_true, Bool.not_eq_true', <- Bool.not_eq_true, h2, g3j, decide_eq_true_eq, b84, hin, or_false, c2l, b96, Int.lt_irrefl]
   have e8 : ¬ (8 : Int) < (x.size : Int) ↔ x.size <= 8 := by omega
   rw [<- e8]
   exact ⟨fun h hh => h.elim (fun h => h.elim (fun h => h hh.2.2) fun h => hh.1 h) fun h => hh.2.1 h, fun h => by
    refine Classical.byContradiction fun hn => h ?_
    simp only [not_or, Classical.not_not] at hn
    exact ⟨hn.1.2, hn.2, hn.1.1⟩⟩
 rcases d9j (f := c0r l) l (fun s k => (s, k)) (fun k => (l.take k).map fun n => (n, (1 : Int))) (b84 l) (.inr false) (.inl ()) (fun k x _ hx hb => by
   obtain ⟨b, h1, h2⟩ := stepb k x hx
   rw [h1, if_pos (h2.2 hb)]) (fun k x _ hx hb => by
   obtain ⟨b, h1, h2⟩ := stepb k x hx
   rw [h1, if_neg (fun h => hb (h2.1 h))]
   have hin : x ∉ l.take k := fun h => hb (.inr h)
   rw [d9w (by rw [keys]; exact hin), d9o (by rw [keys]; exact hin), show wr ((0 : Int) + 1) = 1 from by decide, List.take_add_one, hx]
   simp) (by unfold c0r; simp only [Int.lt_irrefl, decide_false, Bool.false_eq_true, if_false]) (s0 := []) (by simp) with ⟨h1, h2⟩ | ⟨h1, h2⟩
 ·rw [h2]
  exact ⟨true, rfl, by simp only [true_iff]; exact fun ⟨k, x, a, b⟩ => h1 k x a b⟩
 ·rw [h2]
  exact ⟨false, rfl, by simp only [Bool.false_eq_true, false_iff, Classical.not_not]; exact h1⟩
theorem c96 {m : Machine} {c : List (List Literal)} : b2w m false c ↔ b2w m true c /\ ∀ t ∈ c, ¬ ∃ l ∈ t, l.Kind = 3 := by
 unfold b2w b4x
 constructor
 ·intro h
  refine ⟨⟨h.1, fun t ht => ⟨(h.2 t ht).1, fun l hl => ?_⟩⟩, fun t ht ⟨l, hl, h3⟩ => ?_⟩
  ·rcases (h.2 t ht).2 l hl with h | h | h | h
   ·exact .inl h
   ·exact .inr (.inl h)
   ·simp at h
   ·exact .inr (.inr (.inr h))
  ·rcases (h.2 t ht).2 l hl with h | h | h | h
   ·omega
   ·omega
   ·simp at h
   ·omega
 ·rintro ⟨h, h3⟩
  refine ⟨h.1, fun t ht => ⟨(h.2 t ht).1, fun l hl => ?_⟩⟩
  rcases (h.2 t ht).2 l hl with h | h | h | h
  ·exact .inl h
  ·exact .inr (.inl h)
  ·exact absurd ⟨l, hl, h.1⟩ (h3 t ht)
  ·exact .inr (.inr (.inr h))
theorem g3c {m : Machine} (hf : ∀ n ∈ b29 m, n.size <= maxLen) : ∃ e, c3m m = some e /\ ((e = 0 /\ OkM m) \/ (e = 41 /\ ¬ OkM m)) := by
 unfold c3m
 by_cases hz : SizesOk m
 case neg =>
  refine ⟨41, ?_, .inr ⟨rfl, fun h => hz h.z⟩⟩
  rw [if_pos, Option.bind_some, if_pos rfl]
  refine Classical.byContradiction fun hc => hz ?_
  simp only [Bool.or_eq_true, decide_eq_true_eq, Bool.not_eq_true', not_or, Bool.not_eq_false, b6j] at hc
  obtain ⟨⟨⟨⟨h1, h2⟩, h3⟩, h4⟩, h5⟩ := hc
  exact ⟨by omega, by omega, by omega, by omega, by omega⟩
 have hi := hz.i; have ho := hz.o; have hc := hz.c; have hs := hz.s; have hr := hz.r
 obtain ⟨b, h1, h2⟩ := j6i hz hf
 rw [if_neg (by
  simp only [Bool.or_eq_true, decide_eq_true_eq, Bool.not_eq_true', not_or, Bool.not_eq_false, b6j]
  omega), h1, Option.bind_some, Option.bind_some]
 cases b with
 | false => exact ⟨41, rfl, .inr ⟨rfl, fun h => absurd (h2.2 h.n) (by simp)⟩⟩
 | true =>
 have hn := h2.1 rfl
 rw [if_neg (by simp)]
 clear h1 h2
 rcases b38 (f := c3q m) (l := m.Counters) (p := fun _ c => ¬ (1 <= c.Max /\ c.Max <= 7)) (e := .inr 41) (u := .inl ()) (b1p (by omega)) (fun k x hx => by
   have hk := b1m hx
   refine ⟨!(b2m x.Max 1 7), ?_, by rw [<- b6j]; simp⟩
   unfold c3q
   simp only [b1g hx, Option.bind_some, Int.ofNat_lt, hk, decide_true, if_true]) (by unfold c3q; simp only [Int.lt_irrefl, decide_false, Bool.false_eq_true, if_false]) with ⟨h1, h2⟩ | ⟨⟨k, x, h1, h2⟩, h3⟩
 case inr => rw [h3]; exact ⟨41, rfl, .inr ⟨rfl, fun h => h2 (h.c x (b1c.2 ⟨k, h1⟩))⟩⟩
 have hC : ∀ c ∈ m.Counters, 1 <= c.Max /\ c.Max <= 7 := fun c hc => by obtain ⟨k, hk⟩ := b1c.1 hc; exact Classical.not_not.1 (h1 k c hk)
 rw [h2, Option.bind_some]
 simp only
 unfold c7f
 rcases b38 (f := c3n m) (l := m.States) (p := fun _ s => ¬ (0 <= s.Shows /\ s.Shows < 2 ^ m.Outputs.length)) (e := .inr 41) (u := .inl ()) (b1p (by omega)) (fun k x hx => by
   have hk := b1m hx
   refine ⟨!(b2m x.Shows 0 (2 ^ m.Outputs.length - 1)), ?_, by simp only [Bool.not_eq_true', <- Bool.not_eq_true, b6j]; omega⟩
   unfold c3n
   simp only [b1g hx, Option.bind_some, Int.ofNat_lt, hk, decide_true, if_true]
   rw [c7e ho, Option.bind_some, g1t ho]) (by unfold c3n; simp only [Int.lt_irrefl, decide_false, Bool.false_eq_true, if_false]) with ⟨h1, h2⟩ | ⟨⟨k, x, h1, h2⟩, h3⟩
 case inr => rw [h3]; exact ⟨41, rfl, .inr ⟨rfl, fun h => h2 (h.s x (b1c.2 ⟨k, h1⟩))⟩⟩
 have hS : ∀ s ∈ m.States, 0 <= s.Shows /\ s.Shows < 2 ^ m.Outputs.length := fun c hc => by obtain ⟨k, hk⟩ := b1c.1 hc; exact Classical.not_not.1 (h1 k c hk)
 rw [h2, Option.bind_some]
 simp only
 unfold c7g
 have wrs : wr ((m.States.length : Int) - 1) = (m.States.length : Int) - 1 := c0w (b1p (by omega))
 have wrc : wr ((m.Counters.length : Int) - 1) = (m.Counters.length : Int) - 1 := c0w (b1p (by omega))
 have rule : ∀ (k : Nat) x, m.Rules[k]? = some x -> (OkRule m x /\ b8z m k = some (.nx ((k : Int) + 1))) \/ (¬ OkRule m x /\ b8z m k = some (.br (.inr 41))) := fun k x hx => by
  have hk := b1m hx
  unfold b8z
  simp only [b1g hx, Option.bind_some, Int.ofNat_lt, hk, decide_true, if_true, wrs]
  by_cases hft : b2m x.From (-1) ((m.States.length : Int) - 1) = true /\ b2m x.To 0 ((m.States.length : Int) - 1) = true
  case neg =>
   rw [if_pos (by simp only [Bool.or_eq_true, Bool.not_eq_true', <- Bool.not_eq_true]; exact Classical.not_and_iff_not_or_not.1 hft), Option.bind_some, Bool.true_or]
   refine .inr ⟨fun h => hft ?_, rfl⟩
   rw [b6j, b6j]
   have := h.f; have := h.t
   unfold In at this
   exact ⟨by omega, by omega⟩
  rw [if_neg (by simp only [Bool.or_eq_true, Bool.not_eq_true', <- Bool.not_eq_true]; exact fun h => h.elim (fun h => h hft.1) fun h => h hft.2)]
  rw [b6j, b6j] at hft
  obtain ⟨b, h1, h2⟩ := d39 hz x.When
  rw [h1, Option.bind_some, Option.bind_some]
  by_cases hb : b = true /\ x.Sets.length <= 4
  case neg =>
   rw [if_pos (by
    simp only [Bool.or_eq_true, Bool.not_eq_true', decide_eq_true_eq]
    rcases Classical.not_and_iff_not_or_not.1 hb with h | h
    ·exact .inl (c4w h)
    ·exact .inr (by omega))]
   exact .inr ⟨fun h => hb ⟨h2.2 (c96.1 h.w).1, h.n⟩, rfl⟩
  rw [if_neg (by
    simp only [Bool.or_eq_true, Bool.not_eq_true', decide_eq_true_eq, hb.1]
    have := hb.2
    simp; omega)]
  have hw := h2.1 hb.1
  rcases b38 (f := c3o x) (l := x.When) (p := fun _ t => ∃ l ∈ t, l.Kind = 3) (e := .inr 41) (u := .inl ()) (b1p (by have := hw.1; omega)) (fun k t ht => by
    have hk := b1m ht
    obtain ⟨b, h1, h2⟩ := c5l (g := b7l t (fun z53 => some (b7k z53))) (s := t) (f := fun z53 => some (b7k z53)) (p := fun l => l.Kind = 3) rfl (b1p (by have := (hw.2 t (b1c.2 ⟨k, ht⟩)).1; omega)) (fun x hx => ⟨_, rfl, by unfold b7k; simp⟩)
    refine ⟨b, ?_, h2⟩
    unfold c3o
    simp only [b1g ht, Option.bind_some, Int.ofNat_lt, hk, decide_true, if_true]
    rw [h1]; rfl) (by unfold c3o; simp only [Int.lt_irrefl, decide_false, Bool.false_eq_true, if_false]) with ⟨h3, h4⟩ | ⟨⟨j, s, h3, h4⟩, h5⟩
  case inr =>
   rw [h5]
   exact .inr ⟨fun h => (c96.1 h.w).2 s (b1c.2 ⟨j, h3⟩) h4, rfl⟩
  have hw' : b2w m false x.When := c96.2 ⟨hw, fun t ht => by obtain ⟨k, hk⟩ := b1c.1 ht; exact h3 k t hk⟩
  rw [h4]
  simp only [Option.bind_some]
  unfold c7i
  clear h3 h4
  rcases b38 (f := c3p m x) (l := x.Sets) (p := fun _ s => ¬ ((1 <= s.Kind /\ s.Kind <= 3) /\ In s.Counter m.Counters.length)) (e := .inr 41) (u := .inl ()) (b1p (by omega)) (fun k s hs => by
    have hk := b1m hs
    refine ⟨!(b2m s.Kind 1 3) || !(b2m s.Counter 0 ((m.Counters.length : Int) - 1)), ?_, ?_⟩
    ·unfold c3p
     simp only [b1g hs, Option.bind_some, Int.ofNat_lt, hk, decide_true, if_true, wrc]
    ·simp only [Bool.or_eq_true, Bool.not_eq_true', <- Bool.not_eq_true, b6j, In]; omega) (by unfold c3p; simp only [Int.lt_irrefl, decide_false, Bool.false_eq_true, if_false]) with ⟨h3, h4⟩ | ⟨⟨j, s, h3, h4⟩, h5⟩
  ·rw [h4]
   refine .inl ⟨⟨by omega, by unfold In; omega, hw', hb.2, fun s hs => by obtain ⟨k, hk⟩ := b1c.1 hs; exact Classical.not_not.1 (h3 k s hk)⟩, ?_⟩
   simp only [Option.bind_some, c7h]; rw [b2t hk (b1p (by omega))]
  ·rw [h5]
   exact .inr ⟨fun h => h4 (h.s s (b1c.2 ⟨j, h3⟩)), rfl⟩
 rcases c2k (f := b8z m) m.Rules (fun _ r => ¬ OkRule m r) (.inr 41) (.inl ()) (fun k x hx hb => (rule k x hx).elim (fun h => absurd h.1 hb) fun h => h.2) (fun k x hx hb => (rule k x hx).elim (fun h => h.2) fun h => absurd h.1 hb)
   (by unfold b8z; simp only [Int.lt_irrefl, decide_false, Bool.false_eq_true, if_false]) with ⟨h1, h2⟩ | ⟨⟨k, x, h1, h2⟩, h3⟩
 ·rw [h2]
  exact ⟨0, rfl, .inl ⟨rfl, hz, hn, hC, hS, fun r hr => by obtain ⟨k, hk⟩ := b1c.1 hr; exact Classical.not_not.1 (h1 k r hk)⟩⟩
 ·rw [h3]
  exact ⟨41, rfl, .inr ⟨rfl, fun h => h2 (h.r x (b1c.2 ⟨k, h1⟩))⟩⟩
theorem g3b {m : Machine} (hf : ∀ n ∈ b29 m, n.size <= maxLen) : ∃ e, c1m m = some e /\ ((e = 0 /\ OkM m) \/ (e = 41 /\ ¬ OkM m)) := by
 obtain ⟨e, h1, h2⟩ := g3c hf
 exact ⟨e, by unfold c1m; rw [h1]; rfl, h2⟩
def b85 (m : Machine) (l : List (List (List Literal))) (e : Int) : Prop := (e = 0 /\ OkM m /\ ∀ c ∈ l, b2w m true c) \/ (e = 41 /\ ¬ OkM m) \/ (e = 42 /\ OkM m /\ ∃ c ∈ l, ¬ b2w m true c)
theorem g7a {m : Machine} {l : List (List (List Literal))} {e f : Int} (h : b85 m l e) (h' : b85 m l f) : e = f := by
 rcases h with ⟨rfl, a, b⟩ | ⟨rfl, a⟩ | ⟨rfl, a, b⟩ <;> rcases h' with ⟨rfl, a', b'⟩ | ⟨rfl, a'⟩ | ⟨rfl, a', b'⟩
 ·rfl
 ·exact absurd a a'
 ·obtain ⟨c, hc, hn⟩ := b'; exact absurd (b c hc) hn
 ·exact absurd a' a
 ·rfl
 ·exact absurd a' a
 ·obtain ⟨c, hc, hn⟩ := b; exact absurd (b' c hc) hn
 ·exact absurd a a'
 ·rfl
theorem g65 {m : Machine} (hf : ∀ n ∈ b29 m, n.size <= maxLen) {l : List (List (List Literal))} (hl : l.length <= 1000) : ∃ e, c1o m l = some e /\ b85 m l e := by
 unfold c1o
 obtain ⟨e, h1, h2⟩ := g3b hf
 rw [h1, Option.bind_some]
 rcases h2 with ⟨rfl, ho⟩ | ⟨rfl, ho⟩
 case inr => exact ⟨41, rfl, .inr (.inl ⟨rfl, ho⟩)⟩
 rw [if_neg (by simp)]
 rcases b38 (f := c1p m l) (l := l) (p := fun _ c => ¬ b2w m true c) (e := .inr 42) (u := .inl ()) (b1p hl) (fun k x hx => by
   have hk := b1m hx
   obtain ⟨b, h1, h2⟩ := d39 ho.z x
   refine ⟨!b, ?_, by rw [<- h2]; simp⟩
   unfold c1p
   simp only [b1g hx, Option.bind_some, Int.ofNat_lt, hk, decide_true, if_true, h1]) (by unfold c1p; simp only [Int.lt_irrefl, decide_false, Bool.false_eq_true, if_false]) with ⟨h3, h4⟩ | ⟨⟨j, s, h3, h4⟩, h5⟩
 ·rw [h4]
  exact ⟨0, rfl, .inl ⟨rfl, ho, fun c hc => by obtain ⟨k, hk⟩ := b1c.1 hc; exact Classical.not_not.1 (h3 k c hk)⟩⟩
 ·rw [h5]
  exact ⟨42, rfl, .inr (.inr ⟨rfl, ho, s, b1c.2 ⟨j, h3⟩, h4⟩)⟩
theorem g3a {m : Machine} (hf : ∀ n ∈ b29 m, n.size <= maxLen) {l : List (List (List Literal))} (hl : l.length <= 1000) : ∃ e, c2q m l = some e /\ b85 m l e := by
 unfold c2q
 obtain ⟨e, h1, h2⟩ := d4c hf
 rw [h1, Option.bind_some]
 rcases h2 with ⟨rfl, ho⟩ | ⟨rfl, ho⟩
 case inr => exact ⟨41, rfl, .inr (.inl ⟨rfl, ho⟩)⟩
 rw [if_neg (by simp)]
 rcases b38 (f := c2r m l) (l := l) (p := fun _ c => ¬ b2w m true c) (e := .inr 42) (u := .inl ()) (b1p hl) (fun k x hx => by
   have hk := b1m hx
   obtain ⟨b, h1, h2⟩ := d42 ho.z x true
   refine ⟨!b, ?_, by rw [<- h2]; simp⟩
   unfold c2r
   simp only [b1g hx, Option.bind_some, Int.ofNat_lt, hk, decide_true, if_true, h1]) (by unfold c2r; simp only [Int.lt_irrefl, decide_false, Bool.false_eq_true, if_false]) with ⟨h3, h4⟩ | ⟨⟨j, s, h3, h4⟩, h5⟩
 ·rw [h4]
  exact ⟨0, rfl, .inl ⟨rfl, ho, fun c hc => by obtain ⟨k, hk⟩ := b1c.1 hc; exact Classical.not_not.1 (h3 k c hk)⟩⟩
 ·rw [h5]
  exact ⟨42, rfl, .inr (.inr ⟨rfl, ho, s, b1c.2 ⟨j, h3⟩, h4⟩)⟩
end Go.Nw.KM
namespace Go.Nw.KM
noncomputable section
def b5y (m : Machine) (i : Nat) : Int := match m.Counters[i]? with | some c => c.Max | none => 0
structure OkP (m : Machine) (p : Place) : Prop where
 s : In p.State m.States.length
 a : 0 <= p.Values.1 /\ p.Values.1 <= b5y m 0
 b : 0 <= p.Values.2 /\ p.Values.2 <= b5y m 1
def lit (m : Machine) (p : Place) (x : Int) (l : Literal) : Bool := (b70 ⟨m⟩ l p x).getD false
def b32 (m : Machine) (p : Place) (x : Int) (c : List (List Literal)) : Bool := c.any fun t => t.all (lit m p x)
def b3x (m : Machine) (p : Place) (x : Int) (c : List (List Literal)) : Bool := c.isEmpty || b32 m p x c
theorem d27 (p : Place) : Place.mk p.State (p.Values.1, p.Values.2) = p := rfl
theorem c14 {a b n : Int} (h : In n 2) : get [a, b] n = some (if n = 0 then a else b) := by
 obtain ⟨h0, h1⟩ := h
 have : n = 0 \/ n = 1 := by omega
 rcases this with rfl | rfl <;> rfl
theorem d89 {m : Machine} (hs : SizesOk m) {p : Place} (hp : In p.State m.States.length) {x : Int} {l : Literal} {ins : Bool} (hl : b4x m ins l) :
  b70 ⟨m⟩ l p x = some (lit m p x l) /\ c0j m p x l = some (lit m p x l) := by
 have key : ∃ b, b70 ⟨m⟩ l p x = some b /\ c0j m p x l = some b := by
  have hi := hs.i; have ho := hs.o; have hc := hs.c
  unfold b70 c0j b6l b7i
  rcases hl with ⟨hk, hn, _⟩ | ⟨hk, n, c, hn, hx, _⟩ | ⟨hk, _⟩ | ⟨hk, hn, _⟩
  ·obtain ⟨h0, h1⟩ := hn
   simp only [hk, decide_true, if_true]
   rw [c72 h0 (by omega), g05 h0]
   exact ⟨_, rfl, rfl⟩
  ·have hlt := b1m hx
   simp only [hk, Int.reduceEq, decide_false, Bool.false_eq_true, if_false, decide_true, if_true]
   rw [c14 ⟨by omega, by omega⟩]
   exact ⟨_, rfl, rfl⟩
  ·simp only [hk, Int.reduceEq, decide_false, Bool.false_eq_true, if_false, decide_true, if_true]
   exact ⟨_, rfl, rfl⟩
  ·obtain ⟨h0, h1⟩ := hn
   obtain ⟨k, s, _, _, hg⟩ := d01 hp
   simp only [hk, Int.reduceEq, decide_false, Bool.false_eq_true, if_false, decide_true, if_true]
   rw [hg, Option.bind_some, Option.bind_some, c72 h0 (by omega), g05 h0]
   exact ⟨_, rfl, rfl⟩
 obtain ⟨b, h1, h2⟩ := key
 have : lit m p x l = b := by unfold lit; rw [h1]; rfl
 rw [this]; exact ⟨h1, h2⟩
theorem c9n {m : Machine} (hs : SizesOk m) {p : Place} (hp : In p.State m.States.length) {x : Int} {c : List (List Literal)} {ins : Bool} (hc : b2w m ins c) : b7x ⟨m⟩ c p x = some (b32 m p x c) := by
 unfold b7x
 obtain ⟨b, h1, h2⟩ := c5l (g := c7v c (fun z3 => b7y z3 ⟨m⟩ p x)) (s := c) (f := fun z3 => b7y z3 ⟨m⟩ p x) (p := fun t => t.all (lit m p x) = true) rfl (b1p (by have := hc.1; omega)) (fun t ht => by
  obtain ⟨b, h1, h2⟩ := c5l (g := b7l t (fun z3 => b7z z3 ⟨m⟩ p x)) (s := t) (f := fun z3 => b7z z3 ⟨m⟩ p x) (p := fun l => lit m p x l = false) rfl (b1p (by have := (hc.2 t ht).1; omega)) (fun l hl => by
   refine ⟨!(lit m p x l), ?_, by simp⟩
   unfold b7z
   rw [(d89 hs hp ((hc.2 t ht).2 l hl)).1]; rfl)
  refine ⟨!b, by unfold b7y; rw [h1]; rfl, ?_⟩
  rw [List.all_eq_true, Bool.not_eq_true', <- Bool.not_eq_true, h2]
  constructor
  ·exact fun h l hl => by
    cases hq : lit m p x l with
    | true => rfl
    | false => exact absurd ⟨l, hl, hq⟩ h
  ·rintro h ⟨l, hl, hq⟩; rw [h l hl] at hq; cases hq)
 rw [h1, Option.bind_some]
 congr 1
 rw [Bool.eq_iff_iff, h2]
 unfold b32
 rw [List.any_eq_true]
theorem c9o {m : Machine} (hs : SizesOk m) {p : Place} (hp : In p.State m.States.length) {x : Int} {c : List (List Literal)} {ins : Bool} (hc : b2w m ins c) : b8s m p x c = some (b32 m p x c) := by
 have inner : ∀ (i : Nat) t, c[i]? = some t -> b0w (c2z m p x c i) (true, 0) = some (t.all (lit m p x)) := fun i t ht => by
  have htm := hc.2 t (b1c.2 ⟨i, ht⟩)
  refine b48 t.length (fun s k => (s, k)) (fun k => (t.take k).all (lit m p x)) _ (by simp) (fun k hk => ?_) ?_
  ·obtain ⟨l, hl⟩ := b3m hk
   unfold c2z
   simp only [b1g ht, b1g hl, Option.bind_some, Int.ofNat_lt, hk, decide_true, if_true]
   rw [(d89 hs hp (htm.2 l (b1c.2 ⟨k, hl⟩))).2, b2t hk (b1p (by omega)), List.take_add_one, hl]
   simp only [Option.toList_some, List.all_append, List.all_cons, List.all_nil, Bool.and_true]
   cases (t.take k).all (lit m p x) <;> simp
  ·unfold c2z
   simp only [b1g ht, Option.bind_some, Int.lt_irrefl, decide_false, Bool.false_eq_true, if_false, List.take_length]
 unfold b8s
 rcases b38 (f := c2y m p x c) (l := c) (p := fun _ t => t.all (lit m p x) = true) (e := .inr true) (u := .inl ()) (b1p (by have := hc.1; omega)) (fun k t ht => by
   have hk := b1m ht
   refine ⟨t.all (lit m p x), ?_, Iff.rfl⟩
   unfold c2y c6r c6q
   simp only [Int.ofNat_lt, hk, decide_true, if_true]
   rw [inner k t ht]; rfl) (by unfold c2y; simp only [Int.lt_irrefl, decide_false, Bool.false_eq_true, if_false]) with ⟨h1, h2⟩ | ⟨⟨k, t, h1, h2⟩, h3⟩
 ·rw [h2, Option.bind_some]
  show some false = _
  congr 1
  symm
  unfold b32
  rw [List.any_eq_false]
  intro t ht
  obtain ⟨k, hk⟩ := b1c.1 ht
  exact h1 k t hk
 ·rw [h3, Option.bind_some]
  show some true = _
  congr 1
  symm
  unfold b32
  exact List.any_eq_true.2 ⟨t, b1c.2 ⟨k, h1⟩, h2⟩
theorem g28 {m : Machine} (hs : SizesOk m) {p : Place} (hp : In p.State m.States.length) {x : Int} {c : List (List Literal)} {ins : Bool} (hc : b2w m ins c) : c1b ⟨m⟩ c p x = some (b3x m p x c) := by
 unfold c1b b3x
 cases c with
 | nil => rfl
 | cons t r =>
  rw [if_neg (by simp; omega), c9n hs hp hc]; rfl
theorem g29 {m : Machine} (hs : SizesOk m) {p : Place} (hp : In p.State m.States.length) {x : Int} {c : List (List Literal)} {ins : Bool} (hc : b2w m ins c) : c2p m p x c = some (b3x m p x c) := by
 unfold c2p b3x
 cases c with
 | nil => rfl
 | cons t r =>
  rw [if_neg (by simp; omega), c9o hs hp hc]; rfl
theorem d51 {α β : Type} {f : Int -> Option (Out Int β)} {l : List α} {p : α -> Bool} {e : α -> β} {u : β} (hl : l.length <= maxLen)
  (h : ∀ (k : Nat) x, l[k]? = some x -> f k = (if p x = true then some (.br (e x)) else some (.nx (wr ((k : Int) + 1))))) (fin : f (l.length : Int) = some (.br u)) :
  b0w f 0 = some (match l.find? p with | some x => e x | none => u) := by
 refine j5r (σ := Unit) l (fun _ k => k) (fun r _ => match r.find? p with | some x => e x | none => u) (fun _ _ => True) (fun _ k x r hd hx hlt hm _ => ?_) (fun _ _ => fin) (s := ()) trivial
 have hxk : l[k]? = some x := by
  have := b4d hx; simpa using this
 rw [h k x hxk]
 cases hp : p x with
 | true => exact .inr (by simp [List.find?, hp])
 | false => exact .inl ⟨(), by rw [if_neg (by simp), b2t (b1m hxk) hl], trivial, by simp [List.find?, hp]⟩
def b64 (m : Machine) (p : Place) (x : Int) (r : Rule) : Bool := (decide (r.From = -1) || decide (r.From = p.State)) && b32 m p x r.When
def b5o (m : Machine) (s : Set) (old : Int) : Int := if s.Kind = 1 then 0 else if s.Kind = 2 then mn (old + 1) (b5y m s.Counter.toNat) else mx (old - 1) 0
def b3u (m : Machine) (v : Int × Int) (s : Set) : Int × Int := if s.Counter = 0 then (b5o m s v.1, v.2) else (v.1, b5o m s v.2)
def nxt (m : Machine) (p : Place) (x : Int) : Place := match m.Rules.find? (b64 m p x) with
 | some r => ⟨r.To, r.Sets.foldl (b3u m) p.Values⟩
 | none => p
def OkV (m : Machine) (v : Int × Int) : Prop := (0 <= v.1 /\ v.1 <= b5y m 0) /\ (0 <= v.2 /\ v.2 <= b5y m 1)
theorem b5z {m : Machine} (hc : ∀ c ∈ m.Counters, 1 <= c.Max /\ c.Max <= 7) (i : Nat) : 0 <= b5y m i /\ b5y m i <= 7 := by
 unfold b5y
 cases h : m.Counters[i]? with
 | none => simp
 | some c => have := hc c (b1c.2 ⟨i, h⟩); simp only; omega
def c03 (m : Machine) (s : Set) : Prop := (1 <= s.Kind /\ s.Kind <= 3) /\ In s.Counter m.Counters.length
theorem l3d {m : Machine} (hm : OkM m) {s : Set} (hs : c03 m s) {v : Int × Int} (hv : OkV m v) : OkV m (b3u m v s) := by
 obtain ⟨⟨h1, h2⟩, h3⟩ := hv
 have m0 := b5z hm.c 0; have m1 := b5z hm.c 1
 have hc := hm.z.c
 obtain ⟨⟨k1, k2⟩, c0, c1⟩ := hs
 unfold b3u
 have hcn : s.Counter = 0 \/ s.Counter = 1 := by omega
 rcases hcn with e | e
 ·rw [if_pos e]
  refine ⟨?_, h3⟩
  unfold b5o
  rw [e, d9r, d90]
  simp only [Int.toNat_zero]
  split
  ·omega
  ·split <;> omega
 ·rw [if_neg (by omega)]
  refine ⟨⟨h1, h2⟩, ?_⟩
  unfold b5o
  rw [e, d9r, d90]
  simp only [show Int.toNat 1 = 1 from rfl]
  split
  ·omega
  ·split <;> omega
theorem c5b {m : Machine} (hm : OkM m) : ∀ (l : List Set), (∀ s ∈ l, c03 m s) -> ∀ {v : Int × Int}, OkV m v -> OkV m (l.foldl (b3u m) v)
 | [], _, v, hv => hv
 | s :: l, hl, v, hv => c5b hm l (fun x hx => hl x (List.mem_cons_of_mem _ hx)) (l3d hm (hl s List.mem_cons_self) hv)
theorem j9w {m : Machine} (hm : OkM m) {p : Place} (hp : OkP m p) (x : Int) : OkP m (nxt m p x) := by
 unfold nxt
 cases h : m.Rules.find? (b64 m p x) with
 | none => exact hp
 | some r =>
  have hr := hm.r r (List.mem_of_find?_eq_some h)
  have hv := c5b hm r.Sets hr.s (v := p.Values) ⟨hp.a, hp.b⟩
  exact ⟨hr.t, hv.1, hv.2⟩
theorem g02 {m : Machine} (hm : OkM m) {s : Set} (hs : c03 m s) {v : Int × Int} (hv : OkV m v) (w : Int) (hw : w = b5o m s (if s.Counter = 0 then v.1 else v.2)) : (b1k s.Counter 0 w v.1, b1k s.Counter 1 w v.2) = b3u m v s := by
 have hc := hm.z.c
 obtain ⟨_, c0, c1⟩ := hs
 have hcn : s.Counter = 0 \/ s.Counter = 1 := by omega
 subst hw
 unfold b3u b1k
 rcases hcn with e | e <;> simp [e]
theorem d44 {m : Machine} {s : Set} (hs : c03 m s) : ∃ c, get m.Counters s.Counter = some c /\ b5y m s.Counter.toNat = c.Max := by
 obtain ⟨k, c, hk, hx, hg⟩ := d01 hs.2
 refine ⟨c, hg, ?_⟩
 rw [hk]; unfold b5y
 simp [hx]
theorem l3i {m : Machine} (hm : OkM m) {s : Set} (hs : c03 m s) {p : Place} (hv : OkV m p.Values) : c1e ⟨m⟩ s p = some ⟨p.State, b3u m p.Values s⟩ := by
 have hc := hm.z.c
 obtain ⟨⟨h1, h2⟩, h3, h4⟩ := hv
 have m0 := b5z hm.c 0; have m1 := b5z hm.c 1
 have hin : In s.Counter 2 := by have := hs.2; unfold In at *; omega
 have hold : -1 < (if s.Counter = 0 then p.Values.1 else p.Values.2) /\ (if s.Counter = 0 then p.Values.1 else p.Values.2) < 8 := by split <;> omega
 have key := fun w hw => g02 hm hs (v := p.Values) ⟨⟨h1, h2⟩, h3, h4⟩ w hw
 unfold c1e
 rw [c14 hin, Option.bind_some]
 obtain ⟨c, hg, hmx⟩ := d44 hs
 obtain ⟨⟨k1, k2⟩, _⟩ := hs
 have hk : s.Kind = 1 \/ s.Kind = 2 \/ s.Kind = 3 := by omega
 rcases hk with e | e | e
 ·simp only [e, decide_true, if_true]
  rw [key 0 (by unfold b5o; rw [if_pos e])]
 ·simp only [e, Int.reduceEq, decide_false, Bool.false_eq_true, if_false, decide_true, if_true]
  rw [hg, Option.bind_some, b3l (by omega) (by omega), key _ (by unfold b5o; rw [if_neg (show ¬ s.Kind = 1 by omega), if_pos e, hmx])]
 ·simp only [e, Int.reduceEq, decide_false, Bool.false_eq_true, if_false, decide_true, if_true]
  rw [b3l (by omega) (by omega), key _ (by unfold b5o; rw [if_neg (show ¬ s.Kind = 1 by omega), if_neg (show ¬ s.Kind = 2 by omega)])]
theorem g88 {m : Machine} {r : Rule} (hr : OkRule m r) {p : Place} : (decide (¬r.From = (-1)) && decide (¬r.From = p.State)) = !(decide (r.From = -1) || decide (r.From = p.State)) := by
 by_cases h1 : r.From = -1 <;> by_cases h2 : r.From = p.State <;> simp [h1, h2]
theorem g3l {m : Machine} (hm : OkM m) {p : Place} (hp : OkP m p) (x : Int) : c1c ⟨m⟩ p x = some (nxt m p x) := by
 have hr := hm.z.r
 have inner : ∀ r ∈ m.Rules, b0w (c1d ⟨m⟩ r) (p.State, p.Values.1, p.Values.2, 0) = some (p.State, (r.Sets.foldl (b3u m) p.Values).1, (r.Sets.foldl (b3u m) p.Values).2) := fun r hrm => by
  have ho := hm.r r hrm
  refine b48 r.Sets.length (fun (s : Int × Int) k => (p.State, s.1, s.2, k)) (fun k => (r.Sets.take k).foldl (b3u m) p.Values) _ (by simp) (fun k hk => ?_) ?_
  ·obtain ⟨s, hs⟩ := b3m hk
   have hv := c5b hm (r.Sets.take k) (fun s hs => ho.s s (List.mem_of_mem_take hs)) (v := p.Values) ⟨hp.a, hp.b⟩
   unfold c1d
   simp only [b1g hs, Option.bind_some, Int.ofNat_lt, hk, decide_true, if_true]
   rw [l3i hm (ho.s s (b1c.2 ⟨k, hs⟩)) hv, Option.bind_some, b2t hk (b1p (by have := ho.n; omega)), List.take_add_one, hs]
   simp
  ·unfold c1d
   simp only [Int.lt_irrefl, decide_false, Bool.false_eq_true, if_false, List.take_length]
 unfold c1c c4r
 rw [d51 (l := m.Rules) (p := b64 m p x) (e := fun r => (r.To, (r.Sets.foldl (b3u m) p.Values).1, (r.Sets.foldl (b3u m) p.Values).2)) (u := (p.State, p.Values.1, p.Values.2)) (b1p (by omega)) (fun k r hrk => by
   have hk := b1m hrk
   have hrm := b1c.2 ⟨k, hrk⟩
   unfold c4p c4s c4q
   simp only [b1g hrk, Option.bind_some, Int.ofNat_lt, hk, decide_true, if_true]
   rw [g88 (hm.r r hrm), d27, c9n hm.z hp.s (hm.r r hrm).w]
   unfold b64
   cases hfr : (decide (r.From = -1) || decide (r.From = p.State)) with
   | false => simp
   | true =>
    cases hh : b32 m p x r.When with
    | false => simp
    | true => simp [inner r hrm]) (by unfold c4p; simp only [Int.lt_irrefl, decide_false, Bool.false_eq_true, if_false])]
 unfold nxt
 cases m.Rules.find? (b64 m p x) <;> rfl
theorem g3h {m : Machine} (hm : OkM m) {p : Place} (hp : OkP m p) (x : Int) : c20 m p x = some (nxt m p x) := by
 have hr := hm.z.r
 have inner : ∀ r ∈ m.Rules, b0w (c21 m r) (p.Values.1, p.Values.2, 0) = some ((r.Sets.foldl (b3u m) p.Values).1, (r.Sets.foldl (b3u m) p.Values).2) := fun r hrm => by
  have ho := hm.r r hrm
  refine b48 r.Sets.length (fun (s : Int × Int) k => (s.1, s.2, k)) (fun k => (r.Sets.take k).foldl (b3u m) p.Values) _ (by simp) (fun k hk => ?_) ?_
  ·obtain ⟨s, hs⟩ := b3m hk
   have hv := c5b hm (r.Sets.take k) (fun s hs => ho.s s (List.mem_of_mem_take hs)) (v := p.Values) ⟨hp.a, hp.b⟩
   have hso := ho.s s (b1c.2 ⟨k, hs⟩)
   have hin : In s.Counter 2 := by have := hso.2; have := hm.z.c; unfold In at *; omega
   rw [List.take_add_one, hs]
   simp only [Option.toList_some, List.foldl_append, List.foldl_cons, List.foldl_nil]
   generalize (r.Sets.take k).foldl (b3u m) p.Values = v at hv
   have m0 := b5z hm.c 0; have m1 := b5z hm.c 1
   have key := fun w hw => g02 hm hso hv w hw
   obtain ⟨⟨h1, h2⟩, h3, h4⟩ := hv
   have hold : -1 < (if s.Counter = 0 then v.1 else v.2) /\ (if s.Counter = 0 then v.1 else v.2) < 8 := by split <;> omega
   obtain ⟨c, hg, hmx⟩ := d44 hso
   obtain ⟨⟨k1, k2⟩, _⟩ := hso
   have hk3 : s.Kind = 1 \/ s.Kind = 2 \/ s.Kind = 3 := by omega
   unfold c21 b8t
   simp only [b1g hs, Option.bind_some, Int.ofNat_lt, hk, decide_true, if_true]
   rw [b2t hk (b1p (by have := ho.n; omega))]
   rcases hk3 with e | e | e
   ·simp only [e, decide_true, if_true]
    rw [c14 hin, Option.bind_some, <- key 0 (by unfold b5o; rw [if_pos e])]
   ·simp only [e, Int.reduceEq, decide_false, Bool.false_eq_true, if_false, decide_true, if_true]
    rw [c14 hin, Option.bind_some, hg, Option.bind_some, b3l (by omega) (by omega), <- key _ (by unfold b5o; rw [if_neg (show ¬ s.Kind = 1 by omega), if_pos e, hmx])]
   ·simp only [e, Int.reduceEq, decide_false, Bool.false_eq_true, if_false, decide_true, if_true]
    rw [c14 hin, Option.bind_some, b3l (by omega) (by omega), <- key _ (by unfold b5o; rw [if_neg (show ¬ s.Kind = 1 by omega), if_neg (show ¬ s.Kind = 2 by omega)])]
  ·unfold c21
   simp only [Int.lt_irrefl, decide_false, Bool.false_eq_true, if_false, List.take_length]
 unfold c20 c6u
 rw [d51 (l := m.Rules) (p := b64 m p x) (e := fun r => .inr ⟨r.To, r.Sets.foldl (b3u m) p.Values⟩) (u := .inl ()) (b1p (by omega)) (fun k r hrk => by
   have hk := b1m hrk
   have hrm := b1c.2 ⟨k, hrk⟩
   have hfr0 := (hm.r r hrm).f
   unfold c6s c6v c6t
   simp only [b1g hrk, Option.bind_some, Int.ofNat_lt, hk, decide_true, if_true]
   have e0 : (decide (0 <= r.From) && decide (¬r.From = p.State)) = !(decide (r.From = -1) || decide (r.From = p.State)) := by
    by_cases h1 : r.From = -1
    ·simp [h1]
    ·by_cases h2 : r.From = p.State
     ·simp [h2]
     ·have : 0 <= r.From := by omega
      simp [h1, h2, this]
   rw [e0, c9o hm.z hp.s (hm.r r hrm).w]
   unfold b64
   cases hfr : (decide (r.From = -1) || decide (r.From = p.State)) with
   | false => simp
   | true =>
    cases hh : b32 m p x r.When with
    | false => simp
    | true => simp [inner r hrm]) (by unfold c6s; simp only [Int.lt_irrefl, decide_false, Bool.false_eq_true, if_false])]
 unfold nxt
 cases m.Rules.find? (b64 m p x) <;> rfl
end
end Go.Nw.KM
namespace Go.Nw.KM
noncomputable section
theorem d26 : ∀ (n : Nat) (l : List Nat), l.Nodup -> (∀ x ∈ l, x < n) -> l.length <= n
 | 0, l, _, h => by
  cases l with
  | nil => simp
  | cons a l => exact absurd (h a List.mem_cons_self) (by omega)
 | n + 1, l, hn, h => by
  by_cases hm : n ∈ l
  ·have h1 := d26 n (l.erase n) (hn.erase n) (fun x hx => by
    have := (hn.mem_erase_iff).1 hx
    have := h x this.2
    omega)
   rw [List.length_erase_of_mem hm] at h1
   omega
  ·have := d26 n l hn (fun x hx => by
    have := h x hx
    have : x ≠ n := fun e => hm (e ▸ hx)
    omega)
   omega
theorem j9u {α β : Type} {f : α -> β} {l : List α} (hn : l.Nodup) (hf : ∀ a ∈ l, ∀ b ∈ l, f a = f b -> a = b) : (l.map f).Nodup := by
 unfold List.Nodup at *
 rw [List.pairwise_map]
 refine List.Pairwise.imp_of_mem ?_ hn
 intro a b ha hb hne e
 exact hne (hf a ha b hb e)
def zero : Place := ⟨0, (0, 0)⟩
theorem o2j {m : Machine} (hm : OkM m) : OkP m zero := by
 have := hm.z.s
 exact ⟨⟨by simp [zero], by simp [zero]; omega⟩, ⟨Int.le_refl _, (b5z hm.c 0).1⟩, ⟨Int.le_refl _, (b5z hm.c 1).1⟩⟩
theorem c6g {m : Machine} (hm : OkM m) {l : List Place} (hn : l.Nodup) (ho : ∀ p ∈ l, OkP m p) : l.length <= 768 := by
 have hb : ∀ p ∈ l, 0 <= p.State /\ p.State < 12 /\ 0 <= p.Values.1 /\ p.Values.1 <= 7 /\ 0 <= p.Values.2 /\ p.Values.2 <= 7 := fun p hp => by
  have h := ho p hp
  have hs := hm.z.s
  have := h.s; have := h.a; have := h.b; have := b5z hm.c 0; have := b5z hm.c 1
  unfold In at *
  omega
 have h1 := d26 768 (l.map fun p => (p.State * 64 + p.Values.1 * 8 + p.Values.2).toNat) (j9u hn fun p hp q hq e => by
   have := hb p hp; have := hb q hq
   obtain ⟨s, a, b⟩ := p; obtain ⟨s', a', b'⟩ := q
   simp only at *
   have e1 : s = s' := by omega
   have e2 : a = a' := by omega
   have e3 : b = b' := by omega
   subst e1; subst e2; subst e3; rfl) (fun x hx => by
   obtain ⟨p, hp, rfl⟩ := List.mem_map.1 hx
   have := hb p hp
   omega)
 simpa using h1
abbrev S3 := List Place × List Int × List Int
def b5d (s : S3) (i x : Nat) (q : Place) : S3 := if q ∈ s.1 then s else (s.1 ++ [q], s.2.1 ++ [(i : Int)], s.2.2 ++ [(x : Int)])
section
variable (m : Machine) (c : List (List Literal)) (hd : Nat -> Int)
def inn (i : Nat) (p : Place) : Nat -> S3 -> S3
 | 0, s => s
 | x + 1, s => if b3x m p x c = true then b5d (inn i p x s) i x (nxt m p (hd x)) else inn i p x s
def b05 : Nat -> S3
 | 0 => ([zero], [-1], [0])
 | k + 1 => match (b05 k).1[k]? with | some p => inn m c hd k p (2 ^ m.Inputs.length) (b05 k) | none => b05 k
end
variable {m : Machine} {c : List (List Literal)} {hd : Nat -> Int}
structure Good (m : Machine) (s : S3) : Prop where
 n : s.1.Nodup
 o : ∀ p ∈ s.1, OkP m p
 b : s.2.1.length = s.1.length
 i : s.2.2.length = s.1.length
theorem g3p {s : S3} (h : Good m s) {i x : Nat} {q : Place} (hq : OkP m q) : Good m (b5d s i x q) := by
 unfold b5d
 split
 ·exact h
 ·rename_i hn
  refine ⟨?_, fun p hp => ?_, by simp [h.b], by simp [h.i]⟩
  ·rw [List.nodup_append]
   exact ⟨h.n, by simp, fun a ha b hb e => by simp at hb; subst hb; exact hn (e ▸ ha)⟩
  ·rcases List.mem_append.1 hp with hp | hp
   ·exact h.o p hp
   ·simp at hp; subst hp; exact hq
theorem d4f (s : S3) (i x : Nat) (q : Place) : s.1 <+: (b5d s i x q).1 := by
 unfold b5d; split
 ·exact List.prefix_refl _
 ·exact List.prefix_append _ _
theorem g3q (s : S3) (i x : Nat) (q : Place) : q ∈ (b5d s i x q).1 := by
 unfold b5d; split
 ·assumption
 ·simp
theorem b90 (hm : OkM m) {i : Nat} {p : Place} (hp : OkP m p) : ∀ (x : Nat) {s : S3}, Good m s -> Good m (inn m c hd i p x s)
 | 0, s, h => h
 | x + 1, s, h => by
  unfold inn; split
  ·exact g3p (b90 hm hp x h) (j9w hm hp _)
  ·exact b90 hm hp x h
theorem c2a {i : Nat} {p : Place} : ∀ (x : Nat) {s : S3}, s.1 <+: (inn m c hd i p x s).1
 | 0, s => List.prefix_refl _
 | x + 1, s => by
  unfold inn; split
  ·exact (c2a x).trans (d4f _ _ _ _)
  ·exact c2a x
theorem d02 {i : Nat} {p : Place} {j : Nat} (ha : b3x m p j c = true) : ∀ (x : Nat) {s : S3}, j < x -> nxt m p (hd j) ∈ (inn m c hd i p x s).1
 | 0, s, h => by omega
 | x + 1, s, h => by
  by_cases e : j = x
  ·subst e; unfold inn; rw [if_pos ha]; exact g3q _ _ _ _
  ·have ih := d02 (i := i) ha x (s := s) (by omega)
   unfold inn; split
   ·exact (d4f _ _ _ _).subset ih
   ·exact ih
theorem b7a (hm : OkM m) : ∀ k, Good m (b05 m c hd k)
 | 0 => ⟨by simp [b05], fun p hp => by simp [b05] at hp; subst hp; exact o2j hm, rfl, rfl⟩
 | k + 1 => by
  have ih := b7a hm k
  unfold b05
  split
  ·rename_i p hp; exact b90 hm (ih.o p (b1c.2 ⟨k, hp⟩)) _ ih
  ·exact ih
theorem c2m (k : Nat) : (b05 m c hd k).1 <+: (b05 m c hd (k + 1)).1 := by
 conv => rhs; unfold b05
 split
 ·exact c2a _
 ·exact List.prefix_refl _
theorem l0s {j k : Nat} (h : j <= k) : (b05 m c hd j).1 <+: (b05 m c hd k).1 := by
 induction k with
 | zero => have : j = 0 := by omega
           subst this; exact List.prefix_refl _
 | succ k ih =>
  by_cases e : j = k + 1
  ·subst e; exact List.prefix_refl _
  ·exact (ih (by omega)).trans (c2m k)
theorem l2c (hm : OkM m) : ∃ K, K <= 768 /\ (∀ k, k < K -> k < (b05 m c hd k).1.length) /\ (b05 m c hd K).1.length <= K := by
 have hb : ∀ k, (b05 m c hd k).1.length <= 768 := fun k => c6g hm (b7a hm k).n (b7a hm k).o
 have key : ∀ d, (∃ K, K <= d /\ (∀ k, k < K -> k < (b05 m c hd k).1.length) /\ (b05 m c hd K).1.length <= K) \/ ∀ k, k <= d -> k < (b05 m c hd k).1.length := by
  intro d
  induction d with
  | zero =>
   by_cases h : (b05 m c hd 0).1.length <= 0
   ·exact .inl ⟨0, Nat.le_refl _, fun k hk => by omega, h⟩
   ·exact .inr fun k hk => by have : k = 0 := by omega
                              subst this; omega
  | succ d ih =>
   rcases ih with ⟨K, h1, h2⟩ | h
   ·exact .inl ⟨K, by omega, h2⟩
   ·by_cases h' : (b05 m c hd (d + 1)).1.length <= d + 1
    ·exact .inl ⟨d + 1, Nat.le_refl _, fun k hk => h k (by omega), h'⟩
    ·exact .inr fun k hk => by
      by_cases e : k = d + 1
      ·subst e; omega
      ·exact h k (by omega)
 rcases key 768 with h | h
 ·exact h
 ·have := h 768 (Nat.le_refl _); have := hb 768; omega
theorem b99 {α : Type} {l r : List α} (h : l <+: r) {k : Nat} {x : α} (hx : l[k]? = some x) : r[k]? = some x := by
 obtain ⟨t, rfl⟩ := h
 rw [List.getElem?_append_left (b1m hx)]; exact hx
theorem j3u {l : List Place} (hl : l.length <= 1000) (q : Place) : c3b l q = some (if q ∈ l then (l.idxOf q : Int) else -1) := by
 unfold c3b
 rcases d9j (f := c0i l q) l (fun (_ : Unit) k => k) (fun _ => ()) (fun _ x => x = q) (.inr (l.idxOf q : Int)) (.inl ()) (fun k x hprev hx hb => by
   have hk := b1m hx
   subst hb
   unfold c0i
   simp only [b1g hx, Option.bind_some, Int.ofNat_lt, hk, decide_true, if_true]
   have hm : x ∈ l := b1c.2 ⟨k, hx⟩
   have hlt := List.idxOf_lt_length_iff.2 hm
   have e : l.idxOf x = k := by
    rcases Nat.lt_trichotomy (l.idxOf x) k with h | h | h
    ·have h2 : l[l.idxOf x]? = some x := by rw [List.getElem?_eq_getElem hlt, List.getElem_idxOf]
     exact absurd rfl (hprev _ _ h h2)
    ·exact h
    ·exfalso
     have hxx : l[k] = x := by have := List.getElem?_eq_getElem hk; rw [hx] at this; exact (Option.some.inj this).symm
     have hh := List.not_of_lt_findIdx (p := (· == x)) (xs := l) h
     rw [hxx] at hh
     simp at hh
   rw [e]) (fun k x hprev hx hb => by
   have hk := b1m hx
   unfold c0i
   simp only [b1g hx, Option.bind_some, Int.ofNat_lt, hk, decide_true, if_true, hb, decide_false, Bool.false_eq_true, if_false]
   rw [b2t hk (b1p hl)]) (by unfold c0i; simp only [Int.lt_irrefl, decide_false, Bool.false_eq_true, if_false]) (s0 := ()) rfl with ⟨h1, h2⟩ | ⟨⟨k, x, h1, h2⟩, h3⟩
 ·rw [h2, if_neg (fun h => by obtain ⟨k, hk⟩ := b1c.1 h; exact h1 k q hk rfl)]; rfl
 ·rw [h3, if_pos (b1c.2 ⟨k, h2 ▸ h1⟩)]; rfl
theorem d4g {m : Machine} (hs : SizesOk m) : c29 m = some ((2 ^ m.Inputs.length : Nat) : Int) := by
 have := hs.i
 unfold c29
 rw [c72 (by omega) (by omega), c7e (by omega)]
 simp
theorem d28 {m : Machine} (hs : SizesOk m) : 2 ^ m.Inputs.length <= 16 := Nat.pow_le_pow_right (n := 2) (by omega) hs.i
theorem b51 {α : Type} {b : Nat} {l m : List α} (hl : l.length <= 1000) (hm : m.length <= 1000) (hb : b <= 1000) : ap b l m = some (l ++ m) := b72 (by
 have : (l.length + m.length) * b <= 2000 * 1000 := Nat.mul_le_mul (by omega) hb
 omega)
theorem j3w (hm : OkM m) {ins : Bool} (hc : b2w m ins c) {inp val : Int} (hh : ∀ x : Nat, x < 2 ^ m.Inputs.length -> b49 x inp val = some (hd x)) {i : Nat} {p : Place} (hp : OkP m p) {s : S3} (hg : Good m s) (hi : s.1[i]? = some p) :
  b0w (c3a m c inp val i) (s.1, s.2.1, s.2.2, 0) = some (inn m c hd i p (2 ^ m.Inputs.length) s) := by
 have hpow := d28 hm.z
 refine b48 (2 ^ m.Inputs.length) (fun (s : S3) k => (s.1, s.2.1, s.2.2, k)) (fun k => inn m c hd i p k s) _ rfl (fun k hk => ?_) ?_
 ·have hg' := b90 (c := c) (hd := hd) (i := i) hm hp k hg
  have hi' := b99 (c2a (m := m) (c := c) (hd := hd) (i := i) (p := p) k (s := s)) hi
  have hlen := c6g hm hg'.n hg'.o
  have hb := hg'.b; have hin := hg'.i
  conv => rhs; unfold inn
  unfold c3a c0h
  simp only [d4g hm.z, Option.bind_some, Int.ofNat_lt, hk, decide_true, if_true, b1g hi', Option.bind_some]
  rw [g29 hm.z hp.s hc, Option.bind_some, b2t hk (b1p (by omega))]
  cases ha : b3x m p k c with
  | false => simp
  | true =>
   simp only [Bool.not_true, Bool.false_eq_true, if_false, if_true]
   rw [hh k hk, Option.bind_some, g3h hm hp, Option.bind_some, d27, j3u (by omega), Option.bind_some]
   unfold b5d
   by_cases hq : nxt m p (hd k) ∈ (inn m c hd i p k s).1
   ·rw [if_pos hq, if_pos hq, if_neg (by simp)]
   ·rw [if_neg hq, if_neg hq, if_pos (by simp), b51 (by omega) (by simp) (by omega), Option.bind_some, b51 (by omega) (by simp) (by omega), Option.bind_some, b51 (by omega) (by simp) (by omega), Option.bind_some]
 ·unfold c3a
  simp only [d4g hm.z, Option.bind_some, Int.lt_irrefl, decide_false, Bool.false_eq_true, if_false]
def End (m : Machine) (c : List (List Literal)) (hd : Nat -> Int) (K : Nat) : Prop := K <= 768 /\ (∀ k, k < K -> k < (b05 m c hd k).1.length) /\ (b05 m c hd K).1.length <= K
theorem g8v (hm : OkM m) {ins : Bool} (hc : b2w m ins c) {inp val : Int} (hh : ∀ x : Nat, x < 2 ^ m.Inputs.length -> b49 x inp val = some (hd x)) {K : Nat} (hK : End m c hd K) :
  b7h m c inp val = some ⟨(b05 m c hd K).1, (b05 m c hd K).2.1, (b05 m c hd K).2.2⟩ := by
 obtain ⟨hK0, hK1, hK2⟩ := hK
 unfold b7h c60
 have := b48 (f := c0g m c inp val) K (fun (s : S3) k => (s.1, s.2.1, s.2.2, k)) (fun k => b05 m c hd k) (b05 m c hd K) (s0 := ([zero], [-1], [0])) rfl (fun k hk => by
   have hlt := hK1 k hk
   obtain ⟨p, hp⟩ := b3m hlt
   have hg := b7a (c := c) (hd := hd) hm k
   unfold c0g c61
   simp only [Int.ofNat_lt, hlt, decide_true, if_true]
   rw [j3w hm hc hh (hg.o p (b1c.2 ⟨k, hp⟩)) hg hp, Option.bind_some, b2t hk (b1p (by omega))]
   conv => rhs; unfold b05
   rw [hp]) (by
   unfold c0g
   have : ¬ K < (b05 m c hd K).1.length := by omega
   simp only [Int.ofNat_lt, this, decide_false, Bool.false_eq_true, if_false])
 show (b0w (c0g m c inp val) ([zero], [-1], [0], 0)).bind _ = _
 rw [this]; rfl
end
end Go.Nw.KM
namespace Go.Nw.KM
noncomputable section
def fnd (l : List Place) : List (Place × Int) := l.zipIdx.map fun p => (p.1, (p.2 : Int))
theorem d0p (l : List Place) : (fnd l).map (·.1) = l := by
 unfold fnd
 rw [List.map_map]
 have : ((fun x : Place × Int => x.1) ∘ fun p : Place × Nat => (p.1, (p.2 : Int))) = Prod.fst := rfl
 rw [this, List.zipIdx_map_fst]
theorem g84 (l : List Place) (q : Place) : fnd (l ++ [q]) = fnd l ++ [(q, (l.length : Int))] := by
 unfold fnd
 rw [List.zipIdx_append]
 simp
theorem j2r {l : List Place} {q : Place} (h : q ∈ l) : l[l.idxOf q]? = some q := by
 have hlt := List.idxOf_lt_length_iff.2 h
 rw [List.getElem?_eq_getElem hlt, List.getElem_idxOf]
theorem g85 {l : List Place} {q : Place} (hn : l.Nodup) (h : q ∈ l) : b2q (fnd l) q 0 = (l.idxOf q : Int) := by
 refine j52 (j := l.idxOf q) (by rw [d0p]; exact hn) ?_
 unfold fnd
 rw [List.getElem?_map, List.getElem?_zipIdx, j2r h]
 simp
theorem d52 {l : List Place} {q : Place} : b6c (fnd l) q = true ↔ q ∈ l := by rw [j54, d0p]
theorem j2u {l r : List Place} (h : l <+: r) {q : Place} (hq : q ∈ l) : r.idxOf q = l.idxOf q := by
 obtain ⟨t, rfl⟩ := h
 rw [List.idxOf_append, if_pos hq]
section
variable (m : Machine) (c : List (List Literal)) (hd : Nat -> Int)
def rv (P : List Place) (p : Place) (j : Nat) : Int := if b3x m p j c = true then (P.idxOf (nxt m p (hd j)) : Int) else -1
def b8m (P : List Place) (k : Nat) : List (List Int) := tab k fun i => tab (2 ^ m.Inputs.length) (rv m c hd P (P.getD i zero))
end
variable {m : Machine} {c : List (List Literal)} {hd : Nat -> Int}
theorem g01 {P Q : List Place} (h : P <+: Q) {p : Place} {j : Nat} (hq : b3x m p j c = true -> nxt m p (hd j) ∈ P) : rv m c hd Q p j = rv m c hd P p j := by
 unfold rv
 split
 ·rename_i ha; rw [j2u h (hq ha)]
 ·rfl
theorem g8z {α : Type} {n k : Nat} {f g : Nat -> α} {z : α} (h : ∀ i, i < k -> f i = g i) : fill n f z k = fill n g z k := by
 unfold fill
 refine c0u fun i _ => ?_
 split
 ·exact h i (by assumption)
 ·rfl
theorem j3v (hm : OkM m) {ins : Bool} (hc : b2w m ins c) {heard : Int -> Option Int} (hh : ∀ x : Nat, x < 2 ^ m.Inputs.length -> heard x = some (hd x)) {i : Nat} {p : Place} (hp : OkP m p) {s : S3} (hg : Good m s) :
  b0w (c07 ⟨⟨m⟩⟩ c heard i p (tab (2 ^ m.Inputs.length) fun _ => (0 : Int))) (s.1, s.2.1, s.2.2, fnd s.1, tab (2 ^ m.Inputs.length) (fun _ => (0 : Int)), 0) =
   some ((inn m c hd i p (2 ^ m.Inputs.length) s).1, (inn m c hd i p (2 ^ m.Inputs.length) s).2.1, (inn m c hd i p (2 ^ m.Inputs.length) s).2.2, fnd (inn m c hd i p (2 ^ m.Inputs.length) s).1, tab (2 ^ m.Inputs.length) (rv m c hd (inn m c hd i p (2 ^ m.Inputs.length) s).1 p)) := by
 have hpow := d28 hm.z
 refine b48 (2 ^ m.Inputs.length) (fun (s : S3 × List Int) k => (s.1.1, s.1.2.1, s.1.2.2, fnd s.1.1, s.2, k)) (fun k => (inn m c hd i p k s, fill (2 ^ m.Inputs.length) (rv m c hd (inn m c hd i p k s).1 p) 0 k)) _ (s0 := (s, tab (2 ^ m.Inputs.length) fun _ => (0 : Int))) (by
   rw [show inn m c hd i p 0 s = s from rfl, <- g81, d32]) (fun k hk => ?_) ?_
 ·have hg' := b90 (c := c) (hd := hd) (i := i) hm hp k hg
  have hlen := c6g hm hg'.n hg'.o
  have hb := hg'.b; have hin := hg'.i
  have hmem : ∀ j, j < k -> b3x m p j c = true -> nxt m p (hd j) ∈ (inn m c hd i p k s).1 := fun j hj ha => d02 ha k hj
  conv => rhs; unfold inn
  unfold c07 c09 c08
  simp only [b4v, Int.ofNat_lt, hk, decide_true, if_true, g9y hk, Option.bind_some, d27, Int.toNat_natCast]
  rw [g28 hm.z hp.s hc, Option.bind_some, b2t hk (b1p (by omega))]
  have gs : ∀ v : Int, get (List.set (fill (2 ^ m.Inputs.length) (rv m c hd (inn m c hd i p k s).1 p) 0 k) k v) (k : Int) = some v := fun v => by
   refine b1g ?_
   rw [List.getElem?_set, if_pos rfl, if_pos (by rw [g80]; exact hk)]
  cases ha : b3x m p k c with
  | false =>
   simp only [Bool.not_false, if_true, Bool.false_eq_true, if_false]
   rw [d0h (by unfold rv; rw [if_neg (by simp [ha])])]
  | true =>
   simp only [Bool.not_true, Bool.false_eq_true, if_false, if_true]
   rw [hh k hk, Option.bind_some, g3l hm hp, Option.bind_some]
   unfold b5d
   by_cases hq : nxt m p (hd k) ∈ (inn m c hd i p k s).1
   ·rw [if_pos hq, if_neg (by rw [d52.2 hq]; simp), gs, Option.bind_some, List.set_set, d0h (by unfold rv; rw [if_pos ha, g85 hg'.n hq])]
   ·have hnh : b6c (fnd (inn m c hd i p k s).1) (nxt m p (hd k)) = false := c4w fun h => hq (d52.1 h)
    rw [if_neg hq, if_pos (by rw [hnh]; rfl), b51 (by omega) (by simp) (by omega), Option.bind_some, b51 (by omega) (by simp) (by omega), Option.bind_some, b51 (by omega) (by simp) (by omega), Option.bind_some,
     gs, Option.bind_some, List.set_set, d9w (by rw [d0p]; exact hq), <- g84]
    have e1 : fill (2 ^ m.Inputs.length) (rv m c hd (inn m c hd i p k s).1 p) 0 k = fill (2 ^ m.Inputs.length) (rv m c hd ((inn m c hd i p k s).1 ++ [nxt m p (hd k)]) p) 0 k :=
     g8z fun j hj => (g01 (List.prefix_append _ _) (hmem j hj)).symm
    rw [e1, d0h (by
     unfold rv; rw [if_pos ha, List.idxOf_append, if_neg hq]
     simp)]
 ·unfold c07
  simp only [b4v, Int.lt_irrefl, decide_false, Bool.false_eq_true, if_false, g8y (Nat.le_refl _)]
theorem closed {k i j : Nat} {p : Place} (hp : (b05 m c hd k).1[i]? = some p) (hi : i < k) (ha : b3x m p j c = true) (hj : j < 2 ^ m.Inputs.length) : nxt m p (hd j) ∈ (b05 m c hd k).1 := by
 induction k with
 | zero => omega
 | succ k ih =>
  have hpre := c2m (m := m) (c := c) (hd := hd) k
  by_cases e : i = k
  ·subst e
   conv at hp => lhs; unfold b05
   cases hq : (b05 m c hd i).1[i]? with
   | none =>
    simp only [hq] at hp
    cases hp
   | some q =>
    have : p = q := by
     have h1 := b99 hpre hq
     conv at h1 => lhs; unfold b05
     rw [h1] at hp; exact (Option.some.inj hp).symm
    subst this
    have hout : b05 m c hd (i + 1) = inn m c hd i p (2 ^ m.Inputs.length) (b05 m c hd i) := by
     conv => lhs; unfold b05
     rw [hq]
    rw [hout]
    exact d02 ha _ hj
  ·by_cases hlt : i < (b05 m c hd k).1.length
   ·obtain ⟨q, hq⟩ := b3m hlt
    have h1 := b99 hpre hq
    rw [h1] at hp
    have : p = q := (Option.some.inj hp).symm
    subst this
    exact hpre.subset (ih hq (by omega))
   ·have hn : (b05 m c hd k).1[k]? = none := List.getElem?_eq_none (by omega)
    conv at hp => lhs; unfold b05
    simp only [hn] at hp
    exact absurd (b1m hp) hlt
theorem j8j {k : Nat} (hk : ∀ j, j <= k -> j < (b05 m c hd j).1.length) : b8m m c hd (b05 m c hd (k + 1)).1 (k + 1) = b8m m c hd (b05 m c hd k).1 k ++ [tab (2 ^ m.Inputs.length) (rv m c hd (b05 m c hd (k + 1)).1 ((b05 m c hd (k + 1)).1.getD k zero))] := by
 unfold b8m
 rw [l3x]
 congr 1
 refine c0u fun i hi => ?_
 have hlt := Nat.lt_of_lt_of_le (hk i (by omega)) (l0s (m := m) (c := c) (hd := hd) (show i <= k by omega)).length_le
 obtain ⟨p, hp⟩ := b3m hlt
 have hp' := b99 (c2m (m := m) (c := c) (hd := hd) k) hp
 simp only [List.getD_eq_getElem?_getD, hp, hp', Option.getD_some]
 exact c0u fun j hj => g01 (c2m k) fun ha => closed hp hi ha hj
def c74 (m : Machine) (c : List (List Literal)) (hd : Nat -> Int) (K : Nat) : control_walk := ⟨(b05 m c hd K).1, (b05 m c hd K).2.1, (b05 m c hd K).2.2, b8m m c hd (b05 m c hd K).1 K⟩
theorem g8u (hm : OkM m) {ins : Bool} (hc : b2w m ins c) {heard : Int -> Option Int} (hh : ∀ x : Nat, x < 2 ^ m.Inputs.length -> heard x = some (hd x)) {K : Nat} (hK : End m c hd K) :
  c06 ⟨⟨m⟩⟩ c heard = some (c74 m c hd K) := by
 obtain ⟨hK0, hK1, hK2⟩ := hK
 have hpow := d28 hm.z
 unfold c06 c4k
 have := b48 (f := b9b ⟨⟨m⟩⟩ c heard) K (fun (s : S3 × List (List Int)) k => (s.1.1, s.1.2.1, s.1.2.2, s.2, fnd s.1.1, k)) (fun k => (b05 m c hd k, b8m m c hd (b05 m c hd k).1 k)) ((b05 m c hd K).1, (b05 m c hd K).2.1, (b05 m c hd K).2.2, b8m m c hd (b05 m c hd K).1 K) (s0 := (([zero], [-1], [0]), [])) rfl (fun k hk => by
   have hlt := hK1 k hk
   obtain ⟨p, hp⟩ := b3m hlt
   have hg := b7a (c := c) (hd := hd) hm k
   have hall : c1a ⟨m⟩ = some ((2 ^ m.Inputs.length : Nat) : Int) := by
    unfold c1a
    have := hm.z.i
    simp only
    rw [c7e (by omega)]; simp
   have hout : b05 m c hd (k + 1) = inn m c hd k p (2 ^ m.Inputs.length) (b05 m c hd k) := by
    conv => lhs; unfold b05
    rw [hp]
   have hg' := b7a (c := c) (hd := hd) hm (k + 1)
   have hp' := b99 (c2m (m := m) (c := c) (hd := hd) k) hp
   rw [j8j fun j hj => hK1 j (by omega), List.getD_eq_getElem?_getD, hp', Option.getD_some]
   unfold b9b c4j c4l
   simp only [Int.ofNat_lt, hlt, decide_true, if_true, b1g hp, Option.bind_some]
   rw [hall, Option.bind_some, j56 (by omega) (by omega), Option.bind_some, j3v hm hc hh (hg.o p (b1c.2 ⟨k, hp⟩)) hg, Option.bind_some, <- hout]
   simp only
   rw [b51 (by unfold b8m; rw [b4v]; omega) (by simp) (by omega), Option.bind_some, b2t hk (b1p (by omega))]) (by
   unfold b9b
   have : ¬ K < (b05 m c hd K).1.length := by omega
   simp only [Int.ofNat_lt, this, decide_false, Bool.false_eq_true, if_false])
 have e0 : b3p ([] : List (Place × Int)) (Place.mk 0 (0, 0)) 0 = fnd [zero] := rfl
 rw [e0]
 show (b0w (b9b ⟨⟨m⟩⟩ c heard) ([zero], [-1], [0], [], fnd [zero], 0)).bind _ = _
 rw [this]; rfl
end
end Go.Nw.KM
namespace Go.Nw.KM
noncomputable section
def Few {α : Type} (l : List α) : Prop := l.length <= 1048576
def c9m (c : List (List Literal)) : Prop := Few c /\ ∀ t ∈ c, Few t
structure FewM (m : Machine) : Prop where
 i : Few m.Inputs
 o : Few m.Outputs
 c : Few m.Counters
 s : Few m.States
 r : Few m.Rules
 w : ∀ r ∈ m.Rules, c9m r.When /\ Few r.Sets
 n : ∀ n ∈ b29 m, n.size <= maxLen
theorem b6m {α : Type} {b : Nat} {l m : List α} (hl : l.length <= 1048576) (hm : m.length <= 1048576) (hb : b <= 64) : ap b l m = some (l ++ m) := b72 (by
 have : (l.length + m.length) * b <= 2097152 * 64 := Nat.mul_le_mul (by omega) hb
 omega)
theorem d5z {n : Nat} (h : n <= 1048576) : n <= maxLen := by simp only [maxLen]; omega
theorem g1e {α : Type} {l : List α} {k : Nat} {x : α} (hx : l[k]? = some x) : l.take k ++ [x] = l.take (k + 1) := by
 rw [List.take_add_one, hx]; rfl
theorem c9l {c : List (List Literal)} (h : c9m c) : b8r c = some c := by
 have h1 := h.1
 unfold Few at h1
 unfold b8r c6o
 have := b48 (f := c2w c) c.length (fun (s : List (List Literal)) k => (s, k)) (fun k => c.take k) c (s0 := []) rfl (fun k hk => by
   obtain ⟨x, hx⟩ := b3m hk
   have hf : x.length <= 1048576 := h.2 x (b1c.2 ⟨k, hx⟩)
   unfold c2w
   simp only [Int.ofNat_lt, hk, decide_true, if_true, b1g hx, Option.bind_some]
   rw [b6m (by simp) hf (by omega), Option.bind_some, List.nil_append, b6m (by rw [List.length_take]; omega) (by simp) (by omega), Option.bind_some, b2t hk (d5z h1), g1e hx]) (by
   unfold c2w
   simp only [Int.lt_irrefl, decide_false, Bool.false_eq_true, if_false, List.take_length])
 rw [this]; rfl
theorem l2q (r : Rule) : Rule.mk r.From r.To r.When r.Sets = r := rfl
theorem g3d {m : Machine} (h : FewM m) : c2v m = some m := by
 have hi := h.i; have ho := h.o; have hc := h.c; have hs := h.s; have hr := h.r
 unfold Few at hi ho hc hs hr
 unfold c2v c6p
 rw [b6m (by simp) hi (by omega), Option.bind_some, b6m (by simp) ho (by omega), Option.bind_some, b6m (by simp) hc (by omega), Option.bind_some, b6m (by simp) hs (by omega), Option.bind_some]
 have := b48 (f := c2x m) m.Rules.length (fun (s : List Rule) k => (s, k)) (fun k => m.Rules.take k) m.Rules (s0 := []) rfl (fun k hk => by
   obtain ⟨x, hx⟩ := b3m hk
   obtain ⟨h1, h2⟩ := h.w x (b1c.2 ⟨k, hx⟩)
   unfold c2x
   simp only [Int.ofNat_lt, hk, decide_true, if_true, b1g hx, Option.bind_some]
   rw [c9l h1, Option.bind_some, b6m (by simp) h2 (by omega), Option.bind_some, List.nil_append, l2q, b6m (by rw [List.length_take]; omega) (by simp) (by omega), Option.bind_some, b2t hk (d5z hr), g1e hx]) (by
   unfold c2x
   simp only [Int.lt_irrefl, decide_false, Bool.false_eq_true, if_false, List.take_length])
 rw [this]; rfl
theorem l3b {a : List Int} (h : a.length <= maxLen) : c2h a a = some true := by
 unfold c2h c50
 rw [if_neg (by simp)]
 have := b48 (f := c2i a a) a.length (fun (_ : Unit) k => k) (fun _ => ()) (.inl ()) (s0 := ()) rfl (fun k hk => by
   obtain ⟨x, hx⟩ := b3m hk
   unfold c2i
   simp only [Int.ofNat_lt, hk, decide_true, if_true, b1g hx, Option.bind_some, not_true_eq_false, decide_false, Bool.false_eq_true, if_false, b2t hk h]) (by
   unfold c2i
   simp only [Int.lt_irrefl, decide_false, Bool.false_eq_true, if_false])
 rw [this]; rfl
def b30 (m : Machine) : Nat -> Int
 | 0 => m.States.length
 | k + 1 => match m.Counters[k]? with | some c => b30 m k * (c.Max + 1) | none => b30 m k
theorem d45 {m : Machine} (hm : OkM m) : ∀ k, 0 <= b30 m k /\ b30 m k <= 12 * 8 ^ k
 | 0 => by have := hm.z.s; unfold b30; simp; omega
 | k + 1 => by
  obtain ⟨h0, h1⟩ := d45 hm k
  unfold b30
  have hp : (8 : Int) ^ (k + 1) = 8 ^ k * 8 := Int.pow_succ _ _
  cases hx : m.Counters[k]? with
  | none => simp only; omega
  | some c =>
   have := hm.c c (b1c.2 ⟨k, hx⟩)
   have h2 : b30 m k * (c.Max + 1) <= b30 m k * 8 := Int.mul_le_mul_of_nonneg_left (by omega) h0
   exact ⟨Int.mul_nonneg h0 (by omega), by simp only; omega⟩
theorem g3n {m : Machine} (hf : ∀ n ∈ b29 m, n.size <= maxLen) : (¬ OkM m /\ b8j m = some false) \/ (OkM m /\ b8j m = some (decide (3 < (m.Inputs.length : Int)) || decide (80 < b30 m m.Counters.length))) := by
 unfold b8j
 obtain ⟨e, h1, h2⟩ := d4c hf
 rw [h1, Option.bind_some]
 rcases h2 with ⟨rfl, ho⟩ | ⟨rfl, ho⟩
 case inr => exact .inl ⟨ho, rfl⟩
 refine .inr ⟨ho, ?_⟩
 rw [if_neg (by simp)]
 have hc := ho.z.c
 have hb : ∀ k, k <= m.Counters.length -> 0 <= b30 m k /\ b30 m k <= 768 := fun k hk => by
  obtain ⟨h0, h1⟩ := d45 ho k
  have : k = 0 \/ k = 1 \/ k = 2 := by omega
  rcases this with rfl | rfl | rfl <;> simp at h1 <;> omega
 have := b48 (f := c2g m) m.Counters.length (fun (s : Int) k => (s, k)) (b30 m) (b30 m m.Counters.length) (s0 := (m.States.length : Int)) rfl (fun k hk => by
   obtain ⟨x, hx⟩ := b3m hk
   have hM := ho.c x (b1c.2 ⟨k, hx⟩)
   have h3 := hb k (by omega)
   have h4 := hb (k + 1) (by omega)
   have e : b30 m (k + 1) = b30 m k * (x.Max + 1) := by conv => lhs; unfold b30; rw [hx]
   unfold c2g
   simp only [Int.ofNat_lt, hk, decide_true, if_true, b1g hx, Option.bind_some]
   rw [b2t hk (b1p (by omega)), b3l (by omega : -9223372036854775808 <= x.Max + 1) (by omega), <- e, b3l (by omega) (by omega)]) (by
   unfold c2g
   simp only [Int.lt_irrefl, decide_false, Bool.false_eq_true, if_false])
 rw [this]; rfl
end
end Go.Nw.KM
namespace Go.Nw.KM
noncomputable section
def b5v (m : Machine) (c : List (List Literal)) (hd : Nat -> Int) : Place -> List Nat -> Place -> Prop
 | p, [], q => p = q
 | p, x :: l, q => x < 2 ^ m.Inputs.length /\ b3x m p x c = true /\ b5v m c hd (nxt m p (hd x)) l q
theorem d6c {m : Machine} {c : List (List Literal)} {hd : Nat -> Int} : ∀ {l : List Nat} {p q : Place} {x : Nat}, b5v m c hd p l q -> x < 2 ^ m.Inputs.length -> b3x m q x c = true -> b5v m c hd p (l ++ [x]) (nxt m q (hd x))
 | [], p, q, x, h, h1, h2 => by cases h; exact ⟨h1, h2, rfl⟩
 | y :: l, p, q, x, h, h1, h2 => ⟨h.1, h.2.1, d6c h.2.2 h1 h2⟩
structure Tr (m : Machine) (c : List (List Literal)) (hd : Nat -> Int) (s : S3) : Prop where
 z : s.1[0]? = some zero
 b : s.2.1[0]? = some (-1)
 t : ∀ (k : Nat) q, 1 <= k -> s.1[k]? = some q -> ∃ (b x : Nat) (p : Place), s.2.1[k]? = some (b : Int) /\ s.2.2[k]? = some (x : Int) /\ b < k /\ x < 2 ^ m.Inputs.length /\ s.1[b]? = some p /\ b3x m p x c = true /\ q = nxt m p (hd x)
section
variable {m : Machine} {c : List (List Literal)} {hd : Nat -> Int}
theorem b9s {α : Type} {l : List α} {k : Nat} {x y : α} (h : l[k]? = some x) : (l ++ [y])[k]? = some x := by
 rw [List.getElem?_append_left (b1m h)]; exact h
theorem g3r {s : S3} (hg : Good m s) (ht : Tr m c hd s) {i x : Nat} {p : Place} (hp : s.1[i]? = some p) (hx : x < 2 ^ m.Inputs.length) (ha : b3x m p x c = true) : Tr m c hd (b5d s i x (nxt m p (hd x))) := by
 unfold b5d
 split
 ·exact ht
 ·refine ⟨b9s ht.z, b9s ht.b, fun k q hk hq => ?_⟩
  by_cases hlt : k < s.1.length
  ·rw [List.getElem?_append_left hlt] at hq
   obtain ⟨b, x', p', h1, h2, h3, h4, h5, h6⟩ := ht.t k q hk hq
   exact ⟨b, x', p', b9s h1, b9s h2, h3, h4, b9s h5, h6⟩
  ·have hkl := b1m hq
   simp only [List.length_append, List.length_cons, List.length_nil] at hkl
   have e : k = s.1.length := by omega
   subst e
   simp only [List.getElem?_append_right (Nat.le_refl _), Nat.sub_self, List.getElem?_cons_zero, Option.some.injEq] at hq
   subst hq
   refine ⟨i, x, p, ?_, ?_, b1m hp, hx, b9s hp, ha, rfl⟩
   ·rw [<- hg.b]; simp
   ·rw [<- hg.i]; simp
theorem d03 (hm : OkM m) {i : Nat} {p : Place} (hp : OkP m p) : ∀ (x : Nat) {s : S3}, x <= 2 ^ m.Inputs.length -> Good m s -> Tr m c hd s -> s.1[i]? = some p -> Tr m c hd (inn m c hd i p x s)
 | 0, s, _, hg, ht, hi => ht
 | x + 1, s, hx, hg, ht, hi => by
  unfold inn; split
  ·rename_i ha
   exact g3r (b90 hm hp x hg) (d03 hm hp x (by omega) hg ht hi) (b99 (c2a x) hi) (by omega) ha
  ·exact d03 hm hp x (by omega) hg ht hi
theorem g0d (hm : OkM m) : ∀ k, Tr m c hd (b05 m c hd k)
 | 0 => by
  refine ⟨rfl, rfl, fun k q hk hq => ?_⟩
  have := b1m hq
  simp only [b05, List.length_cons, List.length_nil] at this
  omega
 | k + 1 => by
  have hg := b7a (c := c) (hd := hd) hm k
  have ht := g0d hm k
  unfold b05
  cases hp : (b05 m c hd k).1[k]? with
  | none => exact ht
  | some p => exact d03 hm (hg.o p (b1c.2 ⟨k, hp⟩)) _ (Nat.le_refl _) hg ht hp
def b23 (l : List Nat) : List Int := l.map fun x : Nat => (x : Int)
theorem d8o {l : List Nat} : (b23 l).length = l.length := by simp [b23]
theorem d8n {l r : List Nat} : b23 (l ++ r) = b23 l ++ b23 r := by simp [b23]
theorem d8p {x : Nat} : b23 [x] = [(x : Int)] := rfl
theorem g3k {l : List Int} (hl : l.length <= maxLen) : c3x l = some l.reverse := by
 unfold c3x c7w
 have hml : (maxLen : Int) <= 9223372036854775807 := by decide
 rw [c0w hl]
 have key : ∀ d i : Nat, l.length - 2 * i <= d -> 2 * i <= l.length + 1 -> b0w c0s (tab l.length (fun q => if q < i \/ l.length - 1 - i < q then l.getD (l.length - 1 - q) 0 else l.getD q 0), (i : Int), (l.length : Int) - 1 - i) = some l.reverse := by
  intro d
  induction d with
  | zero =>
   intro i hd hi
   refine b34 ?_
   unfold c0s
   have : ¬ ((i : Int) < (l.length : Int) - 1 - i) := by omega
   simp only [this, decide_false, Bool.false_eq_true, if_false, Option.some.injEq, Out.br.injEq]
   apply List.ext_getElem
   ·rw [b4v, List.length_reverse]
   ·intro q h1 h2
    rw [b4v] at h1
    simp only [tab, List.getElem_map, List.getElem_range, List.getElem_reverse]
    split
    ·rw [List.getD_eq_getElem?_getD, List.getElem?_eq_getElem (by omega)]; rfl
    ·have : l.length - 1 - q = q := by omega
     rw [List.getD_eq_getElem?_getD, List.getElem?_eq_getElem (by omega)]
     simp only [this]; rfl
  | succ d ih =>
   intro i hd hi
   by_cases hlt : 2 * i + 1 < l.length
   case neg =>
    refine b34 ?_
    unfold c0s
    have : ¬ ((i : Int) < (l.length : Int) - 1 - i) := by omega
    simp only [this, decide_false, Bool.false_eq_true, if_false, Option.some.injEq, Out.br.injEq]
    apply List.ext_getElem
    ·rw [b4v, List.length_reverse]
    ·intro q h1 h2
     rw [b4v] at h1
     simp only [tab, List.getElem_map, List.getElem_range, List.getElem_reverse]
     split
     ·rw [List.getD_eq_getElem?_getD, List.getElem?_eq_getElem (by omega)]; rfl
     ·have : l.length - 1 - q = q := by omega
      rw [List.getD_eq_getElem?_getD, List.getElem?_eq_getElem (by omega)]
      simp only [this]; rfl
   case pos =>
    have hj : (l.length : Int) - 1 - i = ((l.length - 1 - i : Nat) : Int) := by omega
    rw [<- ih (i + 1) (by omega) (by omega)]
    refine b6a ?_
    unfold c0s
    have : (i : Int) < ((l.length - 1 - i : Nat) : Int) := by omega
    simp only [hj, this, decide_true, if_true, c5f (show l.length - 1 - i < l.length by omega), c5f (show i < l.length by omega), Option.bind_some, Int.toNat_natCast]
    rw [if_neg (by omega), if_neg (by omega), d33, c5f (by omega), Option.bind_some, d33, b3l (by omega) (by omega), b3l (by omega) (by omega)]
    congr 2
    refine Prod.ext ?_ (Prod.ext ?_ ?_)
    ·refine c0u fun q hq => ?_
     by_cases e1 : q = l.length - 1 - i
     ·rw [if_pos e1, if_pos (by omega)]; congr 1; omega
     ·rw [if_neg e1]
      by_cases e2 : q = i
      ·rw [if_pos e2, if_pos (by omega)]; congr 1; omega
      ·rw [if_neg e2]
       by_cases e3 : q < i \/ l.length - 1 - i < q
       ·rw [if_pos e3, if_pos (by omega)]
       ·rw [if_neg e3, if_neg (by omega)]
    ·simp
    ·simp only; omega
 have h0 := key l.length 0 (by omega) (by omega)
 have e : tab l.length (fun q => if q < 0 \/ l.length - 1 - 0 < q then l.getD (l.length - 1 - q) 0 else l.getD q 0) = l := by
  apply List.ext_getElem
  ·rw [b4v]
  ·intro q h1 h2
   simp only [tab, List.getElem_map, List.getElem_range]
   rw [if_neg (by omega), List.getD_eq_getElem?_getD, List.getElem?_eq_getElem h2]; rfl
 rw [e] at h0
 simp only [Int.natCast_zero, Int.sub_zero] at h0
 rw [h0]; rfl
theorem l2w {s : S3} (hg : Good m s) (ht : Tr m c hd s) (hl : s.1.length <= 768) (w : control_walk) (g : r04_graph) (hw : w.from_ = s.2.1 /\ w.by_ = s.2.2) (hgr : g.back = s.2.1 /\ g.input = s.2.2) (k : Nat) (hk : k < s.1.length) :
  ∃ P : List Nat, b7s w k = some (b23 P) /\ b5c g k = some (b23 P) /\ P.length <= k /\ ∃ q, s.1[k]? = some q /\ b5v m c hd zero P q := by
 have key : ∀ d k : Nat, k <= d -> k < s.1.length -> ∃ P : List Nat, P.length <= k /\ (∃ q, s.1[k]? = some q /\ b5v m c hd zero P q) /\
   (∀ l : List Int, l.length + k <= 768 -> b0w (b7t w) ((k : Int), l) = some (l ++ (b23 P).reverse)) /\
   (∀ l : List Int, l.length + k <= 768 -> b0w (b7w g) ((k : Int), l) = some ((b23 P) ++ l)) := by
  intro d
  induction d with
  | zero =>
   intro k h1 h2
   obtain rfl : k = 0 := by omega
   refine ⟨[], Nat.le_refl _, ⟨zero, ht.z, rfl⟩, fun l hl => ?_, fun l hl => ?_⟩
   ·refine b34 ?_
    unfold b7t
    simp only [hw.1]
    have := b1g ht.b
    simp only [Int.natCast_zero] at this ⊢
    rw [this]; simp [b23]
   ·refine b34 ?_
    unfold b7w; simp [b23]
  | succ d ih =>
   intro k h1 h2
   by_cases hz : k = 0
   ·exact ih k (by omega) h2
   obtain ⟨q, hq⟩ := b3m h2
   obtain ⟨b, x, p, e1, e2, e3, e4, e5, e6, rfl⟩ := ht.t k q (by omega) hq
   obtain ⟨P, p1, ⟨q', p2, p3⟩, p4, p5⟩ := ih b (by omega) (b1m e5)
   rw [e5] at p2; cases p2
   refine ⟨P ++ [x], by simp; omega, ⟨_, hq, d6c p3 e4 e6⟩, fun l hl => ?_, fun l hl => ?_⟩
   ·have : b0w (b7t w) ((k : Int), l) = b0w (b7t w) ((b : Int), l ++ [(x : Int)]) := b6a (by
     unfold b7t
     simp only [hw.1, hw.2, b1g e1, b1g e2, Option.bind_some, Int.natCast_nonneg, decide_true, if_true]
     rw [b51 (by omega) (by simp) (by omega), Option.bind_some])
    rw [this, p4 _ (by simp; omega), d8n, d8p]
    simp
   ·have : b0w (b7w g) ((k : Int), l) = b0w (b7w g) ((b : Int), (x : Int) :: l) := b6a (by
     unfold b7w
     have : 0 < (k : Int) := by omega
     simp only [hgr.1, hgr.2, b1g e1, b1g e2, Option.bind_some, this, decide_true, if_true]
     rw [b51 (by simp) (by omega) (by omega), Option.bind_some]; rfl)
    rw [this, p5 _ (by simp; omega), d8n, d8p]
    simp
 obtain ⟨P, p1, p2, p3, p4⟩ := key k k (Nat.le_refl _) hk
 refine ⟨P, ?_, ?_, p1, p2⟩
 ·unfold b7s c4i
  rw [p3 [] (by simp; omega), Option.bind_some, List.nil_append, g3k (by rw [List.length_reverse, d8o]; exact b1p (by omega)), Option.bind_some, List.reverse_reverse]
 ·unfold b5c c4o
  rw [p4 [] (by simp; omega), Option.bind_some, List.append_nil]
end
end
end Go.Nw.KM
namespace Go.Nw.KM
section
variable [Bd]
theorem d34 {c : List (List Literal)} (hB : Bd.B <= 1048576) (h : OkL (OkL b5q) c) : c9m c := ⟨Nat.le_trans h.1 hB, fun t ht => Nat.le_trans (h.2 t ht).1 hB⟩
theorem l3z {m : Machine} (h : b88 m) : ∀ n ∈ b29 m, n.size <= maxLen := by
 obtain ⟨h1, h2, h3, h4, h5⟩ := h
 intro n hn
 have hB := Bd.le
 simp only [b29, List.mem_append, List.mem_map] at hn
 rcases hn with ((hn | hn) | ⟨c, hc, rfl⟩) | ⟨c, hc, rfl⟩
 ·exact Nat.le_trans (h1.2 n hn) hB
 ·exact Nat.le_trans (h2.2 n hn) hB
 ·exact Nat.le_trans (h3.2 c hc).1 hB
 ·exact Nat.le_trans (h4.2 c hc).1 hB
theorem tdm {m : Machine} (hB : Bd.B <= 1048576) (h : b88 m) : FewM m := by
 have hn := l3z h
 obtain ⟨h1, h2, h3, h4, h5⟩ := h
 exact ⟨Nat.le_trans h1.1 hB, Nat.le_trans h2.1 hB, Nat.le_trans h3.1 hB, Nat.le_trans h4.1 hB, Nat.le_trans h5.1 hB, fun r hr => ⟨d34 hB (h5.2 r hr).2.2.1, Nat.le_trans (h5.2 r hr).2.2.2.1 hB⟩, hn⟩
theorem l5n {m : Machine} (hf : ∀ n ∈ b29 m, n.size <= maxLen) : ∃ b, b8j m = some b := by
 rcases g3n hf with ⟨_, h⟩ | ⟨_, h⟩ <;> exact ⟨_, h⟩
end
end Go.Nw.KM
